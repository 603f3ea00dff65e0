/- Part 24. -/
import Derived.Test.YtdpaejbaoefdjaaGreatDoorG22
import Derived.Lib.SlMapEqual
open List renaming cons_append → aa,getElem?_eq_some_iff → af,mem_append → aq,length_pos_iff → au,mem_cons → ay,map_cons → aA,dropLast_append_of_ne_nil → aC,replicate → aJ,mem_map → aL,append_eq_nil_iff → aM,mem_of_getElem? → aN,mem_cons_of_mem → aO,mem_append_left → aP,getElem?_of_mem → aQ,prefix_append → aR,mem_singleton → aS,mem_cons_self → aT,append_assoc → aW
open Go.Lib renaming decDigits → ag
open Go renaming heap_alloc_new → ah,World → aj,Calls → aG
open Go.Lit renaming string → an
open Nat renaming le_trans → aB,lt_of_lt_of_le → aV
open Go.WideElems renaming rg → aD,rd → aU
open Prod.mk renaming injEq → aE
open Go.DataW renaming held → aF
open Go.RowKit.Below renaming refl → aH
open Option renaming isSome_iff_exists → aI
open Option.some renaming inj → aK
namespace Go.Proofs.YtdpaejbaoefdjaaGreatDoor
open Go.Proofs.Tryz
set_option maxRecDepth 100000
set_option maxHeartbeats 64000000
set_option linter.unusedVariables false
set_option linter.unusedSimpArgs false
section
open Go.RowKit Go.Shelf Go.MapKept Go.ChangeMaps Go.Maps Go.Sort Go.WideElems
def Ju:Value→Option (DataW Value×List MemPlace):=fun v=>some (.held v,[])
theorem Rw{mb:Nat}{w:aj}{m:List (cO×Raw)}(hm:dS prog 9 sv Raw.val w mb m)(hl:m.length≤1000):
  ∃es:List (Lit×DataW Value),w.ownsMap prog 9 Ju mb m.length (.map es)∧es.Perm (m.map fun x=>(an x.1,aF x.2.val)):=by
 obtain⟨es,c,h1,h2,h3,h4⟩:=hm;have hs:es.size=m.length:=by
  have:=congrArg List.length h4;simpa using this
 have hrd:∀x∈es.toList,∀l,keyOf prog 9 x.key=some l→aU prog 9 Ju x=some (l,.held x.val):=fun x hx l hk=>by
  unfold aU;rw[hk];rfl
 refine⟨_,⟨es,c,h1,⟨by rw[hs];unfold maxLen;omega,h2,fun x hx=>?_⟩,by omega,rfl⟩,?_⟩
 ·obtain⟨l,hk⟩:=h3 x hx
  exact⟨_,hrd x hx l hk⟩
 have hp:=WideShapes.sorted_perm (es.toList.map (aD prog 9 Ju));have hk:(es.toList.map (aD prog 9 Ju))=m.map fun x=>(an x.1,aF x.2.val):=by
  apply List.ext_getElem?;intro i;have h6:=congrArg (fun l=>l[i]?) h4;simp only[List.getElem?_map] at h6⊢;cases hx:es.toList[i]? with
  |none=>
   rw[hx] at h6;cases hy:m[i]? with
   |none=>rfl
   |some y=>rw[hy] at h6;simp at h6
  |some x=>
  rw[hx] at h6;cases hy:m[i]? with
  |none=>rw[hy] at h6;simp at h6
  |some y=>
  rw[hy] at h6;simp only[Option.map_some,Option.some.injEq,aE] at h6;obtain⟨l,hk⟩:=h3 x (aN hx);have hr:=hrd x (aN hx) l hk;rw[h6.1] at hk;obtain⟨_,rfl⟩:=EW hk;simp[aD,hr,h6.2]
 rw[hk] at hp;rw[hk];exact hp
def sX(M M':List (cO×Nd)):Bool:=decide (M.length=M'.length)&&M.all (fun x=>decide (dL x.1 M'=some x.2))
theorem G9{w:aj}{lo:Nat→Prop}{p:cO}{r:Raw}:∀{m:List (cO×Raw)} {M:List (cO×Nd)},iV w lo m M→(p,r)∈m→∃d,(p,d)∈M∧Reads w lo r d
 |[],[],_,h=>by simp at h
 |x::m,y::M,h,hm=>by
  rcases ay.1 hm with e|hm
  ·subst e
   exact⟨y.2,by rw[show(p,y.2)=y from Prod.ext h.1.1 rfl];exact aT ..,h.1.2⟩
  ·obtain⟨d,h1,h2⟩:=G9 h.2 hm
   exact⟨d,aO _ h1,h2⟩
 |[],_::_,h,_=>h.elim
 |_::_,[],h,_=>h.elim
theorem Dl{w:aj}{lo:Nat→Prop}:∀{m:List (cO×Raw)} {M:List (cO×Nd)} {x:cO×Nd},iV w lo m M→x∈M→∃r,(x.1,r)∈m
 |[],[],_,_,h=>by simp at h
 |z::m,y::M,x,h,hm=>by
  rcases ay.1 hm with e|hm
  ·subst e
   exact⟨z.2,by rw[show(x.1,z.2)=z from Prod.ext h.1.1.symm rfl];exact aT ..⟩
  ·obtain⟨d,h1⟩:=Dl h.2 hm
   exact⟨d,aO _ h1⟩
 |[],_::_,_,h,_=>h.elim
 |_::_,[],_,h,_=>h.elim
theorem V9{v:Value}{p:cO}(h:keyOf prog 9 v=some (.string p)):v=sv p∧p.length≤maxLen:=by
 obtain⟨s,rfl⟩:=Maps.keyOf_string_inv underlying9 h;obtain⟨q,rfl⟩:=zZ s;obtain⟨h1,h2⟩:=EW (p:=q) h;cases h2;exact⟨rfl,h1⟩
theorem Rl{a b:Bool}(h:a=b):Ending.returned (.bool a)=.returned (.bool b):=by rw[h]
def Nr(M M':List (cO×Nd))(left:Lit→Bool):Prop:=∀x∈M,left (.string x.1)=false→dL x.1 M'=some x.2
theorem Nr.step{M M':List (cO×Nd)}{left:Lit→Bool}(h:Nr M M' left){p:cO}{d:Nd}(hn:(M.map (·.1)).Nodup)(hm:(p,d)∈M)(hg:dL p M'=some d):Nr M M' (fun z=>left z&&!z.sameKey (.string p)):=fun x hx hl=>by
 by_cases hxp:x.1=p
 ·have h1:dL x.1 M=some x.2:=by
   obtain⟨j,hj⟩:=aQ hx;exact nK hn hj
  have h2:dL p M=some d:=by
   obtain⟨j,hj⟩:=aQ hm;exact nK hn hj
  rw[hxp] at h1;rw[h1] at h2;cases h2;rw[hxp];exact hg
 ·refine h x hx ?_
  have:(an x.1).sameKey (.string p)=false:=by
   cases hs:(an x.1).sameKey (.string p)
   ·rfl
   ·have:=WideAt.sameKey_eq hs
    cases this;exact absurd rfl hxp
  have hl2:(left (.string x.1)&&!(an x.1).sameKey (.string p))=false:=hl;rw[this] at hl2;simpa using hl2
structure af2(lo lo':Nat→Prop)(b1 b2 r:Nat)(m m':List (cO×Raw))(M M':List (cO×Nd))(es:List (Lit×DataW Value))(w:aj)(left:Lit→Bool)(cnt:Nat)(wr:aj):Prop where
 rg:wr.ranges prog 9 Ju b1 r m.length (.map es) left cnt
 bl:cE w wr
 good:Nr M M' left
theorem CE(w:aj)(lo lo':Nat→Prop)(b1 b2:Nat)(m m':List (cO×Raw))(M M':List (cO×Nd))(h1:dS prog 9 sv Raw.val w b1 m)(h2:dS prog 9 sv Raw.val w b2 m')
  (l1:iV w lo m M) (l2:iV w lo' m' M') (f1:Fit M) (f2:Fit M'):
  aG prog 57 #[.map (some b1),.map (some b2),.func (.func 58) #[] #[]] w fun e w'=>e=.returned (.bool (sX M M'))∧cE w w':=by
 have ql1:=fun ty=>h1.Ey underlying120 ty
 have ql2:=fun ty=>h2.Ey underlying120 ty
 rw[l1.len] at ql1;rw[l2.len] at ql2;by_cases hsz:M.length=M'.length
 ·obtain⟨es,ho,hp⟩:=Rw h1 (by have:=l1.len;have:=f1.len;omega)
  have zQ:=cD (cC h1 (cC h2 (cC l1 (cC l2 (cC f1 (cC f2 (cC hp hsz)))))));rw[hsz] at ql1;obtain⟨R,hR⟩:=cF (sX M M');rw[←hR];obtain⟨es1,hes,hap,hkeys⟩:=ho.entries oJ;cases hes;have QG:=cD (cC hap hkeys);have HR:=cD hR;clear h1 h2 l1 l2 f1 f2 hp hsz hap hkeys hR;go_enter func57,ntmps57
  go_wp2_with (at_range;refine wpList_range_own _ rfl _ 120 rfl 9 44 oJ underlying120 Ju b1 m.length _ rfl ho ?_;intro w0 ady SH hs0)
  have H0:Hid (af2 lo lo' b1 b2 w.heap.size m m' M M' es w (Maps.has (.map es)) (Maps.size (.map es:DataW Value)) w0):=cD ⟨ady,⟨SH.os,SH.tape,SH.output,SH.size,fun k hk=>SH.block k hk cM⟩,fun x hx h=>by
   exfalso
   obtain⟨h1,h2,l1,l2,f1,f2,hp,hsz⟩:=zQ.out;obtain⟨r,hr⟩:=Dl l1 hx;have hin:(an x.1,aF r.val)∈es:=hp.mem_iff.2 (aL.2 ⟨(x.1,r),hr,rfl⟩);have:Maps.has (DataW.map es) (.string x.1)=true:=List.any_eq_true.2 ⟨_,hin,WideAt.sameKey_self (QG.out.2 _ hin)⟩;rw[this] at h;cases h⟩
  clear ql1 ql2 ady SH hs0 ho;go_frame
  go_loopw [18] (fun _ wr=>∃(left:Lit→Bool) (cnt:Nat),Hid (af2 lo lo' b1 b2 w.heap.size m m' M M' es w left cnt wr))
   (fun _ wr=>wr.rangeLeft b1 w.heap.size)
  case atStart=>exact⟨_,_,H0⟩
  obtain⟨left,cnt,HS⟩:=hrel;go_wp2_with (at_next;refine wpList_next_ranges _ rfl _ rfl 9 oJ Ju id id (fun key _ _=>⟨key,rfl⟩) (fun v _ _=>⟨v,rfl⟩) b1 w.heap.size m.length _ _ _ rfl HS.out.rg ?_ ?_)
  ·intro _ hl0
   have HL0:=cD hl0;clear hl0;go_wp2
   go_ret
   refine⟨Rl ?_,HS.out.bl⟩;rw[HR.out];unfold sX;rw[decide_eq_true zQ.out.2.2.2.2.2.2.2,Bool.true_and];exact(List.all_eq_true.2 fun x hx=>decide_eq_true (HS.out.good x hx (HL0.out _))).symm
  intro x c0 kl yd yp w1 ajx hkey hlk hv hat hrg1 hlt AX hs1 DG;have hy:(yd,yp)=((aF c0:DataW Value),([]:List MemPlace)):=(aK hv).symm;simp only[aE] at hy;obtain⟨rfl,rfl⟩:=hy;obtain⟨h1,h2,l1,l2,f1,f2,hp,hsz⟩:=zQ.out;have hmem:=hp.mem_iff.1 (Maps.came_mem QG.out.1 QG.out.2 hat);obtain⟨⟨p,r⟩,hpm,he⟩:=aL.1 hmem;simp only[aE,DataW.held.injEq] at he;obtain⟨rfl,rfl⟩:=he;obtain⟨d,hdm,hrd⟩:=G9 l1 hpm;obtain⟨rfl,hpl⟩:=V9 hkey;have dB:cE w w1:=⟨AX.os.trans HS.out.bl.os,AX.tape.trans HS.out.bl.tape,AX.output.trans HS.out.bl.output,aB HS.out.bl.size AX.size,fun k hk=>(AX.block k (aV hk HS.out.bl.size) (by simp;omega)).trans (HS.out.bl.block k hk)⟩;have hkp:(M.map (·.1)).Nodup:=by rw[←l1.keys];exact h1.nodup
  have qh:dL p M'≠some d→R=false:=fun hne=>by
   rw[HR.out];unfold sX;rw[Bool.and_eq_false_iff];exact .inr (List.all_eq_false.2 ⟨(p,d),hdm,by simpa using hne⟩)
  obtain⟨lk,aae⟩:=zY (p:=p) hpl;have XU:∃(ok:Bool) (r2:Raw),(∀W,W.heap[b2]?=w.heap[b2]?→(Instr.lookup 120 (.map (some b2)) (.s p) true).run prog W=.ok (.tuple #[r2.val,.bool ok]) W)∧((ok=false∧dL p M'=none)∨∃d2,ok=true∧dL p M'=some d2∧Reads w lo' r2 d2):=by
   rcases l2.get p with ⟨g1,g2⟩|⟨r2,d2,g1,g2,g3⟩
   ·refine⟨false,oS,fun W hW=>?_,.inl ⟨rfl,g2⟩⟩
    have:=(h2.of_block hW).mT oJ tS underlying120 (L0 W) aae;rw[g1] at this;exact this
   refine⟨true,r2,fun W hW=>?_,.inr ⟨d2,rfl,g2,g3⟩⟩;have:=(h2.of_block hW).mT oJ tS underlying120 (L0 W) aae;rw[g1] at this;exact this
  obtain⟨ok,r2,XU,aiO⟩:=XU;have aeo:b2<w.heap.size:=h2.lt;have hdl:d.data.length≤1000000:=f1.data _ hdm;have aan:∀d2,dL p M'=some d2→d2.data.length≤1000000:=fun d2 h=>by
   obtain⟨z,hz,he⟩:=pM h;subst he;exact f2.data z hz
  obtain⟨a,n,c,⟨v1,v2,v3,v4,v5,v6,v7,v8⟩⟩:=r;obtain⟨a2,n2,c2,⟨x1,x2,x3,x4,x5,x6,x7,x8⟩⟩:=r2;obtain⟨w2,fH⟩:=cF (w1.alloc (.cells #[.slice a n c,.u v1,.u v2,.u v3,.i v4,.u v5,.v v6,.v v7,.v v8] 44));obtain⟨w3,kJ⟩:=cF (w2.alloc (.cells #[.slice a2 n2 c2,.u x1,.u x2,.u x3,.i x4,.u x5,.v x6,.v x7,.v x8] 44));have ue:cE w1 w2:=by rw[fH];exact cT (aH _ w1) _
  have Cw:cE w2 w3:=by rw[kJ];exact cT (aH _ w2) _
  have iU:cE w1 w3:=ue.trans (Cw.mono ue.size);have Cy:cE w w3:=dB.trans (iU.mono dB.size);have hs2:w2.heap.size=w1.heap.size+1:=by rw[fH];simp
  have g2:w3.heap[w1.heap.size]?=some (.cells #[.slice a n c,.u v1,.u v2,.u v3,.i v4,.u v5,.v v6,.v v7,.v v8] 44 (0,0)):=(Cw.block _ cK).trans (by rw[fH];exact ah w1 _);have g3:w3.heap[w1.heap.size+1]?=some (.cells #[.slice a2 n2 c2,.u x1,.u x2,.u x3,.i x4,.u x5,.v x6,.v x7,.v x8] 44 (0,0)):=by
   have:=ah w2 (.cells #[.slice a2 n2 c2,.u x1,.u x2,.u x3,.i x4,.u x5,.v x6,.v x7,.v x8] 44);rw[hs2] at this;rw[kJ];exact this
  have q2:=XU w2 ((ue.block b2 (aV aeo dB.size)).trans (dB.block b2 aeo));rw[fH] at q2;have HG:=cD (cC g2 g3);have HW:=cD (cC fH kJ);have uz:=cD (cC iU (cC Cy dB));have nT:=cD (cC hrg1 hlt);have No:=cD (hrd.below Cy);have HM:=cD (cC hdm (cC hkp qh));unfold Raw.val Raw.cells eU.cells at q2 DG;dsimp only[id] at q2 DG;unfold sv at DG;clear h1 h2 l1 l2 f1 f2 hp hsz hmem hpm hdm hrd hkey hat hrg1 hlt AX hs1 dB hkp qh aae hlk fH kJ ue Cw iU hs2 g2 g3 XU;rcases aiO with ⟨rfl,hnone⟩|⟨d2,rfl,hsome,adE⟩
  ·have HR0:R=false:=HM.out.2.2 (by rw[hnone];simp)
   subst HR0;clear hnone aan Cy;go_wp2
   go_ret
   exact⟨rfl,cT (cT uz.out.2.2 _) _⟩
  have Yb:=aan d2 hsome;have HL:=cD (R5 w3 lo lo' ⟨a,n,c,⟨v1,v2,v3,v4,v5,v6,v7,v8⟩⟩ ⟨a2,n2,c2,⟨x1,x2,x3,x4,x5,x6,x7,x8⟩⟩ d d2 No.out (adE.below Cy) hdl Yb);have QC:=cD hsome;clear hsome adE aan Yb Cy;obtain⟨i0,i1,i2,i3,i4,i5,i6,i7,i8⟩:=nine HG.out.1;obtain⟨j0,j1,j2,j3,j4,j5,j6,j7,j8⟩:=nine HG.out.2;by_cases Ww:d=d2
  ·rw[decide_eq_true Ww] at HL
   have HD:=cD Ww;clear Ww;go_wp2_with fail
   rw[←HW.out.1,←HW.out.2];go_wp2_with fail
   refine HL.out.mono ?_;rintro en w4 ⟨rfl,B4⟩;have FN:=cD (uz.out.1.trans (B4.mono uz.out.1.size));clear B4;go_wp2
   have hgr:w1.grownBy w4 none:=⟨FN.out.os,FN.out.tape,FN.out.output,FN.out.size,fun k hk _=>FN.out.block k hk⟩;have adx:=nT.out.1.kept hgr cM cM;go_roundw
   case rel=>exact⟨_,ajx,cD ⟨adx,uz.out.2.2.trans (FN.out.mono uz.out.2.2.size),HS.out.good.step HM.out.2.1 HM.out.1 (by rw[QC.out,HD.out])⟩⟩
   case measure=>rw[adx.left_eq,HS.out.rg.left_eq];exact nT.out.2
  rw[decide_eq_false Ww] at HL;have HR0:R=false:=HM.out.2.2 (by rw[QC.out];simpa using Ne.symm Ww);subst HR0;clear Ww;go_wp2_with fail
  rw[←HW.out.1,←HW.out.2];go_wp2_with fail
  refine HL.out.mono ?_;rintro en w4 ⟨rfl,B4⟩;have FN:=cD (uz.out.1.trans (B4.mono uz.out.1.size));clear B4;go_wp2
  go_ret
  exact⟨rfl,uz.out.2.2.trans (FN.out.mono uz.out.2.2.size)⟩
 have hR:sX M M'=false:=by unfold sX;rw[decide_eq_false hsz];rfl
 rw[hR];have hne:¬((M.length:Int)=(M'.length:Int)):=fun e=>hsz (by exact_mod_cast e)
 clear h1 h2 l1 l2 f1 f2 hR hsz;go_enter func57,ntmps57
 go_wp2
 go_ret
 exact⟨rfl,aH _ _⟩
section
variable{w:World}{lo lo':Nat→Prop}{b mb b2 mb2:Nat}{cP vj:cO}{cS Yy:Int}{M M':List (cO×Nd)}
def C6(cP:cO)(cS:Int)(M:List (cO×Nd))(vj:cO)(Yy:Int)(M':List (cO×Nd)):Bool:=decide (cP=vj)&&(cS==Yy)&&sX M M'
theorem dN.Al(T:dN w lo b mb cP cS M)(T2:dN w lo' b2 mb2 vj Yy M')(f1:Fit M)(f2:Fit M'):
  aG prog 21 #[.p b,.p b2] w fun e w'=>e=.returned (.bool (C6 cP cS M vj Yy M'))∧cE w w':=by
 obtain⟨c0,c1,c2⟩:=T.cells;obtain⟨d0,d1,d2⟩:=T2.cells;obtain⟨m,hm,hl⟩:=T.map;obtain⟨m2,hm2,hl2⟩:=T2.map;obtain⟨s,hsM⟩:=cF (sX M M');unfold C6;rw[←hsM];have hEQ:rX w 57 #[.map (some mb),.map (some mb2),.func (.func 58) #[] #[]] (.bool s):=fun W hW=>by
  rw[hsM];exact CE W lo lo' mb mb2 m m2 M M' (hm.of_block (hW.block _ hm.lt)) (hm2.of_block (hW.block _ hm2.lt)) (hl.imp fun _ _ h=>h.below hW) (hl2.imp fun _ _ h=>h.below hW) f1 f2
 have HEQ:=cD (hEQ.ext (aH _ w));have t1:=Bp cP vj;have g:∀(p:Addr) v,w.cell? p=some v→∀o,(gR w o).cell? p=some v:=fun p v h o=>((gR.below w o).cell (World.block_lt_of_cell? _ _ h)).trans h
 have e0:=g _ _ c0;have e1:=g _ _ c1;have e2:=g _ _ c2;have e3:=g _ _ d0;have e4:=g _ _ d1;have e5:=g _ _ d2;clear T T2 hsM hm hm2 hl hl2 hEQ c0 c1 c2 d0 d1 d2 g f1 f2;cases h1:decide (cP=vj)
 all_goals
  rw[h1] at t1;clear h1;cases h2:(cS==Yy)
  all_goals
   go_enter func21,ntmps21
   go_wp2_with fail
   refine lM cJ cJ ?_
   repeat (go_big_quiet_step (first|(go_at_call 57;exact HEQ.out _)))
   refine wpQuiet_nil ?_;intro w' hw';obtain⟨oq,Ko⟩:=hw';subst Ko;go_wp2
   go_ret
   exact⟨rfl,gR.below w oq⟩
end
end
section
open Go.RowKit Go.Shelf Go.MapKept Go.ChangeMaps Go.Maps Go.Sort
theorem rL{w:aj}{lo:Nat→Prop}{hi:Nat}{a:Option Addr}{D:cO}{c:Nat}(h:eP w lo hi a D)(hn:a=none→D=[]∧c=0):(convert 32 9 (.slice a D.length c)).run prog w=.ok (.s D) w:=by
 cases a with
 |none=>
  obtain⟨rfl,rfl⟩:=hn rfl;exact run_convert_bytes_nil w 32 5 underlying32 underlying5 0 0 9 underlying9
 |some ad=>
 refine run_convert_bytes_back w 32 9 5 ad c D underlying32 underlying5 underlying9 fun j hj=>?_
 obtain⟨b,off,e,_,_,h4⟩:=h j D[j] (List.getElem?_eq_getElem hj);cases e;rw[Addr.add_mid];exact h4
theorem wE.sl{w:aj}{base:Nat}{a:Option Addr}{n c:Nat}{L:List cO}(h:wE w base (.slice a n c) L):n=L.length∧gZ w w.heap.size a L:=by
 rcases h with ⟨h1,rfl⟩|⟨g,cap,h1,h2,h3,h4,h5⟩
 ·cases h1
  exact⟨rfl,gZ.nil _ _ _⟩
 cases h1;refine⟨rfl,fun k p hk=>⟨g,0,rfl,h3,?_⟩⟩;rw[Nat.zero_add];exact h5 k p hk
structure TR(w0 w:aj)(b:Nat)(cP:cO)(cS:Int)(M:List (cO×Nd)):Prop where
 tree:∃lo mb,dN w lo b mb cP cS M
 bl:cE w0 w
 hb:w0.heap.size≤b
 fit:Fit M
 rl:cP.length≤1000
 hm:dM w0
def atA(cP:cO)(cS:Int)(M:List (cO×Nd))(E:List gm):Int:=if (dU cP M E).1=0 then cS+1 else cS
def nC(cP:cO)(M:List (cO×Nd))(E:List gm):List (cO×Nd):=if (dU cP M E).1=0 then (dU cP M E).2 else M
theorem Fit.dQ{cP:cO}{M:List (cO×Nd)}{E:List gm}(h:Fit M)(hE:∀e∈E,BS e):Fit (nC cP M E):=by
 unfold nC;split
 ·exact h.all hE
 exact h
section
variable{w0 w:World}{b b2:Nat}{cP vj:cO}{cS Yy:Int}{M M2:List (cO×Nd)}
theorem TR.lt(R:TR w0 w b cP cS M):b<w.heap.size:=by
 obtain⟨lo,mb,T⟩:=R.tree;exact lt_of_block T.blk
theorem TR.max(R:TR w0 w b cP cS M):dM w:=R.hm.kept R.bl
theorem TR.below(R:TR w0 w b cP cS M){w':aj}(hb:cE w w'):TR w0 w' b cP cS M:=by
 obtain⟨lo,mb,T⟩:=R.tree;exact⟨⟨lo,mb,T.below hb⟩,R.bl.trans (hb.mono R.bl.size),R.hb,R.fit,R.rl,R.hm⟩
theorem TR.short(R:TR w0 w b cP cS M):M.length≤1000:=aB R.fit.len cK
theorem TR.new(hb:cE w0 w)(hm:dM w0)(hl:cP.length≤1000)(h:(dG cP).isSome=true):
  aG prog 45 #[.s cP] w fun e w'=>∃b,e=.returned (.tuple #[.p b,.I])∧TR w0 w' b cP 0 [(cP,iQ)]∧w.heap.size≤b∧cE w w':=
 (VM cP w (hm.kept hb) hl h).mono fun e w' ⟨b,mb,he,T,h1,h2,h3,h4⟩=>⟨b,he,⟨⟨_,mb,T⟩,hb.trans (h4.mono hb.size),aB hb.size h1,⟨by simp,by simpa using hl,by simp[iQ]⟩,hl,hm⟩,h1,h4⟩
theorem TR.clone(R:TR w0 w b cP cS M):
  aG prog 51 #[.p b] w fun e w'=>∃b',e=.returned (.p b')∧TR w0 w' b' cP cS M∧w.heap.size≤b'∧cE w w':=by
 obtain⟨lo,mb,T⟩:=R.tree;exact T.mW.mono fun e w' ⟨b',s9,he,T',h1,h2,h3,h4⟩=>⟨b',he,⟨⟨lo,s9,T'⟩,R.bl.trans (h4.mono R.bl.size),aB R.bl.size h1,R.fit,R.rl,R.hm⟩,h1,h4⟩
theorem TR.FA(R:TR w0 w b cP cS M):aG prog 73 #[.p b] w fun e w'=>e=.returned (.v cS)∧w=w':=by
 obtain⟨lo,mb,T⟩:=R.tree;exact T.FA.mono fun e w' ⟨h1,h2⟩=>⟨h1,h2.symm⟩
theorem TR.get(R:TR w0 w b cP cS M)(p:cO)(hp:p.length≤maxLen):
  aG prog 112 #[.p b,.s p] w fun e w'=>∃r:Raw,e=.returned (.tuple #[r.val,.bool (dL p M).isSome])∧Reads w' (fU w.heap.size) r ((dL p M).getD iQ)∧cE w w'∧od w.heap.size w' r.a:=by
 obtain⟨lo,mb,T⟩:=R.tree;exact T.Fl p hp R.fit.data
theorem TR.paths(R:TR w0 w b cP cS M):
  aG prog 111 #[.p b] w fun e w'=>∃a c,e=.returned (.slice a M.length c)∧gZ w' w'.heap.size a (iu M)∧cE w w':=by
 obtain⟨lo,mb,T⟩:=R.tree;refine(T.Dc R.short R.fit.cW).mono ?_;rintro e w' ⟨v,rfl,hr,hb⟩;obtain⟨a,c,rfl,_⟩:=hr.c.form;exact⟨a,c,by rw[pF],hr.c.sl.2,hb⟩
theorem TR.same(R:TR w0 w b cP cS M)(R2:TR w0 w b2 vj Yy M2):
  aG prog 21 #[.p b,.p b2] w fun e w'=>e=.returned (.bool (C6 cP cS M vj Yy M2))∧cE w w':=by
 obtain⟨lo,mb,T⟩:=R.tree;obtain⟨OK,mb2,T2⟩:=R2.tree;exact T.Al T2 R.fit R2.fit
end
theorem To(w:aj)(r:dr):gH (w.alloc (.cells r.cells.toArray 93)) (w.alloc (.cells r.cells.toArray 93)).heap.size (some ⟨w.heap.size,0,none⟩) [r]:=by
 intro k q hk;have hk0:k=0:=by have:=(af.1 hk).1;simp at this;exact this
 subst hk0;simp at hk;subst hk;refine⟨w.heap.size,0,rfl,by simp,fun j v hv=>?_⟩;rw[show 0+0*11+j=j by omega,cell_of_row _ _ j _ 93 (0,0) (ah w _)];simpa using hv
theorem lV(r:dr):r.cells.length=11:=rfl
theorem It(w:aj)(r s:dr):gH (w.alloc (.cells (r.cells++s.cells).toArray 93)) (w.alloc (.cells (r.cells++s.cells).toArray 93)).heap.size (some ⟨w.heap.size,0,none⟩) [r,s]:=by
 intro k q hk;rcases(show k=0∨k=1 by have:=(af.1 hk).1;simp at this;omega) with rfl|rfl
 ·simp at hk
  subst hk;refine⟨w.heap.size,0,rfl,by simp,fun j v hv=>?_⟩;rw[show 0+0*11+j=j by omega,cell_of_row _ _ j _ 93 (0,0) (ah w _)];have hj:=(af.1 hv).1;simpa [List.getElem?_append_left hj] using hv
 simp at hk;subst hk;refine⟨w.heap.size,0,rfl,by simp,fun j v hv=>?_⟩;rw[show 0+1*11+j=11+j by omega,cell_of_row _ _ (11+j) _ 93 (0,0) (ah w _)];have:(r.cells++s.cells)[11+j]?=some v:=by rw[List.getElem?_append_right (by rw[lV];omega),lV,show 11+j - 11=j by omega];exact hv
 simpa using this
theorem G5{w:aj}{lo:Nat→Prop}{r:dr}{e:gm}(h:kU w lo r e):ff w lo [r] [e]:=⟨rfl,fun k r' e' h1 h2=>by
 have hk0:k=0:=by have:=(af.1 h1).1;simp at this;exact this
 subst hk0;simp at h1 h2;subst h1 h2;exact h⟩
theorem G4{w:aj}{lo:Nat→Prop}{r s:dr}{e f:gm}(h:kU w lo r e)(g:kU w lo s f):ff w lo [r,s] [e,f]:=⟨rfl,fun k r' e' h1 h2=>by
 rcases(show k=0∨k=1 by have:=(af.1 h1).1;simp at this;omega) with rfl|rfl
 ·simp at h1 h2
  subst h1 h2;exact h
 ·simp at h1 h2
  subst h1 h2;exact g⟩
end
theorem F1{q cP:cO}(h:eB q cP=true):∃L R,dG q=some L∧dG cP=some R∧R <+: L:=by
 unfold eB at h;cases hq:dG q with
 |none=>rw[hq] at h;simp at h
 |some L=>
 cases hr:dG cP with
 |none=>rw[hq,hr] at h;simp at h
 |some R=>exact⟨L,R,rfl,rfl,(om hq hr).1 (by unfold eB;rw[hq,hr];rw[hq,hr] at h;exact h)⟩
theorem uT{q cP:cO}(h:eB q cP=true)(hne:q≠cP):eB (dm q) cP=true∧dm q≠q:=by
 obtain⟨L,R,h1,h2,t,rfl⟩:=F1 h;have e1:=sw h1;have e2:=sw h2;have ht:t≠[]:=fun e=>hne (by rw[←e1,←e2,e,List.append_nil])
 have hk:(R++t).length - 1<(R++t).length:=by
  have:0<t.length:=au.2 ht;simp;omega
 have hp:=Gz h1 ((R++t).length - 1) hk;have hs:=shorter h1 ((R++t).length - 1) hk;rw[show(R++t).length - 1+1=(R++t).length by omega,List.take_length,e1] at hp hs;refine⟨?_,fun e=>?_⟩
 ·rw[hp]
  refine(om (AA h1 _) h2).2 ?_;have hl:0<t.length:=au.2 ht;rw[List.take_append,List.take_of_length_le (by simp;omega)];exact aR _ _
 rw[hp] at e;rw[e] at hs;omega
structure Inv(cP:cO)(M:List (cO×Nd)):Prop where
 nodup:(M.map (·.1)).Nodup
 has:cP∈M.map (·.1)
 under:∀q∈M.map (·.1),eB q cP=true
 parent:∀q∈M.map (·.1),q≠cP→dm q∈M.map (·.1)
theorem ic{p:cO}:∀{M:List (cO×Nd)},(dL p M).isSome=true↔p∈M.map (·.1)
 |[]=>by simp[dL]
 |y::M=>by
  unfold dL;split
  ·rename_i h;simp[h]
  ·rename_i h
   rw[ic];simp[Ne.symm h]
theorem WJ{p:cO}{M:List (cO×Nd)}:(dL p M).isSome=false↔p∉M.map (·.1):=by
 rw[←ic];simp
theorem Da{p:cO}{d:Nd}:∀{M:List (cO×Nd)},(iL p d M).map (·.1)=if (dL p M).isSome then M.map (·.1) else M.map (·.1)++[p]
 |[]=>by simp[iL,dL]
 |y::M=>by
  unfold iL dL;split
  ·rename_i h;simp[h]
  ·rw[aA,Da]
   split<;>simp
theorem xO{p:cO}:∀{M:List (cO×Nd)},(M.map (·.1)).Nodup→∀q,q∈(oO p M).map (·.1)↔q∈M.map (·.1)∧q≠p
 |[],_,q=>by simp[oO]
 |y::M,hn,q=>by
  simp only[aA,List.nodup_cons] at hn;unfold oO;split
  ·rename_i h
   subst h;simp only[aA,ay];constructor
   ·intro hq
    exact⟨.inr hq,fun e=>hn.1 (e▸hq)⟩
   ·rintro⟨rfl|hq,h2⟩
    ·exact absurd rfl h2
    ·exact hq
  ·rename_i h
   simp only[aA,ay];rw[xO hn.2];constructor
   ·rintro(rfl|⟨h1,h2⟩)
    ·exact⟨.inl rfl,h⟩
    ·exact⟨.inr h1,h2⟩
   ·rintro⟨rfl|h1,h2⟩
    ·exact .inl rfl
    ·exact .inr ⟨h1,h2⟩
theorem Inv.made{cP:cO}(h:(dG cP).isSome=true)(d:Nd):Inv cP [(cP,d)]:=by
 obtain⟨R,hR⟩:=aI.1 h;refine⟨by simp,by simp,?_,?_⟩
 ·intro q hq
  simp at hq;subst hq;exact(om hR hR).2 (List.prefix_refl _)
 intro q hq hne;simp at hq;exact absurd hq hne
theorem Inv.one{cP:cO}{M:List (cO×Nd)}(I:Inv cP M)(e:gm):Inv cP (nB cP M e):=by
 unfold nB;split
 ·exact I
 rename_i hu
 have hu:eB e.cW cP=true:=by simpa using hu
 split
 ·unfold yH
  split
  ·rename_i h0
   unfold vR at h0;split at h0
   ·cases h0
   rename_i h1
   split at h0
   ·cases h0
   split at h0
   ·cases h0
   rename_i h2
   rw[Sb] at h2;have hk:=xO (p:=e.cW) I.nodup;refine⟨I.nodup.sublist (nM.map _),(hk cP).2 ⟨I.has,fun e1=>h1 e1.symm⟩,fun q hq=>I.under q ((hk q).1 hq).1,fun q hq hne=>?_⟩;have XU:=(hk q).1 hq;refine(hk _).2 ⟨I.parent q XU.1 hne,fun e1=>h2 ?_⟩;obtain⟨x,hx,rfl⟩:=aL.1 XU.1;refine List.any_eq_true.2 ⟨x,hx,?_⟩;unfold vH;rw[decide_eq_false XU.2,decide_eq_false hne,decide_eq_true e1];rfl
  exact I
 unfold Gu;split
 ·rename_i h0
  unfold Ay at h0;split at h0
  ·cases h0
  rename_i h1
  have hpar:e.cW=cP∨dm e.cW∈M.map (·.1):=by
   by_cases hr:e.cW=cP
   ·exact .inl hr
   refine .inr (ic.1 ?_);cases hg:(dL (dm e.cW) M).isSome
   ·exact absurd ⟨hr,hg⟩ h1
   rfl
  rw[show Inv cP (iL e.cW e.node M)↔Inv cP (iL e.cW e.node M) from Iff.rfl];have hk:(iL e.cW e.node M).map (·.1)=_:=Da;cases hs:(dL e.cW M).isSome with
  |true=>
   rw[hs,if_pos rfl] at hk;exact⟨by rw[hk];exact I.nodup,by rw[hk];exact I.has,by rw[hk];exact I.under,by rw[hk];exact I.parent⟩
  |false=>
  rw[hs,if_neg cM] at hk;have hno:=WJ.1 hs;refine⟨?_,?_,?_,?_⟩
  ·rw[hk]
   exact List.nodup_append.2 ⟨I.nodup,by simp,fun a ha b hb e1=>by simp at hb;subst hb;subst e1;exact hno ha⟩
  ·rw[hk];exact aP _ I.has
  ·intro q hq
   rw[hk] at hq;rcases aq.1 hq with h|h
   ·exact I.under q h
   simp at h;subst h;exact hu
  intro q hq hne;rw[hk] at hq⊢;refine aP _ ?_;rcases aq.1 hq with h|h
  ·exact I.parent q h hne
  simp at h;subst h;rcases hpar with h|h
  ·exact absurd h hne
  exact h
 exact I
theorem Inv.all{cP:cO}:∀{E:List gm} {M:List (cO×Nd)},Inv cP M→Inv cP (dU cP M E).2
 |[],M,h=>h
 |e::E,M,h=>by
  unfold dU;split
  ·exact Inv.all (h.one e)
  ·exact h
theorem OV{M:List (cO×Nd)}{q:cO}:q∈iu M↔q∈M.map (·.1):=(iS _).mem_iff
section
structure eF where
 dy:Int
 n:Int
 deriving DecidableEq
structure fh where
 kind:Int
 cW:cO
 data:cO
 gW:Int
 seq:Bool
 mV:Bool
 deriving DecidableEq
structure I7 where
 cW:cO
 node:Nd
 kids:List cO
 deriving DecidableEq
def lX:I7:=⟨[],iQ,[]⟩
def vM(n:Int):Int:=IntKind.u32.wrap (n+1)
def PG(n:Int):cO:=aJ (10 - (ag n.toNat).length) 48++ag n.toNat
def Cg(d:Nd)(cS:Int):Nd:=⟨d.data,{d.num with BV:=vM d.num.BV,Ch:=cS}⟩
def GO(d:Nd):Nd:=⟨d.data,{d.num with next:=vM d.num.next}⟩
def xy(data:cO)(cS:Int)(dh:eF)(mV:Bool):Nd:=⟨data,⟨0,0,0,if mV then dh.dy else 0,if mV then dh.n else 0,cS,cS,cS⟩⟩
def Ck(d:Nd)(data:cO)(cS:Int):Nd:=⟨data,{d.num with gW:=vM d.num.gW,CI:=cS}⟩
def iq(s n:Int):Bool:=decide (s=0)&&decide (n=0)
def eG(M:List (cO×Nd))(o:fh):cO:=if o.seq then o.cW++PG ((dL (dm o.cW) M).getD iQ).num.next else o.cW
def gB(cP:cO)(M:List (cO×Nd))(dh:eF)(o:fh):Int:=
 if o.cW=cP then (if o.seq then 30 else 32)
 else if (dG (eG M o)).isSome=false then 30
 else match dL (dm (eG M o)) M with
 |none=>31
 |some u=>if iq u.num.os u.num.on=false then 34 else if o.mV=true∧iq dh.dy dh.n=true then 63 else if (dL (eG M o) M).isSome=true then 32 else if 48≤M.length then 36 else 0
def mN(M:List (cO×Nd))(cS:Int)(o:fh):Nd:=if o.seq then GO (Cg ((dL (dm (eG M o)) M).getD iQ) cS) else Cg ((dL (dm (eG M o)) M).getD iQ) cS
def jw(M:List (cO×Nd))(cS:Int)(dh:eF)(o:fh):List gm:=[⟨dm (eG M o),false,mN M cS o⟩,⟨eG M o,false,xy o.data cS dh o.mV⟩]
def mI(M:List (cO×Nd))(o:fh):Int:=match dL o.cW M with
 |none=>31
 |some d=>if 0≤o.gW∧o.gW≠IntKind.i64.wrap d.num.gW then 35 else 0
def js(cP:cO)(M:List (cO×Nd))(o:fh):Int:=if o.cW=cP then 30 else if mI M o≠0 then mI M o else if 0<(lY cP M o.cW).length then 33 else 0
def jO(M:List (cO×Nd))(cS:Int)(o:fh):List gm:=[⟨o.cW,true,iQ⟩,⟨dm o.cW,false,Cg ((dL (dm o.cW) M).getD iQ) cS⟩]
def nodeAt(M:List (cO×Nd))(p:cO):Nd:=(dL p M).getD iQ
def zi(M:List (cO×Nd))(cS:Int)(o:fh):List gm:=[⟨o.cW,false,Ck (nodeAt M o.cW) o.data cS⟩]
def mj(cP:cO)(M:List (cO×Nd))(dh:eF)(o:fh):Int:=
 if eB o.cW cP=false then 30
 else if o.kind=1 then gB cP M dh o
 else if o.kind=2 then js cP M o
 else if o.kind=3∨o.kind=4 then mI M o
 else if (dL o.cW M).isSome=false then 31 else 0
def VD(M:List (cO×Nd))(cS:Int)(dh:eF)(o:fh):List gm:=
 if o.kind=1 then jw M cS dh o else if o.kind=2 then jO M cS o else if o.kind=3 then zi M cS o else []
def Co(cP:cO)(M:List (cO×Nd))(cS:Int)(dh:eF)(o:fh):I7:=
 if o.kind=1 then ⟨eG M o,xy o.data cS dh o.mV,[]⟩
 else if o.kind=2 then ⟨o.cW,iQ,[]⟩
 else if o.kind=3 then ⟨o.cW,Ck (nodeAt M o.cW) o.data cS,[]⟩
 else if o.kind=6 then ⟨o.cW,nodeAt M o.cW,lY cP M o.cW⟩
 else ⟨o.cW,nodeAt M o.cW,[]⟩
theorem C5(d:cO)(hd:(47:UInt8)∉d):∀r:cO,gJ (r++d)=(gJ r).dropLast++[(gJ r).getLast (ow r)++d]
 |[]=>by
  rw[List.nil_append,Ak d hd];simp[gJ]
 |c::r=>by
  have ih:=C5 d hd r;by_cases hc:c=47
  ·subst hc
   rw[aa,nw,ih];simp only[nw];rw[List.dropLast_cons_of_ne_nil (ow r),List.getLast_cons (ow r)];rfl
  ·obtain⟨h,t,e1,e2⟩:=lD c r hc
   obtain⟨h',t',e3,e4⟩:=lD c (r++d) hc;rw[aa,e4];rw[ih] at e3;simp only[e1] at e3;simp only[e2];cases t with
   |nil=>
    simp at e3;obtain⟨rfl,rfl⟩:=e3;simp
   |cons y t=>
    simp at e3;obtain⟨rfl,rfl⟩:=e3;simp
theorem Tx:∀u:Nat,(47:UInt8)∉ag u:=fun u=>by
 induction u using Nat.strongRecOn with
 |ind u ih=>
  intro h;rw[ag] at h;have key:∀n:Nat,n<10→(47:UInt8)≠UInt8.ofNat (48+n):=fun n hn e=>by
   have:=congrArg UInt8.toNat e;rw[UInt8.toNat_ofNat'] at this;have h47:(47:UInt8).toNat=47:=rfl;omega
  split at h
  ·rename_i h10
   simp only[aS] at h;exact key u h10 h
  ·rcases aq.1 h with h|h
   ·exact ih (u / 10) cK h
   ·simp only[aS] at h
    exact key (u % 10) cK h
theorem PF(n:Int):(47:UInt8)∉PG n:=by
 intro h;unfold PG at h;rcases aq.1 h with h|h
 ·exact absurd (List.mem_replicate.1 h).2 cL
 exact Tx _ h
theorem AL{cP:cO}{M:List (cO×Nd)}{o:fh}(hu:eB o.cW cP=true)(hne:o.cW≠cP)(hok:(dG (eG M o)).isSome=true):
  eB (eG M o) cP=true∧eG M o≠cP∧dm (eG M o)=dm o.cW:=by
 unfold eG at hok⊢;cases hs:o.seq with
 |false=>simp only[hs,Bool.false_eq_true,if_false] at hok⊢;exact⟨hu,hne,trivial⟩
 |true=>
 simp only[hs,if_true] at hok⊢;have hd:=PF ((dL (dm o.cW) M).getD iQ).num.next;generalize PG ((dL (dm o.cW) M).getD iQ).num.next=d at hok hd⊢;obtain⟨LP,R,h1,h2,t,ht⟩:=F1 hu;have e1:=sw h1;have e2:=sw h2;have htn:t≠[]:=fun e=>hne (by rw[←e1,←e2,←ht,e,List.append_nil])
 obtain⟨L',hL'⟩:=aI.1 hok;obtain⟨r,hr,_,yF⟩:=iG h1;rcases yF with ⟨rfl,rfl⟩|⟨Wm,rfl,hall⟩
 ·exact absurd (aM.1 ht).2 htn
 obtain⟨r',hr',_,aar⟩:=iG hL';have hrr:r'=r++d:=by
  rw[hr,aa] at hr';exact(List.cons.inj hr').2.symm
 subst hrr;rcases aar with ⟨h0,_⟩|⟨_,rfl,_⟩
 ·exact absurd (aM.1 h0).1 Wm
 obtain⟨y,Hz⟩:∃y,gJ (r++d)=(gJ r).dropLast++[y]:=⟨_,C5 d hd r⟩;have hdl:(gJ (r++d)).dropLast=(gJ r).dropLast:=by rw[Hz,List.dropLast_concat]
 refine⟨?_,?_,?_⟩
 ·refine(om hL' h2).2 ?_
  rw[Hz,←ht,aC htn,aW];exact aR _ _
 ·intro e
  rw[e,h2] at hL';have hlen:=congrArg List.length (aK hL');rw[Hz,←ht,aC htn] at hlen;have:=au.2 htn;simp at hlen
  try omega
 unfold dm;rw[h1,hL'];dsimp only;rw[if_neg (ow _),if_neg (ow _),hdl]
section
variable{cP:cO}{M:List (cO×Nd)}{cS:Int}{dh:eF}{o:fh}
theorem Gt{p:cO}{d:Nd}(hu:eB p cP=true)(hp:p=cP∨(dL (dm p) M).isSome=true)(h:(dL p M).isSome=true∨M.length<48):kY cP M ⟨p,false,d⟩=0∧nB cP M ⟨p,false,d⟩=iL p d M:=by
 have h0:Ay cP M p=0:=by
  unfold Ay;rw[if_neg,if_neg]
  ·rintro⟨h1,h2⟩
   rcases h with h3|h3
   ·rw[h3] at h1;cases h1
   omega
  rintro⟨h1,h2⟩;rcases hp with h3|h3
  ·exact h1 h3
  rw[h3] at h2;cases h2
 have hn:¬eB p cP=false:=by rw[hu];simp
 unfold kY nB Gu;dsimp only;rw[if_neg hn,if_neg hn,if_neg cM,if_neg cM,h0];exact⟨rfl,rfl⟩
theorem xl{p:cO}{d:Nd}(I:Inv cP M)(h:(dL p M).isSome=true):kY cP M ⟨p,false,d⟩=0∧nB cP M ⟨p,false,d⟩=iL p d M:=by
 have hm:=ic.1 h;refine Gt (I.under p hm) ?_ (.inl h);by_cases hr:p=cP
 ·exact .inl hr
 exact .inr (ic.2 (I.parent p hm hr))
theorem BK{e f:gm}(h1:kY cP M e=0)(h2:kY cP (nB cP M e) f=0):dU cP M [e,f]=(0,nB cP (nB cP M e) f):=by
 rw[jm h1,jm h2];rfl
theorem LG{e:gm}(h1:kY cP M e=0):dU cP M [e]=(0,nB cP M e):=by
 rw[jm h1];rfl
def qq(M:List (cO×Nd))(cS:Int)(dh:eF)(o:fh):List (cO×Nd):=iL (eG M o) (xy o.data cS dh o.mV) (iL (dm (eG M o)) (mN M cS o) M)
theorem qp(h:gB cP M dh o=0):o.cW≠cP∧(dG (eG M o)).isSome=true∧(∃u,dL (dm (eG M o)) M=some u∧iq u.num.os u.num.on=true)∧¬(o.mV=true∧iq dh.dy dh.n=true)∧(dL (eG M o) M).isSome=false∧M.length<48:=by
 unfold gB at h;split at h
 ·split at h<;>cases h
 rename_i h1
 split at h
 ·cases h
 rename_i h2
 split at h
 ·cases h
 rename_i u hu
 split at h
 ·cases h
 rename_i h3
 split at h
 ·cases h
 rename_i h4
 split at h
 ·cases h
 rename_i h5
 split at h
 ·cases h
 rename_i h6
 exact⟨h1,by cases hb:(dG (eG M o)).isSome;exact absurd hb h2;rfl,⟨u,hu,by simpa using h3⟩,h4,by simpa using h5,by omega⟩
theorem yO(I:Inv cP M)(hu:eB o.cW cP=true)(h:gB cP M dh o=0):dU cP M (jw M cS dh o)=(0,qq M cS dh o):=by
 obtain⟨h1,h2,⟨u,h3,_⟩,_,h5,h6⟩:=qp h;obtain⟨g1,g2,g3⟩:=AL hu h1 h2;have hs:(dL (dm (eG M o)) M).isSome=true:=by rw[h3];rfl
 obtain⟨a1,a2⟩:=xl (d:=mN M cS o) I hs;have hne:eG M o≠dm (eG M o):=fun e=>(uT g1 g2).2 e.symm
 obtain⟨b1,b2⟩:=Gt (M:=iL (dm (eG M o)) (mN M cS o) M) (d:=xy o.data cS dh o.mV) g1 (.inr (by rw[kR];rfl)) (.inr (by rw[qY,hs];exact h6));unfold jw qq;rw[BK a1 (by rw[a2];exact b1),a2,b2]
theorem ko(h:mI M o=0):∃d,dL o.cW M=some d∧¬(0≤o.gW∧o.gW≠IntKind.i64.wrap d.num.gW):=by
 unfold mI at h;split at h
 ·cases h
 rename_i d hd
 split at h
 ·cases h
 rename_i h2;exact⟨d,hd,h2⟩
def JM(M:List (cO×Nd))(cS:Int)(o:fh):List (cO×Nd):=iL o.cW (Ck (nodeAt M o.cW) o.data cS) M
theorem Gi(I:Inv cP M)(h:mI M o=0):dU cP M (zi M cS o)=(0,JM M cS o):=by
 obtain⟨d,hd,_⟩:=ko h;obtain⟨a1,a2⟩:=xl (d:=Ck (nodeAt M o.cW) o.data cS) I (by rw[hd];rfl);unfold zi JM;rw[LG a1,a2]
def vt(M:List (cO×Nd))(cS:Int)(o:fh):List (cO×Nd):=iL (dm o.cW) (Cg ((dL (dm o.cW) M).getD iQ) cS) (oO o.cW M)
theorem vq(h:js cP M o=0):o.cW≠cP∧mI M o=0∧(lY cP M o.cW).length=0:=by
 unfold js at h;split at h
 ·cases h
 rename_i h1
 split at h
 ·rename_i h2;exact absurd h h2
 rename_i h2
 split at h
 ·cases h
 rename_i h3;exact⟨h1,by simpa using h2,by omega⟩
theorem yj(I:Inv cP M)(hu:eB o.cW cP=true)(h:js cP M o=0):dU cP M (jO M cS o)=(0,vt M cS o):=by
 obtain⟨h1,h2,h3⟩:=vq h;obtain⟨d,hd,_⟩:=ko h2;have hs:(dL o.cW M).isSome=true:=by rw[hd];rfl
 have hg:vR cP M o.cW=0:=by unfold vR;rw[if_neg h1,if_neg (by rw[hs];simp),if_neg cK]
 have hn:¬eB o.cW cP=false:=by rw[hu];simp
 have a1:kY cP M ⟨o.cW,true,iQ⟩=0:=by unfold kY;dsimp only;rw[if_neg hn,if_pos rfl,hg]
 have a2:nB cP M ⟨o.cW,true,iQ⟩=oO o.cW M:=by unfold nB yH;dsimp only;rw[if_neg hn,if_pos rfl,hg];rfl
 have I2:Inv cP (oO o.cW M):=by rw[←a2];exact I.one _
 have hpar:=I.parent o.cW (ic.1 hs) h1;have hp2:(dL (dm o.cW) (oO o.cW M)).isSome=true:=ic.2 ((xO I.nodup _).2 ⟨hpar,(uT hu h1).2⟩);obtain⟨b1,b2⟩:=xl (d:=Cg ((dL (dm o.cW) M).getD iQ) cS) I2 hp2;unfold jO vt;rw[BK a1 (by rw[a2];exact b1),a2,b2]
end
end
section
open Go.RowKit Go.Shelf Go.MapKept Go.ChangeMaps Go.Maps Go.Sort
theorem Xa{cP:cO}{cS:Int}{M M':List (cO×Nd)}{E:List gm}(h:dU cP M E=(0,M')):(dU cP M E).1=0∧atA cP cS M E=cS+1∧nC cP M E=M':=by
 unfold atA nC;rw[h];exact⟨rfl,rfl,rfl⟩
end
def oP(cP:cO)(M:List (cO×Nd))(cS:Int)(dh:eF)(o:fh):List (cO×Nd):=
 if mj cP M dh o≠0 then M else if o.kind=1 then qq M cS dh o else if o.kind=2 then vt M cS o else if o.kind=3 then JM M cS o else M
def jW(cP:cO)(M:List (cO×Nd))(cS:Int)(dh:eF)(o:fh):List gm:=if mj cP M dh o≠0 then [] else VD M cS dh o
structure wU where
 e:Int
 a:I7
 deriving DecidableEq
def Oh(cP:cO)(M:List (cO×Nd))(cS:Int)(dh:eF)(o:fh):wU:=if mj cP M dh o≠0 then ⟨mj cP M dh o,lX⟩ else ⟨0,Co cP M cS dh o⟩
theorem tW{cP:cO}{M:List (cO×Nd)}{dh:eF}{o:fh}(hk:o.kind=1)(h:mj cP M dh o=0):eB o.cW cP=true∧gB cP M dh o=0:=by
 unfold mj at h;split at h
 ·cases h
 rename_i hu
 exact⟨by simpa using hu,h⟩
theorem AG{cP:cO}{M:List (cO×Nd)}{dh:eF}{o:fh}(hk:o.kind=2)(h:mj cP M dh o=0):eB o.cW cP=true∧js cP M o=0:=by
 unfold mj at h;split at h
 ·cases h
 rename_i hu
 rw[if_neg cK] at h;exact⟨by simpa using hu,h⟩
theorem Mt{cP:cO}{M:List (cO×Nd)}{dh:eF}{o:fh}(hk:o.kind=3)(h:mj cP M dh o=0):eB o.cW cP=true∧mI M o=0:=by
 unfold mj at h;split at h
 ·cases h
 rename_i hu
 rw[if_neg cK,if_neg cK,if_pos (.inl hk)] at h;exact⟨by simpa using hu,h⟩
section
variable{cP:cO}{M:List (cO×Nd)}{cS:Int}{dh:eF}
theorem zK(I:Inv cP M)(o:fh):dU cP M (jW cP M cS dh o)=(0,oP cP M cS dh o):=by
 unfold jW oP;by_cases h:mj cP M dh o=0
 ·rw[if_neg (by simpa using h),if_neg (by simpa using h)]
  unfold VD;by_cases h1:o.kind=1
  ·rw[if_pos h1,if_pos h1]
   have:=tW h1 h;exact yO I this.1 this.2
  rw[if_neg h1,if_neg h1];by_cases h2:o.kind=2
  ·rw[if_pos h2,if_pos h2]
   have:=AG h2 h;exact yj I this.1 this.2
  rw[if_neg h2,if_neg h2];by_cases h3:o.kind=3
  ·rw[if_pos h3,if_pos h3]
   exact Gi I (Mt h3 h).2
  rw[if_neg h3,if_neg h3];rfl
 rw[if_pos h,if_pos h];rfl
theorem Inv.op(I:Inv cP M)(o:fh):Inv cP (oP cP M cS dh o):=by
 have:=I.all (E:=jW cP M cS dh o);rw[zK I o] at this;exact this
theorem tF(cP:cO)(F:List gm):∀(E:List gm) (M M':List (cO×Nd)),dU cP M E=(0,M')→dU cP M (E++F)=dU cP M' F
 |[],M,M',h=>by cases h;rfl
 |e::E,M,M',h=>by
  by_cases h0:kY cP M e=0
  ·rw[jm h0] at h
   rw[aa,jm h0];exact tF cP F E _ _ h
  ·rw[ur h0] at h
   exact absurd (congrArg Prod.fst h) h0
end
def o6(cP:cO)(cS:Int)(dh:eF):List (cO×Nd)→List fh→Int
 |M,[]=>0
 |M,o::l=>if mj cP M dh o=0 then o6 cP cS dh (oP cP M cS dh o) l else mj cP M dh o
def runM(cP:cO)(cS:Int)(dh:eF):List (cO×Nd)→List fh→List (cO×Nd)
 |M,[]=>M
 |M,o::l=>if mj cP M dh o=0 then runM cP cS dh (oP cP M cS dh o) l else M
def mK(cP:cO)(cS:Int)(dh:eF):List (cO×Nd)→List fh→List gm
 |M,[]=>[]
 |M,o::l=>if mj cP M dh o=0 then jW cP M cS dh o++mK cP cS dh (oP cP M cS dh o) l else []
def pZ(cP:cO)(cS:Int)(dh:eF):List (cO×Nd)→List fh→List wU
 |M,[]=>[]
 |M,o::l=>Oh cP M cS dh o::(if mj cP M dh o=0 then pZ cP cS dh (oP cP M cS dh o) l else [])
section
variable{cP:cO}{cS:Int}{dh:eF}
theorem Gm:∀(l:List fh) {M:List (cO×Nd)},Inv cP M→dU cP M (mK cP cS dh M l)=(0,runM cP cS dh M l)
 |[],M,I=>rfl
 |o::l,M,I=>by
  unfold mK runM;by_cases h:mj cP M dh o=0
  ·rw[if_pos h,if_pos h,tF cP _ _ M _ (zK I o)]
   exact Gm l (I.op o)
  ·rw[if_neg h,if_neg h]
   rfl
theorem Ao(o:fh):∀(l:List fh) (M:List (cO×Nd)),o6 cP cS dh M l=0→
  o6 cP cS dh M (l++[o])=mj cP (runM cP cS dh M l) dh o
  ∧runM cP cS dh M (l++[o])=oP cP (runM cP cS dh M l) cS dh o
  ∧mK cP cS dh M (l++[o])=mK cP cS dh M l++jW cP (runM cP cS dh M l) cS dh o
  ∧pZ cP cS dh M (l++[o])=pZ cP cS dh M l++[Oh cP (runM cP cS dh M l) cS dh o]
 |[],M,_=>by
  unfold o6 runM mK pZ;simp only[List.nil_append,o6,runM,mK,pZ];by_cases h:mj cP M dh o=0
  ·simp[h]
  ·simp[h,oP,jW]
 |x::l,M,h=>by
  unfold o6 at h;split at h
  ·rename_i h0
   obtain⟨h1,h2,h3,h4⟩:=Ao o l _ h;refine⟨?_,?_,?_,?_⟩
   ·rw[aa,o6,if_pos h0,h1,runM,if_pos h0]
   ·rw[aa,runM,if_pos h0,h2,runM,if_pos h0]
   ·rw[aa,mK,if_pos h0,h3,mK,if_pos h0,runM,if_pos h0,aW]
   ·rw[aa,pZ,if_pos h0,h4,pZ,if_pos h0,runM,if_pos h0,aa]
  ·rename_i h0
   exact absurd h h0
theorem Gl(l2:List fh):∀(l:List fh) (M:List (cO×Nd)),o6 cP cS dh M l≠0→
  o6 cP cS dh M (l++l2)=o6 cP cS dh M l∧pZ cP cS dh M (l++l2)=pZ cP cS dh M l
 |[],M,h=>absurd rfl h
 |x::l,M,h=>by
  unfold o6 at h;split at h
  ·rename_i h0
   obtain⟨h1,h4⟩:=Gl l2 l _ h;refine⟨?_,?_⟩
   ·rw[aa,o6,if_pos h0,h1,o6,if_pos h0]
   ·rw[aa,pZ,if_pos h0,h4,pZ,if_pos h0]
  ·rename_i h0
   refine⟨?_,?_⟩
   ·rw[aa,o6,if_neg h0,o6,if_neg h0]
   ·rw[aa,pZ,if_neg h0,pZ,if_neg h0]
end
structure mH where
 leaf:fh
 parts:List fh
def mH.seq(o:mH):List fh:=if o.leaf.kind=7 then o.parts else [o.leaf]
def Ca(cP:cO)(M:List (cO×Nd))(cS:Int)(dh:eF)(ce:Int)(o:mH):Int:=if ce≠0 then ce else o6 cP (cS+1) dh M o.seq
def zA(cP:cO)(M:List (cO×Nd))(cS:Int)(dh:eF)(ce:Int)(o:mH):List gm:=if Ca cP M cS dh ce o≠0 then [] else mK cP (cS+1) dh M o.seq
def IB(cP:cO)(M:List (cO×Nd))(cS:Int)(dh:eF)(ce:Int)(o:mH):List (cO×Nd):=if Ca cP M cS dh ce o≠0 then M else runM cP (cS+1) dh M o.seq
def PE(cP:cO)(M:List (cO×Nd))(cS:Int)(dh:eF)(ce:Int)(o:mH):I7:=if ce=0∧o.leaf.kind≠7 then (Oh cP M (cS+1) dh o.leaf).a else lX
def PC(cP:cO)(M:List (cO×Nd))(cS:Int)(dh:eF)(ce:Int)(o:mH):List wU:=if ce=0∧o.leaf.kind=7 then pZ cP (cS+1) dh M o.parts else []
theorem Fw{cP:cO}{M:List (cO×Nd)}{cS:Int}{dh:eF}{ce:Int}{o:mH}(I:Inv cP M):dU cP M (zA cP M cS dh ce o)=(0,IB cP M cS dh ce o):=by
 unfold zA IB;by_cases h:Ca cP M cS dh ce o=0
 ·rw[if_neg (by simpa using h),if_neg (by simpa using h)]
  exact Gm _ I
 rw[if_pos h,if_pos h];rfl
theorem Inv.PB{cP:cO}{M:List (cO×Nd)}{cS:Int}{dh:eF}{ce:Int}{o:mH}(I:Inv cP M):Inv cP (IB cP M cS dh ce o):=by
 have:=I.all (E:=zA cP M cS dh ce o);rw[Fw I] at this;exact this
section
open Go.RowKit Go.Shelf Go.MapKept Go.ChangeMaps Go.Maps Go.Sort
theorem Pv(i:Nat)(h:i<100)(w:aj):aG prog 316 #[.v i,.i 10] w fun e w'=>e=.returned (.string (bs (ag i)))∧w'=w:=by
 have hs:=cD (Tryz.internal_strconv_small i h w);have t1:decide ((i:Int)<100)=true:=by simp;omega
 have hwr:∀_:True,IntKind.i64.wrap (i:Int)=(i:Int):=fun _=>IntWalk.i64_in _ cK
 clear h;go_enter func316,ntmps316
 go_wp2_with fail
 refine hs.out.mono ?_;rintro e w1 ⟨rfl,rfl⟩;go_wp2
 go_ret
 exact⟨rfl,rfl⟩
theorem Pu(i:Nat)(h:i<100)(w:aj):aG prog 291 #[.v i,.i 10] w fun e w'=>e=.returned (.string (bs (ag i)))∧w'=w:=by
 have hs:=cD (Pv i h w);clear h;go_enter func291,ntmps291
 go_wp2_with fail
 refine hs.out.mono ?_;rintro e w1 ⟨rfl,rfl⟩;go_wp2
 go_ret
 exact⟨rfl,rfl⟩
theorem Gq(c:Nat)(hc:c≤10)(w:aj):aG prog 292 #[.string (bs [48]),.i c] w fun e w'=>e=.returned (.string (bs (aJ c 48)))∧cE w w':=by
 refine(strings_Repeat (bs [48]) c w cK (by rw[fL];simp;omega)).mono ?_;rintro e w' ⟨rfl,hb⟩;refine⟨?_,hb⟩;have:Lib.repeatL (bs [48]).data.toList c=aJ c 48:=by
  rw[gU];clear hc hb
  induction c with
  |zero=>rfl
  |succ c ih=>simp[Lib.repeatL,List.replicate_succ] at ih⊢;first|exact ih|simp[ih]
 rw[this];rfl
end
