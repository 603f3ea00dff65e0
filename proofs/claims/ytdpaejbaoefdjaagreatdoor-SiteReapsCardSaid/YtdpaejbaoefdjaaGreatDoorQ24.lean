/- Part 24. -/
import Derived.Test.YtdpaejbaoefdjaaGreatDoorQ22
import Derived.Lib.SlMapEqual
open List renaming cons_append → aa,getElem?_eq_some_iff → af,mem_append → aq,length_pos_iff → au,mem_cons → ay,map_cons → aA,dropLast_append_of_ne_nil → aC,replicate → aJ,mem_map → aL,append_eq_nil_iff → aM,mem_of_getElem? → aN,mem_cons_of_mem → aO,mem_append_left → aP,getElem?_of_mem → aQ,prefix_append → aR,mem_singleton → aS,mem_cons_self → aT,append_assoc → aW
open Go.Lib renaming decDigits → ag
open Go renaming heap_alloc_new → ah,World → aj,Calls → aD
open Go.Lit renaming string → an
open Nat renaming le_trans → aB,lt_of_lt_of_le → aV
open Go.WideElems renaming rg → aE,rd → aU
open Prod.mk renaming injEq → aF
open Go.DataW renaming held → aG
open Go.RowKit.Below renaming refl → aH
open Option renaming isSome_iff_exists → aI
open Option.some renaming inj → aK
namespace Go.Proofs.YtdpaejbaoefdjaaGreatDoor
open Go.Proofs.Tryz
set_option maxRecDepth 100000
set_option maxHeartbeats 64000000
set_option linter.unusedVariables false
set_option linter.unusedSimpArgs false
section
open Go.RowKit Go.Shelf Go.MapKept Go.ChangeMaps Go.Maps Go.Sort Go.WideElems
def Km:Value→Option (DataW Value×List MemPlace):=fun v=>some (.held v,[])
theorem Tc{mb:Nat}{w:aj}{m:List (cP×Raw)}(hm:dL prog 9 sv Raw.val w mb m)(hl:m.length≤1000):
  ∃es:List (Lit×DataW Value),w.ownsMap prog 9 Km mb m.length (.map es)∧es.Perm (m.map fun x=>(an x.1,aG x.2.val)):=by
 obtain⟨es,c,h1,h2,h3,h4⟩:=hm;have hs:es.size=m.length:=by
  have:=congrArg List.length h4;simpa using this
 have hrd:∀x∈es.toList,∀l,keyOf prog 9 x.key=some l→aU prog 9 Km x=some (l,.held x.val):=fun x hx l hk=>by
  unfold aU;rw[hk];rfl
 refine⟨_,⟨es,c,h1,⟨by rw[hs];unfold maxLen;omega,h2,fun x hx=>?_⟩,by omega,rfl⟩,?_⟩
 ·obtain⟨l,hk⟩:=h3 x hx
  exact⟨_,hrd x hx l hk⟩
 have hp:=WideShapes.sorted_perm (es.toList.map (aE prog 9 Km));have hk:(es.toList.map (aE prog 9 Km))=m.map fun x=>(an x.1,aG x.2.val):=by
  apply List.ext_getElem?;intro i;have h6:=congrArg (fun l=>l[i]?) h4;simp only[List.getElem?_map] at h6⊢;cases hx:es.toList[i]? with
  |none=>
   rw[hx] at h6;cases hy:m[i]? with
   |none=>rfl
   |some y=>rw[hy] at h6;simp at h6
  |some x=>
  rw[hx] at h6;cases hy:m[i]? with
  |none=>rw[hy] at h6;simp at h6
  |some y=>
  rw[hy] at h6;simp only[Option.map_some,Option.some.injEq,aF] at h6;obtain⟨l,hk⟩:=h3 x (aN hx);have hr:=hrd x (aN hx) l hk;rw[h6.1] at hk;obtain⟨_,rfl⟩:=FW hk;simp[aE,hr,h6.2]
 rw[hk] at hp;rw[hk];exact hp
def yS(M M':List (cP×Nd)):Bool:=decide (M.length=M'.length)&&M.all (fun x=>decide (dF x.1 M'=some x.2))
theorem IN{w:aj}{lo:Nat→Prop}{p:cP}{r:Raw}:∀{m:List (cP×Raw)} {M:List (cP×Nd)},iR w lo m M→(p,r)∈m→∃d,(p,d)∈M∧Reads w lo r d
 |[],[],_,h=>by simp at h
 |x::m,y::M,h,hm=>by
  rcases ay.1 hm with e|hm
  ·subst e
   exact⟨y.2,by rw[show(p,y.2)=y from Prod.ext h.1.1 rfl];exact aT ..,h.1.2⟩
  ·obtain⟨d,h1,h2⟩:=IN h.2 hm
   exact⟨d,aO _ h1,h2⟩
 |[],_::_,h,_=>h.elim
 |_::_,[],h,_=>h.elim
theorem Ee{w:aj}{lo:Nat→Prop}:∀{m:List (cP×Raw)} {M:List (cP×Nd)} {x:cP×Nd},iR w lo m M→x∈M→∃r,(x.1,r)∈m
 |[],[],_,_,h=>by simp at h
 |z::m,y::M,x,h,hm=>by
  rcases ay.1 hm with e|hm
  ·subst e
   exact⟨z.2,by rw[show(x.1,z.2)=z from Prod.ext h.1.1.symm rfl];exact aT ..⟩
  ·obtain⟨d,h1⟩:=Ee h.2 hm
   exact⟨d,aO _ h1⟩
 |[],_::_,_,h,_=>h.elim
 |_::_,[],_,h,_=>h.elim
theorem XK{v:Value}{p:cP}(h:keyOf prog 9 v=some (.string p)):v=sv p∧p.length≤maxLen:=by
 obtain⟨s,rfl⟩:=Maps.keyOf_string_inv underlying9 h;obtain⟨q,rfl⟩:=AG s;obtain⟨h1,h2⟩:=FW (p:=q) h;cases h2;exact⟨rfl,h1⟩
theorem SW{a b:Bool}(h:a=b):Ending.returned (.bool a)=.returned (.bool b):=by rw[h]
def OO(M M':List (cP×Nd))(left:Lit→Bool):Prop:=∀x∈M,left (.string x.1)=false→dF x.1 M'=some x.2
theorem OO.step{M M':List (cP×Nd)}{left:Lit→Bool}(h:OO M M' left){p:cP}{d:Nd}(hn:(M.map (·.1)).Nodup)(hm:(p,d)∈M)(hg:dF p M'=some d):OO M M' (fun z=>left z&&!z.sameKey (.string p)):=fun x hx hl=>by
 by_cases hxp:x.1=p
 ·have h1:dF x.1 M=some x.2:=by
   obtain⟨j,hj⟩:=aQ hx;exact qz hn hj
  have h2:dF p M=some d:=by
   obtain⟨j,hj⟩:=aQ hm;exact qz hn hj
  rw[hxp] at h1;rw[h1] at h2;cases h2;rw[hxp];exact hg
 ·refine h x hx ?_
  have:(an x.1).sameKey (.string p)=false:=by
   cases hs:(an x.1).sameKey (.string p)
   ·rfl
   ·have:=WideAt.sameKey_eq hs
    cases this;exact absurd rfl hxp
  have hl2:(left (.string x.1)&&!(an x.1).sameKey (.string p))=false:=hl;rw[this] at hl2;simpa using hl2
structure ahT(lo lo':Nat→Prop)(b1 b2 r:Nat)(m m':List (cP×Raw))(M M':List (cP×Nd))(es:List (Lit×DataW Value))(w:aj)(left:Lit→Bool)(cnt:Nat)(wr:aj):Prop where
 rg:wr.ranges prog 9 Km b1 r m.length (.map es) left cnt
 bl:cF w wr
 good:OO M M' left
theorem Dm(w:aj)(lo lo':Nat→Prop)(b1 b2:Nat)(m m':List (cP×Raw))(M M':List (cP×Nd))(h1:dL prog 9 sv Raw.val w b1 m)(h2:dL prog 9 sv Raw.val w b2 m')
  (l1:iR w lo m M) (l2:iR w lo' m' M') (f1:Fit M) (f2:Fit M'):
  aD prog 57 #[.map (some b1),.map (some b2),.func (.func 58) #[] #[]] w fun e w'=>e=.returned (.bool (yS M M'))∧cF w w':=by
 have ql1:=fun ty=>h1.Fw underlying120 ty
 have ql2:=fun ty=>h2.Fw underlying120 ty
 rw[l1.len] at ql1;rw[l2.len] at ql2;by_cases hsz:M.length=M'.length
 ·obtain⟨es,ho,hp⟩:=Tc h1 (by have:=l1.len;have:=f1.len;omega)
  have Az:=cE (cD h1 (cD h2 (cD l1 (cD l2 (cD f1 (cD f2 (cD hp hsz)))))));rw[hsz] at ql1;obtain⟨R,hR⟩:=cG (yS M M');rw[←hR];obtain⟨es1,hes,hap,hkeys⟩:=ho.entries oK;cases hes;have Sd:=cE (cD hap hkeys);have HR:=cE hR;clear h1 h2 l1 l2 f1 f2 hp hsz hap hkeys hR;go_enter func57,ntmps57
  go_wp2_with (at_range;refine wpList_range_own _ rfl _ 120 rfl 9 44 oK underlying120 Km b1 m.length _ rfl ho ?_;intro w0 afw RT hs0)
  have H0:Hid (ahT lo lo' b1 b2 w.heap.size m m' M M' es w (Maps.has (.map es)) (Maps.size (.map es:DataW Value)) w0):=cE ⟨afw,⟨RT.os,RT.tape,RT.output,RT.size,fun k hk=>RT.block k hk cN⟩,fun x hx h=>by
   exfalso
   obtain⟨h1,h2,l1,l2,f1,f2,hp,hsz⟩:=Az.out;obtain⟨r,hr⟩:=Ee l1 hx;have hin:(an x.1,aG r.val)∈es:=hp.mem_iff.2 (aL.2 ⟨(x.1,r),hr,rfl⟩);have:Maps.has (DataW.map es) (.string x.1)=true:=List.any_eq_true.2 ⟨_,hin,WideAt.sameKey_self (Sd.out.2 _ hin)⟩;rw[this] at h;cases h⟩
  clear ql1 ql2 afw RT hs0 ho;go_frame
  go_loopw [18] (fun _ wr=>∃(left:Lit→Bool) (cnt:Nat),Hid (ahT lo lo' b1 b2 w.heap.size m m' M M' es w left cnt wr))
   (fun _ wr=>wr.rangeLeft b1 w.heap.size)
  case atStart=>exact⟨_,_,H0⟩
  obtain⟨left,cnt,HS⟩:=hrel;go_wp2_with (at_next;refine wpList_next_ranges _ rfl _ rfl 9 oK Km id id (fun key _ _=>⟨key,rfl⟩) (fun v _ _=>⟨v,rfl⟩) b1 w.heap.size m.length _ _ _ rfl HS.out.rg ?_ ?_)
  ·intro _ hl0
   have HL0:=cE hl0;clear hl0;go_wp2
   go_ret
   refine⟨SW ?_,HS.out.bl⟩;rw[HR.out];unfold yS;rw[decide_eq_true Az.out.2.2.2.2.2.2.2,Bool.true_and];exact(List.all_eq_true.2 fun x hx=>decide_eq_true (HS.out.good x hx (HL0.out _))).symm
  intro x c0 kl yd yp w1 als hkey hlk hv hat hrg1 hlt uD hs1 BO;have hy:(yd,yp)=((aG c0:DataW Value),([]:List MemPlace)):=(aK hv).symm;simp only[aF] at hy;obtain⟨rfl,rfl⟩:=hy;obtain⟨h1,h2,l1,l2,f1,f2,hp,hsz⟩:=Az.out;have hmem:=hp.mem_iff.1 (Maps.came_mem Sd.out.1 Sd.out.2 hat);obtain⟨⟨p,r⟩,hpm,he⟩:=aL.1 hmem;simp only[aF,DataW.held.injEq] at he;obtain⟨rfl,rfl⟩:=he;obtain⟨d,hdm,hrd⟩:=IN l1 hpm;obtain⟨rfl,hpl⟩:=XK hkey;have de:cF w w1:=⟨uD.os.trans HS.out.bl.os,uD.tape.trans HS.out.bl.tape,uD.output.trans HS.out.bl.output,aB HS.out.bl.size uD.size,fun k hk=>(uD.block k (aV hk HS.out.bl.size) (by simp;omega)).trans (HS.out.bl.block k hk)⟩;have hkp:(M.map (·.1)).Nodup:=by rw[←l1.keys];exact h1.nodup
  have qy:dF p M'≠some d→R=false:=fun hne=>by
   rw[HR.out];unfold yS;rw[Bool.and_eq_false_iff];exact .inr (List.all_eq_false.2 ⟨(p,d),hdm,by simpa using hne⟩)
  obtain⟨lk,abN⟩:=AF (p:=p) hpl;have ZC:∃(ok:Bool) (r2:Raw),(∀W,W.heap[b2]?=w.heap[b2]?→(Instr.lookup 120 (.map (some b2)) (.s p) true).run prog W=.ok (.tuple #[r2.val,.bool ok]) W)∧((ok=false∧dF p M'=none)∨∃d2,ok=true∧dF p M'=some d2∧Reads w lo' r2 d2):=by
   rcases l2.get p with ⟨g1,g2⟩|⟨r2,d2,g1,g2,g3⟩
   ·refine⟨false,oZ,fun W hW=>?_,.inl ⟨rfl,g2⟩⟩
    have:=(h2.of_block hW).mU oK uo underlying120 (M7 W) abN;rw[g1] at this;exact this
   refine⟨true,r2,fun W hW=>?_,.inr ⟨d2,rfl,g2,g3⟩⟩;have:=(h2.of_block hW).mU oK uo underlying120 (M7 W) abN;rw[g1] at this;exact this
  obtain⟨ok,r2,ZC,akL⟩:=ZC;have agl:b2<w.heap.size:=h2.lt;have hdl:d.data.length≤1000000:=f1.data _ hdm;have abX:∀d2,dF p M'=some d2→d2.data.length≤1000000:=fun d2 h=>by
   obtain⟨z,hz,he⟩:=pT h;subst he;exact f2.data z hz
  obtain⟨a,n,c,⟨v1,v2,v3,v4,v5,v6,v7,v8⟩⟩:=r;obtain⟨a2,n2,c2,⟨x1,x2,x3,x4,x5,x6,x7,x8⟩⟩:=r2;obtain⟨w2,eS⟩:=cG (w1.alloc (.cells #[.slice a n c,.u v1,.u v2,.u v3,.i v4,.u v5,.v v6,.v v7,.v v8] 44));obtain⟨w3,kz⟩:=cG (w2.alloc (.cells #[.slice a2 n2 c2,.u x1,.u x2,.u x3,.i x4,.u x5,.v x6,.v x7,.v x8] 44));have uG:cF w1 w2:=by rw[eS];exact cR (aH _ w1) _
  have Df:cF w2 w3:=by rw[kz];exact cR (aH _ w2) _
  have iI:cF w1 w3:=uG.trans (Df.mono uG.size);have Dg:cF w w3:=de.trans (iI.mono de.size);have hs2:w2.heap.size=w1.heap.size+1:=by rw[eS];simp
  have g2:w3.heap[w1.heap.size]?=some (.cells #[.slice a n c,.u v1,.u v2,.u v3,.i v4,.u v5,.v v6,.v v7,.v v8] 44 (0,0)):=(Df.block _ cL).trans (by rw[eS];exact ah w1 _);have g3:w3.heap[w1.heap.size+1]?=some (.cells #[.slice a2 n2 c2,.u x1,.u x2,.u x3,.i x4,.u x5,.v x6,.v x7,.v x8] 44 (0,0)):=by
   have:=ah w2 (.cells #[.slice a2 n2 c2,.u x1,.u x2,.u x3,.i x4,.u x5,.v x6,.v x7,.v x8] 44);rw[hs2] at this;rw[kz];exact this
  have q2:=ZC w2 ((uG.block b2 (aV agl de.size)).trans (de.block b2 agl));rw[eS] at q2;have HG:=cE (cD g2 g3);have HW:=cE (cD eS kz);have uU:=cE (cD iI (cD Dg de));have mX:=cE (cD hrg1 hlt);have OJ:=cE (hrd.below Dg);have HM:=cE (cD hdm (cD hkp qy));unfold Raw.val Raw.cells eL.cells at q2 BO;dsimp only[id] at q2 BO;unfold sv at BO;clear h1 h2 l1 l2 f1 f2 hp hsz hmem hpm hdm hrd hkey hat hrg1 hlt uD hs1 de hkp qy abN hlk eS kz uG Df iI hs2 g2 g3 ZC;rcases akL with ⟨rfl,hnone⟩|⟨d2,rfl,hsome,afC⟩
  ·have HR0:R=false:=HM.out.2.2 (by rw[hnone];simp)
   subst HR0;clear hnone abX Dg;go_wp2
   go_ret
   exact⟨rfl,cR (cR uU.out.2.2 _) _⟩
  have ZP:=abX d2 hsome;have HL:=cE (TE w3 lo lo' ⟨a,n,c,⟨v1,v2,v3,v4,v5,v6,v7,v8⟩⟩ ⟨a2,n2,c2,⟨x1,x2,x3,x4,x5,x6,x7,x8⟩⟩ d d2 OJ.out (afC.below Dg) hdl ZP);have VF:=cE hsome;clear hsome afC abX ZP Dg;obtain⟨i0,i1,i2,i3,i4,i5,i6,i7,i8⟩:=nine HG.out.1;obtain⟨j0,j1,j2,j3,j4,j5,j6,j7,j8⟩:=nine HG.out.2;by_cases Yf:d=d2
  ·rw[decide_eq_true Yf] at HL
   have HD:=cE Yf;clear Yf;go_wp2_with fail
   rw[←HW.out.1,←HW.out.2];go_wp2_with fail
   refine HL.out.mono ?_;rintro en w4 ⟨rfl,B4⟩;have GI:=cE (uU.out.1.trans (B4.mono uU.out.1.size));clear B4;go_wp2
   have hgr:w1.grownBy w4 none:=⟨GI.out.os,GI.out.tape,GI.out.output,GI.out.size,fun k hk _=>GI.out.block k hk⟩;have afu:=mX.out.1.kept hgr cN cN;go_roundw
   case rel=>exact⟨_,als,cE ⟨afu,uU.out.2.2.trans (GI.out.mono uU.out.2.2.size),HS.out.good.step HM.out.2.1 HM.out.1 (by rw[VF.out,HD.out])⟩⟩
   case measure=>rw[afu.left_eq,HS.out.rg.left_eq];exact mX.out.2
  rw[decide_eq_false Yf] at HL;have HR0:R=false:=HM.out.2.2 (by rw[VF.out];simpa using Ne.symm Yf);subst HR0;clear Yf;go_wp2_with fail
  rw[←HW.out.1,←HW.out.2];go_wp2_with fail
  refine HL.out.mono ?_;rintro en w4 ⟨rfl,B4⟩;have GI:=cE (uU.out.1.trans (B4.mono uU.out.1.size));clear B4;go_wp2
  go_ret
  exact⟨rfl,uU.out.2.2.trans (GI.out.mono uU.out.2.2.size)⟩
 have hR:yS M M'=false:=by unfold yS;rw[decide_eq_false hsz];rfl
 rw[hR];have hne:¬((M.length:Int)=(M'.length:Int)):=fun e=>hsz (by exact_mod_cast e)
 clear h1 h2 l1 l2 f1 f2 hR hsz;go_enter func57,ntmps57
 go_wp2
 go_ret
 exact⟨rfl,aH _ _⟩
section
variable{w:World}{lo lo':Nat→Prop}{b mb b2 mb2:Nat}{root vM:cP}{at_ at2:Int}{M M':List (cP×Nd)}
def Nr(root:cP)(at_:Int)(M:List (cP×Nd))(vM:cP)(at2:Int)(M':List (cP×Nd)):Bool:=decide (root=vM)&&(at_==at2)&&yS M M'
theorem dJ.AT(T:dJ w lo b mb root at_ M)(T2:dJ w lo' b2 mb2 vM at2 M')(f1:Fit M)(f2:Fit M'):
  aD prog 21 #[.p b,.p b2] w fun e w'=>e=.returned (.bool (Nr root at_ M vM at2 M'))∧cF w w':=by
 obtain⟨c0,c1,c2⟩:=T.cells;obtain⟨d0,d1,d2⟩:=T2.cells;obtain⟨m,hm,hl⟩:=T.map;obtain⟨m2,hm2,hl2⟩:=T2.map;obtain⟨s,hsM⟩:=cG (yS M M');unfold Nr;rw[←hsM];have hEQ:si w 57 #[.map (some mb),.map (some mb2),.func (.func 58) #[] #[]] (.bool s):=fun W hW=>by
  rw[hsM];exact Dm W lo lo' mb mb2 m m2 M M' (hm.of_block (hW.block _ hm.lt)) (hm2.of_block (hW.block _ hm2.lt)) (hl.imp fun _ _ h=>h.below hW) (hl2.imp fun _ _ h=>h.below hW) f1 f2
 have HEQ:=cE (hEQ.ext (aH _ w));have t1:=Cc root vM;have g:∀(p:Addr) v,w.cell? p=some v→∀o,(gN w o).cell? p=some v:=fun p v h o=>((gN.below w o).cell (World.block_lt_of_cell? _ _ h)).trans h
 have e0:=g _ _ c0;have e1:=g _ _ c1;have e2:=g _ _ c2;have e3:=g _ _ d0;have e4:=g _ _ d1;have e5:=g _ _ d2;clear T T2 hsM hm hm2 hl hl2 hEQ c0 c1 c2 d0 d1 d2 g f1 f2;cases h1:decide (root=vM)
 all_goals
  rw[h1] at t1;clear h1;cases h2:(at_==at2)
  all_goals
   go_enter func21,ntmps21
   go_wp2_with fail
   refine lK cK cK ?_
   repeat (go_big_quiet_step (first|(go_at_call 57;exact HEQ.out _)))
   refine wpQuiet_nil ?_;intro w' hw';obtain⟨oq,LJ⟩:=hw';subst LJ;go_wp2
   go_ret
   exact⟨rfl,gN.below w oq⟩
end
end
section
open Go.RowKit Go.Shelf Go.MapKept Go.ChangeMaps Go.Maps Go.Sort
theorem rQ{w:aj}{lo:Nat→Prop}{hi:Nat}{a:Option Addr}{D:cP}{c:Nat}(h:eB w lo hi a D)(hn:a=none→D=[]∧c=0):(convert 32 9 (.slice a D.length c)).run prog w=.ok (.s D) w:=by
 cases a with
 |none=>
  obtain⟨rfl,rfl⟩:=hn rfl;exact run_convert_bytes_nil w 32 5 underlying32 underlying5 0 0 9 underlying9
 |some ad=>
 refine run_convert_bytes_back w 32 9 5 ad c D underlying32 underlying5 underlying9 fun j hj=>?_
 obtain⟨b,off,e,_,_,h4⟩:=h j D[j] (List.getElem?_eq_getElem hj);cases e;rw[Addr.add_mid];exact h4
theorem xm.sl{w:aj}{base:Nat}{a:Option Addr}{n c:Nat}{L:List cP}(h:xm w base (.slice a n c) L):n=L.length∧gA w w.heap.size a L:=by
 rcases h with ⟨h1,rfl⟩|⟨g,cap,h1,h2,h3,h4,h5⟩
 ·cases h1
  exact⟨rfl,gA.nil _ _ _⟩
 cases h1;refine⟨rfl,fun k p hk=>⟨g,0,rfl,h3,?_⟩⟩;rw[Nat.zero_add];exact h5 k p hk
structure TR(w0 w:aj)(b:Nat)(root:cP)(at_:Int)(M:List (cP×Nd)):Prop where
 tree:∃lo mb,dJ w lo b mb root at_ M
 bl:cF w0 w
 hb:w0.heap.size≤b
 fit:Fit M
 rl:root.length≤1000
 hm:dG w0
def atA(root:cP)(at_:Int)(M:List (cP×Nd))(E:List gh):Int:=if (dM root M E).1=0 then at_+1 else at_
def nG(root:cP)(M:List (cP×Nd))(E:List gh):List (cP×Nd):=if (dM root M E).1=0 then (dM root M E).2 else M
theorem Fit.nodes{root:cP}{M:List (cP×Nd)}{E:List gh}(h:Fit M)(hE:∀e∈E,CB e):Fit (nG root M E):=by
 unfold nG;split
 ·exact h.all hE
 exact h
section
variable{w0 w:World}{b b2:Nat}{root vM:cP}{at_ at2:Int}{M M2:List (cP×Nd)}
theorem TR.lt(R:TR w0 w b root at_ M):b<w.heap.size:=by
 obtain⟨lo,mb,T⟩:=R.tree;exact lt_of_block T.blk
theorem TR.max(R:TR w0 w b root at_ M):dG w:=R.hm.kept R.bl
theorem TR.below(R:TR w0 w b root at_ M){w':aj}(hb:cF w w'):TR w0 w' b root at_ M:=by
 obtain⟨lo,mb,T⟩:=R.tree;exact⟨⟨lo,mb,T.below hb⟩,R.bl.trans (hb.mono R.bl.size),R.hb,R.fit,R.rl,R.hm⟩
theorem TR.short(R:TR w0 w b root at_ M):M.length≤1000:=aB R.fit.len cL
theorem TR.new(hb:cF w0 w)(hm:dG w0)(hl:root.length≤1000)(h:(dx root).isSome=true):
  aD prog 45 #[.s root] w fun e w'=>∃b,e=.returned (.tuple #[.p b,.I])∧TR w0 w' b root 0 [(root,iN)]∧w.heap.size≤b∧cF w w':=
 (Xo root w (hm.kept hb) hl h).mono fun e w' ⟨b,mb,he,T,h1,h2,h3,h4⟩=>⟨b,he,⟨⟨_,mb,T⟩,hb.trans (h4.mono hb.size),aB hb.size h1,⟨by simp,by simpa using hl,by simp[iN]⟩,hl,hm⟩,h1,h4⟩
theorem TR.clone(R:TR w0 w b root at_ M):
  aD prog 51 #[.p b] w fun e w'=>∃b',e=.returned (.p b')∧TR w0 w' b' root at_ M∧w.heap.size≤b'∧cF w w':=by
 obtain⟨lo,mb,T⟩:=R.tree;exact T.mV.mono fun e w' ⟨b',uW,he,T',h1,h2,h3,h4⟩=>⟨b',he,⟨⟨lo,uW,T'⟩,R.bl.trans (h4.mono R.bl.size),aB R.bl.size h1,R.fit,R.rl,R.hm⟩,h1,h4⟩
theorem TR.Gv(R:TR w0 w b root at_ M):aD prog 73 #[.p b] w fun e w'=>e=.returned (.v at_)∧w=w':=by
 obtain⟨lo,mb,T⟩:=R.tree;exact T.Gv.mono fun e w' ⟨h1,h2⟩=>⟨h1,h2.symm⟩
theorem TR.get(R:TR w0 w b root at_ M)(p:cP)(hp:p.length≤maxLen):
  aD prog 112 #[.p b,.s p] w fun e w'=>∃r:Raw,e=.returned (.tuple #[r.val,.bool (dF p M).isSome])∧Reads w' (fQ w.heap.size) r ((dF p M).getD iN)∧cF w w'∧om w.heap.size w' r.a:=by
 obtain⟨lo,mb,T⟩:=R.tree;exact T.Gk p hp R.fit.data
theorem TR.paths(R:TR w0 w b root at_ M):
  aD prog 111 #[.p b] w fun e w'=>∃a c,e=.returned (.slice a M.length c)∧gA w' w'.heap.size a (gU M)∧cF w w':=by
 obtain⟨lo,mb,T⟩:=R.tree;refine(T.DU R.short R.fit.path).mono ?_;rintro e w' ⟨v,rfl,hr,hb⟩;obtain⟨a,c,rfl,_⟩:=hr.c.form;exact⟨a,c,by rw[pK],hr.c.sl.2,hb⟩
theorem TR.kids(R:TR w0 w b root at_ M)(p:cP):
  aD prog 20 #[.p b,.s p] w fun e w'=>∃a c,e=.returned (.slice a (jB root M p).length c)∧gA w' w'.heap.size a (jB root M p)∧cF w w':=by
 obtain⟨lo,mb,T⟩:=R.tree;refine(T.BH R.short R.max R.fit.path p).mono ?_;rintro e w' ⟨v,rfl,hr,hb⟩;obtain⟨a,c,rfl,_⟩:=hr.form;exact⟨a,c,rfl,hr.sl.2,hb⟩
theorem TR.same(R:TR w0 w b root at_ M)(R2:TR w0 w b2 vM at2 M2):
  aD prog 21 #[.p b,.p b2] w fun e w'=>e=.returned (.bool (Nr root at_ M vM at2 M2))∧cF w w':=by
 obtain⟨lo,mb,T⟩:=R.tree;obtain⟨Qg,mb2,T2⟩:=R2.tree;exact T.AT T2 R.fit R2.fit
end
theorem UT(w:aj)(r:cZ):gC (w.alloc (.cells r.cells.toArray 93)) (w.alloc (.cells r.cells.toArray 93)).heap.size (some ⟨w.heap.size,0,none⟩) [r]:=by
 intro k q hk;have hk0:k=0:=by have:=(af.1 hk).1;simp at this;exact this
 subst hk0;simp at hk;subst hk;refine⟨w.heap.size,0,rfl,by simp,fun j v hv=>?_⟩;rw[show 0+0*11+j=j by omega,cell_of_row _ _ j _ 93 (0,0) (ah w _)];simpa using hv
theorem lY(r:cZ):r.cells.length=11:=rfl
theorem Jk(w:aj)(r s:cZ):gC (w.alloc (.cells (r.cells++s.cells).toArray 93)) (w.alloc (.cells (r.cells++s.cells).toArray 93)).heap.size (some ⟨w.heap.size,0,none⟩) [r,s]:=by
 intro k q hk;rcases(show k=0∨k=1 by have:=(af.1 hk).1;simp at this;omega) with rfl|rfl
 ·simp at hk
  subst hk;refine⟨w.heap.size,0,rfl,by simp,fun j v hv=>?_⟩;rw[show 0+0*11+j=j by omega,cell_of_row _ _ j _ 93 (0,0) (ah w _)];have hj:=(af.1 hv).1;simpa [List.getElem?_append_left hj] using hv
 simp at hk;subst hk;refine⟨w.heap.size,0,rfl,by simp,fun j v hv=>?_⟩;rw[show 0+1*11+j=11+j by omega,cell_of_row _ _ (11+j) _ 93 (0,0) (ah w _)];have:(r.cells++s.cells)[11+j]?=some v:=by rw[List.getElem?_append_right (by rw[lY];omega),lY,show 11+j - 11=j by omega];exact hv
 simpa using this
theorem IM{w:aj}{lo:Nat→Prop}{r:cZ}{e:gh}(h:kP w lo r e):eV w lo [r] [e]:=⟨rfl,fun k r' e' h1 h2=>by
 have hk0:k=0:=by have:=(af.1 h1).1;simp at this;exact this
 subst hk0;simp at h1 h2;subst h1 h2;exact h⟩
theorem IL{w:aj}{lo:Nat→Prop}{r s:cZ}{e f:gh}(h:kP w lo r e)(g:kP w lo s f):eV w lo [r,s] [e,f]:=⟨rfl,fun k r' e' h1 h2=>by
 rcases(show k=0∨k=1 by have:=(af.1 h1).1;simp at this;omega) with rfl|rfl
 ·simp at h1 h2
  subst h1 h2;exact h
 ·simp at h1 h2
  subst h1 h2;exact g⟩
end
theorem GV{q root:cP}(h:dX q root=true):∃L R,dx q=some L∧dx root=some R∧R <+: L:=by
 unfold dX at h;cases hq:dx q with
 |none=>rw[hq] at h;simp at h
 |some L=>
 cases hr:dx root with
 |none=>rw[hq,hr] at h;simp at h
 |some R=>exact⟨L,R,rfl,rfl,(ot hq hr).1 (by unfold dX;rw[hq,hr];rw[hq,hr] at h;exact h)⟩
theorem vB{q root:cP}(h:dX q root=true)(hne:q≠root):dX (cW q) root=true∧cW q≠q:=by
 obtain⟨L,R,h1,h2,t,rfl⟩:=GV h;have e1:=sG h1;have e2:=sG h2;have ht:t≠[]:=fun e=>hne (by rw[←e1,←e2,e,List.append_nil])
 have hk:(R++t).length - 1<(R++t).length:=by
  have:0<t.length:=au.2 ht;simp;omega
 have hp:=Ic h1 ((R++t).length - 1) hk;have hs:=shorter h1 ((R++t).length - 1) hk;rw[show(R++t).length - 1+1=(R++t).length by omega,List.take_length,e1] at hp hs;refine⟨?_,fun e=>?_⟩
 ·rw[hp]
  refine(ot (Bi h1 _) h2).2 ?_;have hl:0<t.length:=au.2 ht;rw[List.take_append,List.take_of_length_le (by simp;omega)];exact aR _ _
 rw[hp] at e;rw[e] at hs;omega
structure Inv(root:cP)(M:List (cP×Nd)):Prop where
 nodup:(M.map (·.1)).Nodup
 has:root∈M.map (·.1)
 under:∀q∈M.map (·.1),dX q root=true
 parent:∀q∈M.map (·.1),q≠root→cW q∈M.map (·.1)
theorem gW{p:cP}:∀{M:List (cP×Nd)},(dF p M).isSome=true↔p∈M.map (·.1)
 |[]=>by simp[dF]
 |y::M=>by
  unfold dF;split
  ·rename_i h;simp[h]
  ·rename_i h
   rw[gW];simp[Ne.symm h]
theorem Yp{p:cP}{M:List (cP×Nd)}:(dF p M).isSome=false↔p∉M.map (·.1):=by
 rw[←gW];simp
theorem DS{p:cP}{d:Nd}:∀{M:List (cP×Nd)},(iH p d M).map (·.1)=if (dF p M).isSome then M.map (·.1) else M.map (·.1)++[p]
 |[]=>by simp[iH,dF]
 |y::M=>by
  unfold iH dF;split
  ·rename_i h;simp[h]
  ·rw[aA,DS]
   split<;>simp
theorem yA{p:cP}:∀{M:List (cP×Nd)},(M.map (·.1)).Nodup→∀q,q∈(oR p M).map (·.1)↔q∈M.map (·.1)∧q≠p
 |[],_,q=>by simp[oR]
 |y::M,hn,q=>by
  simp only[aA,List.nodup_cons] at hn;unfold oR;split
  ·rename_i h
   subst h;simp only[aA,ay];constructor
   ·intro hq
    exact⟨.inr hq,fun e=>hn.1 (e▸hq)⟩
   ·rintro⟨rfl|hq,h2⟩
    ·exact absurd rfl h2
    ·exact hq
  ·rename_i h
   simp only[aA,ay];rw[yA hn.2];constructor
   ·rintro(rfl|⟨h1,h2⟩)
    ·exact⟨.inl rfl,h⟩
    ·exact⟨.inr h1,h2⟩
   ·rintro⟨rfl|h1,h2⟩
    ·exact .inl rfl
    ·exact .inr ⟨h1,h2⟩
theorem Inv.made{root:cP}(h:(dx root).isSome=true)(d:Nd):Inv root [(root,d)]:=by
 obtain⟨R,hR⟩:=aI.1 h;refine⟨by simp,by simp,?_,?_⟩
 ·intro q hq
  simp at hq;subst hq;exact(ot hR hR).2 (List.prefix_refl _)
 intro q hq hne;simp at hq;exact absurd hq hne
theorem Inv.one{root:cP}{M:List (cP×Nd)}(I:Inv root M)(e:gh):Inv root (nF root M e):=by
 unfold nF;split
 ·exact I
 rename_i hu
 have hu:dX e.path root=true:=by simpa using hu
 split
 ·unfold zu
  split
  ·rename_i h0
   unfold wM at h0;split at h0
   ·cases h0
   rename_i h1
   split at h0
   ·cases h0
   split at h0
   ·cases h0
   rename_i h2
   rw[I3] at h2;have hk:=yA (p:=e.path) I.nodup;refine⟨I.nodup.sublist (nP.map _),(hk root).2 ⟨I.has,fun e1=>h1 e1.symm⟩,fun q hq=>I.under q ((hk q).1 hq).1,fun q hq hne=>?_⟩;have ZC:=(hk q).1 hq;refine(hk _).2 ⟨I.parent q ZC.1 hne,fun e1=>h2 ?_⟩;obtain⟨x,hx,rfl⟩:=aL.1 ZC.1;refine List.any_eq_true.2 ⟨x,hx,?_⟩;unfold rJ;rw[decide_eq_false ZC.2,decide_eq_false hne,decide_eq_true e1];rfl
  exact I
 unfold Hw;split
 ·rename_i h0
  unfold Bg at h0;split at h0
  ·cases h0
  rename_i h1
  have hpar:e.path=root∨cW e.path∈M.map (·.1):=by
   by_cases hr:e.path=root
   ·exact .inl hr
   refine .inr (gW.1 ?_);cases hg:(dF (cW e.path) M).isSome
   ·exact absurd ⟨hr,hg⟩ h1
   rfl
  rw[show Inv root (iH e.path e.node M)↔Inv root (iH e.path e.node M) from Iff.rfl];have hk:(iH e.path e.node M).map (·.1)=_:=DS;cases hs:(dF e.path M).isSome with
  |true=>
   rw[hs,if_pos rfl] at hk;exact⟨by rw[hk];exact I.nodup,by rw[hk];exact I.has,by rw[hk];exact I.under,by rw[hk];exact I.parent⟩
  |false=>
  rw[hs,if_neg cN] at hk;have hno:=Yp.1 hs;refine⟨?_,?_,?_,?_⟩
  ·rw[hk]
   exact List.nodup_append.2 ⟨I.nodup,by simp,fun a ha b hb e1=>by simp at hb;subst hb;subst e1;exact hno ha⟩
  ·rw[hk];exact aP _ I.has
  ·intro q hq
   rw[hk] at hq;rcases aq.1 hq with h|h
   ·exact I.under q h
   simp at h;subst h;exact hu
  intro q hq hne;rw[hk] at hq⊢;refine aP _ ?_;rcases aq.1 hq with h|h
  ·exact I.parent q h hne
  simp at h;subst h;rcases hpar with h|h
  ·exact absurd h hne
  exact h
 exact I
theorem Inv.all{root:cP}:∀{E:List gh} {M:List (cP×Nd)},Inv root M→Inv root (dM root M E).2
 |[],M,h=>h
 |e::E,M,h=>by
  unfold dM;split
  ·exact Inv.all (h.one e)
  ·exact h
theorem Qs{M:List (cP×Nd)}{q:cP}:q∈gU M↔q∈M.map (·.1):=(gH _).mem_iff
section
structure dW where
 site:Int
 n:Int
 deriving DecidableEq
structure eC where
 kind:Int
 path:cP
 data:cP
 gS:Int
 seq:Bool
 mM:Bool
 deriving DecidableEq
structure JY where
 path:cP
 node:Nd
 kids:List cP
 deriving DecidableEq
def l5:JY:=⟨[],iN,[]⟩
def wG(n:Int):Int:=IntKind.u32.wrap (n+1)
def Jr(n:Int):cP:=aJ (10 - (ag n.toNat).length) 48++ag n.toNat
def CT(d:Nd)(at_:Int):Nd:=⟨d.data,{d.num with C5:=wG d.num.C5,DG:=at_}⟩
def Iv(d:Nd):Nd:=⟨d.data,{d.num with next:=wG d.num.next}⟩
def yb(data:cP)(at_:Int)(who:dW)(mM:Bool):Nd:=⟨data,⟨0,0,0,if mM then who.site else 0,if mM then who.n else 0,at_,at_,at_⟩⟩
def CY(d:Nd)(data:cP)(at_:Int):Nd:=⟨data,{d.num with gS:=wG d.num.gS,EY:=at_}⟩
def ia(s n:Int):Bool:=decide (s=0)&&decide (n=0)
def ek(M:List (cP×Nd))(o:eC):cP:=if o.seq then o.path++Jr ((dF (cW o.path) M).getD iN).num.next else o.path
def fW(root:cP)(M:List (cP×Nd))(who:dW)(o:eC):Int:=
 if o.path=root then (if o.seq then 30 else 32)
 else if (dx (ek M o)).isSome=false then 30
 else match dF (cW (ek M o)) M with
 |none=>31
 |some u=>if ia u.num.os u.num.on=false then 34 else if o.mM=true∧ia who.site who.n=true then 63 else if (dF (ek M o) M).isSome=true then 32 else if 48≤M.length then 36 else 0
def lQ(M:List (cP×Nd))(at_:Int)(o:eC):Nd:=if o.seq then Iv (CT ((dF (cW (ek M o)) M).getD iN) at_) else CT ((dF (cW (ek M o)) M).getD iN) at_
def jo(M:List (cP×Nd))(at_:Int)(who:dW)(o:eC):List gh:=[⟨cW (ek M o),false,lQ M at_ o⟩,⟨ek M o,false,yb o.data at_ who o.mM⟩]
def mF(M:List (cP×Nd))(o:eC):Int:=match dF o.path M with
 |none=>31
 |some d=>if 0≤o.gS∧o.gS≠IntKind.i64.wrap d.num.gS then 35 else 0
def iO(root:cP)(M:List (cP×Nd))(o:eC):Int:=if o.path=root then 30 else if mF M o≠0 then mF M o else if 0<(jB root M o.path).length then 33 else 0
def jK(M:List (cP×Nd))(at_:Int)(o:eC):List gh:=[⟨o.path,true,iN⟩,⟨cW o.path,false,CT ((dF (cW o.path) M).getD iN) at_⟩]
def nodeAt(M:List (cP×Nd))(p:cP):Nd:=(dF p M).getD iN
def zV(M:List (cP×Nd))(at_:Int)(o:eC):List gh:=[⟨o.path,false,CY (nodeAt M o.path) o.data at_⟩]
def lN(root:cP)(M:List (cP×Nd))(who:dW)(o:eC):Int:=
 if dX o.path root=false then 30
 else if o.kind=1 then fW root M who o
 else if o.kind=2 then iO root M o
 else if o.kind=3∨o.kind=4 then mF M o
 else if (dF o.path M).isSome=false then 31 else 0
def V4(M:List (cP×Nd))(at_:Int)(who:dW)(o:eC):List gh:=
 if o.kind=1 then jo M at_ who o else if o.kind=2 then jK M at_ o else if o.kind=3 then zV M at_ o else []
def C3(root:cP)(M:List (cP×Nd))(at_:Int)(who:dW)(o:eC):JY:=
 if o.kind=1 then ⟨ek M o,yb o.data at_ who o.mM,[]⟩
 else if o.kind=2 then ⟨o.path,iN,[]⟩
 else if o.kind=3 then ⟨o.path,CY (nodeAt M o.path) o.data at_,[]⟩
 else if o.kind=6 then ⟨o.path,nodeAt M o.path,jB root M o.path⟩
 else ⟨o.path,nodeAt M o.path,[]⟩
theorem DM(d:cP)(hd:(47:UInt8)∉d):∀r:cP,gE (r++d)=(gE r).dropLast++[(gE r).getLast (ow r)++d]
 |[]=>by
  rw[List.nil_append,AS d hd];simp[gE]
 |c::r=>by
  have ih:=DM d hd r;by_cases hc:c=47
  ·subst hc
   rw[aa,nA,ih];simp only[nA];rw[List.dropLast_cons_of_ne_nil (ow r),List.getLast_cons (ow r)];rfl
  ·obtain⟨h,t,e1,e2⟩:=lC c r hc
   obtain⟨h',t',e3,e4⟩:=lC c (r++d) hc;rw[aa,e4];rw[ih] at e3;simp only[e1] at e3;simp only[e2];cases t with
   |nil=>
    simp at e3;obtain⟨rfl,rfl⟩:=e3;simp
   |cons y t=>
    simp at e3;obtain⟨rfl,rfl⟩:=e3;simp
theorem U8:∀u:Nat,(47:UInt8)∉ag u:=fun u=>by
 induction u using Nat.strongRecOn with
 |ind u ih=>
  intro h;rw[ag] at h;have key:∀n:Nat,n<10→(47:UInt8)≠UInt8.ofNat (48+n):=fun n hn e=>by
   have:=congrArg UInt8.toNat e;rw[UInt8.toNat_ofNat'] at this;have h47:(47:UInt8).toNat=47:=rfl;omega
  split at h
  ·rename_i h10
   simp only[aS] at h;exact key u h10 h
  ·rcases aq.1 h with h|h
   ·exact ih (u / 10) cL h
   ·simp only[aS] at h
    exact key (u % 10) cL h
theorem Rj(n:Int):(47:UInt8)∉Jr n:=by
 intro h;unfold Jr at h;rcases aq.1 h with h|h
 ·exact absurd (List.mem_replicate.1 h).2 cM
 exact U8 _ h
theorem By{root:cP}{M:List (cP×Nd)}{o:eC}(hu:dX o.path root=true)(hne:o.path≠root)(hok:(dx (ek M o)).isSome=true):
  dX (ek M o) root=true∧ek M o≠root∧cW (ek M o)=cW o.path:=by
 unfold ek at hok⊢;cases hs:o.seq with
 |false=>simp only[hs,Bool.false_eq_true,if_false] at hok⊢;exact⟨hu,hne,trivial⟩
 |true=>
 simp only[hs,if_true] at hok⊢;have hd:=Rj ((dF (cW o.path) M).getD iN).num.next;generalize Jr ((dF (cW o.path) M).getD iN).num.next=d at hok hd⊢;obtain⟨LP,R,h1,h2,t,ht⟩:=GV hu;have e1:=sG h1;have e2:=sG h2;have htn:t≠[]:=fun e=>hne (by rw[←e1,←e2,←ht,e,List.append_nil])
 obtain⟨L',hL'⟩:=aI.1 hok;obtain⟨r,hr,_,zl⟩:=iC h1;rcases zl with ⟨rfl,rfl⟩|⟨XY,rfl,hall⟩
 ·exact absurd (aM.1 ht).2 htn
 obtain⟨r',hr',_,ab1⟩:=iC hL';have hrr:r'=r++d:=by
  rw[hr,aa] at hr';exact(List.cons.inj hr').2.symm
 subst hrr;rcases ab1 with ⟨h0,_⟩|⟨_,rfl,_⟩
 ·exact absurd (aM.1 h0).1 XY
 obtain⟨y,Ja⟩:∃y,gE (r++d)=(gE r).dropLast++[y]:=⟨_,DM d hd r⟩;have hdl:(gE (r++d)).dropLast=(gE r).dropLast:=by rw[Ja,List.dropLast_concat]
 refine⟨?_,?_,?_⟩
 ·refine(ot hL' h2).2 ?_
  rw[Ja,←ht,aC htn,aW];exact aR _ _
 ·intro e
  rw[e,h2] at hL';have hlen:=congrArg List.length (aK hL');rw[Ja,←ht,aC htn] at hlen;have:=au.2 htn;simp at hlen
  try omega
 unfold cW;rw[h1,hL'];dsimp only;rw[if_neg (ow _),if_neg (ow _),hdl]
section
variable{root:cP}{M:List (cP×Nd)}{at_:Int}{who:dW}{o:eC}
theorem Hv{p:cP}{d:Nd}(hu:dX p root=true)(hp:p=root∨(dF (cW p) M).isSome=true)(h:(dF p M).isSome=true∨M.length<48):kW root M ⟨p,false,d⟩=0∧nF root M ⟨p,false,d⟩=iH p d M:=by
 have h0:Bg root M p=0:=by
  unfold Bg;rw[if_neg,if_neg]
  ·rintro⟨h1,h2⟩
   rcases h with h3|h3
   ·rw[h3] at h1;cases h1
   omega
  rintro⟨h1,h2⟩;rcases hp with h3|h3
  ·exact h1 h3
  rw[h3] at h2;cases h2
 have hn:¬dX p root=false:=by rw[hu];simp
 unfold kW nF Hw;dsimp only;rw[if_neg hn,if_neg hn,if_neg cN,if_neg cN,h0];exact⟨rfl,rfl⟩
theorem xR{p:cP}{d:Nd}(I:Inv root M)(h:(dF p M).isSome=true):kW root M ⟨p,false,d⟩=0∧nF root M ⟨p,false,d⟩=iH p d M:=by
 have hm:=gW.1 h;refine Hv (I.under p hm) ?_ (.inl h);by_cases hr:p=root
 ·exact .inl hr
 exact .inr (gW.2 (I.parent p hm hr))
theorem Ct{e f:gh}(h1:kW root M e=0)(h2:kW root (nF root M e) f=0):dM root M [e,f]=(0,nF root (nF root M e) f):=by
 rw[jh h1,jh h2];rfl
theorem MQ{e:gh}(h1:kW root M e=0):dM root M [e]=(0,nF root M e):=by
 rw[jh h1];rfl
def mN(M:List (cP×Nd))(at_:Int)(who:dW)(o:eC):List (cP×Nd):=iH (ek M o) (yb o.data at_ who o.mM) (iH (cW (ek M o)) (lQ M at_ o) M)
theorem qC(h:fW root M who o=0):o.path≠root∧(dx (ek M o)).isSome=true∧(∃u,dF (cW (ek M o)) M=some u∧ia u.num.os u.num.on=true)∧¬(o.mM=true∧ia who.site who.n=true)∧(dF (ek M o) M).isSome=false∧M.length<48:=by
 unfold fW at h;split at h
 ·split at h<;>cases h
 rename_i h1
 split at h
 ·cases h
 rename_i h2
 split at h
 ·cases h
 rename_i u hu
 split at h
 ·cases h
 rename_i h3
 split at h
 ·cases h
 rename_i h4
 split at h
 ·cases h
 rename_i h5
 split at h
 ·cases h
 rename_i h6
 exact⟨h1,by cases hb:(dx (ek M o)).isSome;exact absurd hb h2;rfl,⟨u,hu,by simpa using h3⟩,h4,by simpa using h5,by omega⟩
theorem zD(I:Inv root M)(hu:dX o.path root=true)(h:fW root M who o=0):dM root M (jo M at_ who o)=(0,mN M at_ who o):=by
 obtain⟨h1,h2,⟨u,h3,_⟩,_,h5,h6⟩:=qC h;obtain⟨g1,g2,g3⟩:=By hu h1 h2;have hs:(dF (cW (ek M o)) M).isSome=true:=by rw[h3];rfl
 obtain⟨a1,a2⟩:=xR (d:=lQ M at_ o) I hs;have hne:ek M o≠cW (ek M o):=fun e=>(vB g1 g2).2 e.symm
 obtain⟨b1,b2⟩:=Hv (M:=iH (cW (ek M o)) (lQ M at_ o) M) (d:=yb o.data at_ who o.mM) g1 (.inr (by rw[kK];rfl)) (.inr (by rw[rD,hs];exact h6));unfold jo mN;rw[Ct a1 (by rw[a2];exact b1),a2,b2]
theorem jT(h:mF M o=0):∃d,dF o.path M=some d∧¬(0≤o.gS∧o.gS≠IntKind.i64.wrap d.num.gS):=by
 unfold mF at h;split at h
 ·cases h
 rename_i d hd
 split at h
 ·cases h
 rename_i h2;exact⟨d,hd,h2⟩
def KF(M:List (cP×Nd))(at_:Int)(o:eC):List (cP×Nd):=iH o.path (CY (nodeAt M o.path) o.data at_) M
theorem Hf(I:Inv root M)(h:mF M o=0):dM root M (zV M at_ o)=(0,KF M at_ o):=by
 obtain⟨d,hd,_⟩:=jT h;obtain⟨a1,a2⟩:=xR (d:=CY (nodeAt M o.path) o.data at_) I (by rw[hd];rfl);unfold zV KF;rw[MQ a1,a2]
def sD(M:List (cP×Nd))(at_:Int)(o:eC):List (cP×Nd):=iH (cW o.path) (CT ((dF (cW o.path) M).getD iN) at_) (oR o.path M)
theorem vQ(h:iO root M o=0):o.path≠root∧mF M o=0∧(jB root M o.path).length=0:=by
 unfold iO at h;split at h
 ·cases h
 rename_i h1
 split at h
 ·rename_i h2;exact absurd h h2
 rename_i h2
 split at h
 ·cases h
 rename_i h3;exact⟨h1,by simpa using h2,by omega⟩
theorem yT(I:Inv root M)(hu:dX o.path root=true)(h:iO root M o=0):dM root M (jK M at_ o)=(0,sD M at_ o):=by
 obtain⟨h1,h2,h3⟩:=vQ h;obtain⟨d,hd,_⟩:=jT h2;have hs:(dF o.path M).isSome=true:=by rw[hd];rfl
 have hg:wM root M o.path=0:=by unfold wM;rw[if_neg h1,if_neg (by rw[hs];simp),if_neg cL]
 have hn:¬dX o.path root=false:=by rw[hu];simp
 have a1:kW root M ⟨o.path,true,iN⟩=0:=by unfold kW;dsimp only;rw[if_neg hn,if_pos rfl,hg]
 have a2:nF root M ⟨o.path,true,iN⟩=oR o.path M:=by unfold nF zu;dsimp only;rw[if_neg hn,if_pos rfl,hg];rfl
 have I2:Inv root (oR o.path M):=by rw[←a2];exact I.one _
 have hpar:=I.parent o.path (gW.1 hs) h1;have hp2:(dF (cW o.path) (oR o.path M)).isSome=true:=gW.2 ((yA I.nodup _).2 ⟨hpar,(vB hu h1).2⟩);obtain⟨b1,b2⟩:=xR (d:=CT ((dF (cW o.path) M).getD iN) at_) I2 hp2;unfold jK sD;rw[Ct a1 (by rw[a2];exact b1),a2,b2]
end
end
section
open Go.RowKit Go.Shelf Go.MapKept Go.ChangeMaps Go.Maps Go.Sort
theorem YI{root:cP}{at_:Int}{M M':List (cP×Nd)}{E:List gh}(h:dM root M E=(0,M')):(dM root M E).1=0∧atA root at_ M E=at_+1∧nG root M E=M':=by
 unfold atA nG;rw[h];exact⟨rfl,rfl,rfl⟩
end
def od(root:cP)(M:List (cP×Nd))(at_:Int)(who:dW)(o:eC):List (cP×Nd):=
 if lN root M who o≠0 then M else if o.kind=1 then mN M at_ who o else if o.kind=2 then sD M at_ o else if o.kind=3 then KF M at_ o else M
def jA(root:cP)(M:List (cP×Nd))(at_:Int)(who:dW)(o:eC):List gh:=if lN root M who o≠0 then [] else V4 M at_ who o
structure xI where
 e:Int
 a:JY
 deriving DecidableEq
def PG(root:cP)(M:List (cP×Nd))(at_:Int)(who:dW)(o:eC):xI:=if lN root M who o≠0 then ⟨lN root M who o,l5⟩ else ⟨0,C3 root M at_ who o⟩
theorem uu{root:cP}{M:List (cP×Nd)}{who:dW}{o:eC}(hk:o.kind=1)(h:lN root M who o=0):dX o.path root=true∧fW root M who o=0:=by
 unfold lN at h;split at h
 ·cases h
 rename_i hu
 exact⟨by simpa using hu,h⟩
theorem Bp{root:cP}{M:List (cP×Nd)}{who:dW}{o:eC}(hk:o.kind=2)(h:lN root M who o=0):dX o.path root=true∧iO root M o=0:=by
 unfold lN at h;split at h
 ·cases h
 rename_i hu
 rw[if_neg cL] at h;exact⟨by simpa using hu,h⟩
theorem NF{root:cP}{M:List (cP×Nd)}{who:dW}{o:eC}(hk:o.kind=3)(h:lN root M who o=0):dX o.path root=true∧mF M o=0:=by
 unfold lN at h;split at h
 ·cases h
 rename_i hu
 rw[if_neg cL,if_neg cL,if_pos (.inl hk)] at h;exact⟨by simpa using hu,h⟩
section
variable{root:cP}{M:List (cP×Nd)}{at_:Int}{who:dW}
theorem An(I:Inv root M)(o:eC):dM root M (jA root M at_ who o)=(0,od root M at_ who o):=by
 unfold jA od;by_cases h:lN root M who o=0
 ·rw[if_neg (by simpa using h),if_neg (by simpa using h)]
  unfold V4;by_cases h1:o.kind=1
  ·rw[if_pos h1,if_pos h1]
   have:=uu h1 h;exact zD I this.1 this.2
  rw[if_neg h1,if_neg h1];by_cases h2:o.kind=2
  ·rw[if_pos h2,if_pos h2]
   have:=Bp h2 h;exact yT I this.1 this.2
  rw[if_neg h2,if_neg h2];by_cases h3:o.kind=3
  ·rw[if_pos h3,if_pos h3]
   exact Hf I (NF h3 h).2
  rw[if_neg h3,if_neg h3];rfl
 rw[if_pos h,if_pos h];rfl
theorem Inv.op(I:Inv root M)(o:eC):Inv root (od root M at_ who o):=by
 have:=I.all (E:=jA root M at_ who o);rw[An I o] at this;exact this
theorem tU(root:cP)(F:List gh):∀(E:List gh) (M M':List (cP×Nd)),dM root M E=(0,M')→dM root M (E++F)=dM root M' F
 |[],M,M',h=>by cases h;rfl
 |e::E,M,M',h=>by
  by_cases h0:kW root M e=0
  ·rw[jh h0] at h
   rw[aa,jh h0];exact tU root F E _ _ h
  ·rw[uQ h0] at h
   exact absurd (congrArg Prod.fst h) h0
end
def nZ(root:cP)(at_:Int)(who:dW):List (cP×Nd)→List eC→Int
 |M,[]=>0
 |M,o::l=>if lN root M who o=0 then nZ root at_ who (od root M at_ who o) l else lN root M who o
def runM(root:cP)(at_:Int)(who:dW):List (cP×Nd)→List eC→List (cP×Nd)
 |M,[]=>M
 |M,o::l=>if lN root M who o=0 then runM root at_ who (od root M at_ who o) l else M
def lU(root:cP)(at_:Int)(who:dW):List (cP×Nd)→List eC→List gh
 |M,[]=>[]
 |M,o::l=>if lN root M who o=0 then jA root M at_ who o++lU root at_ who (od root M at_ who o) l else []
def qo(root:cP)(at_:Int)(who:dW):List (cP×Nd)→List eC→List xI
 |M,[]=>[]
 |M,o::l=>PG root M at_ who o::(if lN root M who o=0 then qo root at_ who (od root M at_ who o) l else [])
section
variable{root:cP}{at_:Int}{who:dW}
theorem Hl:∀(l:List eC) {M:List (cP×Nd)},Inv root M→dM root M (lU root at_ who M l)=(0,runM root at_ who M l)
 |[],M,I=>rfl
 |o::l,M,I=>by
  unfold lU runM;by_cases h:lN root M who o=0
  ·rw[if_pos h,if_pos h,tU root _ _ M _ (An I o)]
   exact Hl l (I.op o)
  ·rw[if_neg h,if_neg h]
   rfl
theorem AW(o:eC):∀(l:List eC) (M:List (cP×Nd)),nZ root at_ who M l=0→
  nZ root at_ who M (l++[o])=lN root (runM root at_ who M l) who o
  ∧runM root at_ who M (l++[o])=od root (runM root at_ who M l) at_ who o
  ∧lU root at_ who M (l++[o])=lU root at_ who M l++jA root (runM root at_ who M l) at_ who o
  ∧qo root at_ who M (l++[o])=qo root at_ who M l++[PG root (runM root at_ who M l) at_ who o]
 |[],M,_=>by
  unfold nZ runM lU qo;simp only[List.nil_append,nZ,runM,lU,qo];by_cases h:lN root M who o=0
  ·simp[h]
  ·simp[h,od,jA]
 |x::l,M,h=>by
  unfold nZ at h;split at h
  ·rename_i h0
   obtain⟨h1,h2,h3,h4⟩:=AW o l _ h;refine⟨?_,?_,?_,?_⟩
   ·rw[aa,nZ,if_pos h0,h1,runM,if_pos h0]
   ·rw[aa,runM,if_pos h0,h2,runM,if_pos h0]
   ·rw[aa,lU,if_pos h0,h3,lU,if_pos h0,runM,if_pos h0,aW]
   ·rw[aa,qo,if_pos h0,h4,qo,if_pos h0,runM,if_pos h0,aa]
  ·rename_i h0
   exact absurd h h0
theorem Hj(l2:List eC):∀(l:List eC) (M:List (cP×Nd)),nZ root at_ who M l≠0→
  nZ root at_ who M (l++l2)=nZ root at_ who M l∧qo root at_ who M (l++l2)=qo root at_ who M l
 |[],M,h=>absurd rfl h
 |x::l,M,h=>by
  unfold nZ at h;split at h
  ·rename_i h0
   obtain⟨h1,h4⟩:=Hj l2 l _ h;refine⟨?_,?_⟩
   ·rw[aa,nZ,if_pos h0,h1,nZ,if_pos h0]
   ·rw[aa,qo,if_pos h0,h4,qo,if_pos h0]
  ·rename_i h0
   refine⟨?_,?_⟩
   ·rw[aa,nZ,if_neg h0,nZ,if_neg h0]
   ·rw[aa,qo,if_neg h0,qo,if_neg h0]
end
structure kV where
 leaf:eC
 parts:List eC
def kV.seq(o:kV):List eC:=if o.leaf.kind=7 then o.parts else [o.leaf]
def Au(root:cP)(M:List (cP×Nd))(at_:Int)(who:dW)(ce:Int)(o:kV):Int:=if ce≠0 then ce else nZ root (at_+1) who M o.seq
def zC(root:cP)(M:List (cP×Nd))(at_:Int)(who:dW)(ce:Int)(o:kV):List gh:=if Au root M at_ who ce o≠0 then [] else lU root (at_+1) who M o.seq
def Mt(root:cP)(M:List (cP×Nd))(at_:Int)(who:dW)(ce:Int)(o:kV):List (cP×Nd):=if Au root M at_ who ce o≠0 then M else runM root (at_+1) who M o.seq
def Ri(root:cP)(M:List (cP×Nd))(at_:Int)(who:dW)(ce:Int)(o:kV):JY:=if ce=0∧o.leaf.kind≠7 then (PG root M (at_+1) who o.leaf).a else l5
def Rg(root:cP)(M:List (cP×Nd))(at_:Int)(who:dW)(ce:Int)(o:kV):List xI:=if ce=0∧o.leaf.kind=7 then qo root (at_+1) who M o.parts else []
theorem Oj{root:cP}{M:List (cP×Nd)}{at_:Int}{who:dW}{ce:Int}{o:kV}(I:Inv root M):dM root M (zC root M at_ who ce o)=(0,Mt root M at_ who ce o):=by
 unfold zC Mt;by_cases h:Au root M at_ who ce o=0
 ·rw[if_neg (by simpa using h),if_neg (by simpa using h)]
  exact Hl _ I
 rw[if_pos h,if_pos h];rfl
theorem Inv.Rf{root:cP}{M:List (cP×Nd)}{at_:Int}{who:dW}{ce:Int}{o:kV}(I:Inv root M):Inv root (Mt root M at_ who ce o):=by
 have:=I.all (E:=zC root M at_ who ce o);rw[Oj I] at this;exact this
section
open Go.RowKit Go.Shelf Go.MapKept Go.ChangeMaps Go.Maps Go.Sort
theorem Q7(i:Nat)(h:i<100)(w:aj):aD prog 316 #[.v i,.i 10] w fun e w'=>e=.returned (.string (bs (ag i)))∧w'=w:=by
 have hs:=cE (Tryz.internal_strconv_small i h w);have t1:decide ((i:Int)<100)=true:=by simp;omega
 have hwr:∀_:True,IntKind.i64.wrap (i:Int)=(i:Int):=fun _=>IntWalk.i64_in _ cL
 clear h;go_enter func316,ntmps316
 go_wp2_with fail
 refine hs.out.mono ?_;rintro e w1 ⟨rfl,rfl⟩;go_wp2
 go_ret
 exact⟨rfl,rfl⟩
theorem Q6(i:Nat)(h:i<100)(w:aj):aD prog 291 #[.v i,.i 10] w fun e w'=>e=.returned (.string (bs (ag i)))∧w'=w:=by
 have hs:=cE (Q7 i h w);clear h;go_enter func291,ntmps291
 go_wp2_with fail
 refine hs.out.mono ?_;rintro e w1 ⟨rfl,rfl⟩;go_wp2
 go_ret
 exact⟨rfl,rfl⟩
theorem Hq(c:Nat)(hc:c≤10)(w:aj):aD prog 292 #[.string (bs [48]),.i c] w fun e w'=>e=.returned (.string (bs (aJ c 48)))∧cF w w':=by
 refine(strings_Repeat (bs [48]) c w cL (by rw[eP];simp;omega)).mono ?_;rintro e w' ⟨rfl,hb⟩;refine⟨?_,hb⟩;have:Lib.repeatL (bs [48]).data.toList c=aJ c 48:=by
  rw[gr];clear hc hb
  induction c with
  |zero=>rfl
  |succ c ih=>simp[Lib.repeatL,List.replicate_succ] at ih⊢;first|exact ih|simp[ih]
 rw[this];rfl
end
