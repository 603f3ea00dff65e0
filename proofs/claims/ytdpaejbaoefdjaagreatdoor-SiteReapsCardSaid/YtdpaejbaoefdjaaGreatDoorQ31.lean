/- Part 31. -/
import Derived.Test.YtdpaejbaoefdjaaGreatDoorQ28
import Derived.Test.YtdpaejbaoefdjaaGreatDoorQ26
open Go renaming cell_of_row → aa,wp_region_held_drew → af,heap_alloc_new → aj,wpAnyH_done → ay,lt_of_block → aB,Value → aD,World → aE,wpList_load_mid → aH,bodyPost_ret → aK,wpList_store_mid → aM,Calls → aN,heap_alloc_old → aS,Addr → aZ
open Go.RowKit.Below renaming refl → ag
open Go.World renaming rangeAt → ah,rangeAt_setCells_same → an,frozen? → aL,setCell → aP
open Go.Value renaming slice → aq,oneCell' → au,ownBlock → aA
open List renaming nil_append → aC,cons_append → aF,replicate → aO,mem_cons_self → aW,length_append → aX,take_add_one → aY
open Nat renaming lt_of_lt_of_le → aG,le_trans → aJ,le_refl → aU
open Array renaming getElem?_modify → aI
open Go.IntKind renaming wrap_u64 → aQ
open Option renaming isSome_iff_exists → aR
open Int renaming le_trans → aT
open Go.Lib renaming decDigits_length → aV
namespace Go.Proofs.YtdpaejbaoefdjaaGreatDoor
open Go.Proofs.Tryz
set_option maxRecDepth 100000
set_option maxHeartbeats 64000000
set_option linter.unusedVariables false
set_option linter.unusedSimpArgs false
section
open Go.RowKit Go.Shelf Go.MapKept Go.ChangeMaps Go.Maps Go.Sort
def OE(w1:aE)(un:Nat)(v:aD)(wc:aE):Prop:=∃B,v=.p B∧wc.cell? ⟨B,3,none⟩=some (.u (un:Int))∧cF w1 wc
theorem FO{w1 w:aE}{B:Nat}{sa:Option aZ}{sn sc:Nat}{s1 s2 s4 s5 s6 s7 s8:Int}{un:Nat}(ht:w.there B 0 9)(hb:cF w1 w)(hB:w1.heap.size≤B):
  OE w1 un (.p B) (w.setCells B 0 [.slice sa sn sc,.u s1,.u s2,.u (un:Int),.i s4,.u s5,.v s6,.v s7,.v s8]):=by
 have K:Kept (·=B) w (w.setCells B 0 [.slice sa sn sc,.u s1,.u s2,.u (un:Int),.i s4,.u s5,.v s6,.v s7,.v s8]):=Kept.setCells (S:=(·=B)) (p:=B) rfl _ 0 (Kept.refl _ w);exact⟨B,rfl,(an w B 0 [.slice sa sn sc,.u s1,.u s2,.u (un:Int),.i s4,.u s5,.v s6,.v s7,.v s8] ht) 3 _ rfl,hb.trans (K.below hb.size (fun k e=>by have e:k=B:=e;omega))⟩
def kS(M:List (cP×Nd)):Prop:=∀x∈M,0≤x.2.num.next∧x.2.num.next<4294967296
theorem uw:∀(k u:Nat),u<10 ^ (k+1)→Lib.nDigits u≤k+1
 |0,u,h=>by rw[Lib.nDigits_small (by simpa using h)];exact aU _
 |k+1,u,h=>by
  by_cases h10:u<10
  ·rw[Lib.nDigits_small h10];omega
  ·rw[Lib.nDigits_big h10]
   have:=uw k (u / 10) (by rw[Nat.pow_succ] at h;omega);omega
theorem Ce{u:Nat}(h:u<4294967296):(Lib.decDigits u).length≤10:=by
 rw[aV];exact uw 9 u cL
theorem Bv{M:List (cP×Nd)}(h:kS M)(p:cP):∃un:Nat,(un:Int)=((dF p M).getD iN).num.next∧un<4294967296:=by
 cases hg:dF p M with
 |none=>exact⟨0,rfl,by decide⟩
 |some nd=>
 obtain⟨x,hx,rfl⟩:=pT hg;have:=h x hx;exact⟨x.2.num.next.toNat,by show((x.2.num.next.toNat:Nat):Int)=x.2.num.next;omega,by omega⟩
theorem FF{p:cP}(h:p.length≤1000):(cW p).length≤maxLen:=by
 have:=jW p h;unfold maxLen;omega
theorem iw{w w':aE}(h:gB w)(hb:cF w w'):gB w':=by
 unfold gB Lib.TabIs World.var? at*;cases hg:prog.globalNamed "internal/strconv.uint64pow10" with
 |none=>simp[hg] at h
 |some g=>
 rw[hg] at h;rw[Option.bind_some] at h⊢;have hlt:g<w.heap.size:=by
  rcases Nat.lt_or_ge g w.heap.size with h1|h1
  ·exact h1
  rw[Array.getElem?_eq_none h1] at h;cases h
 rw[hb.block g hlt];exact h
theorem Ox(x y:ByteArray)(z:cP)(hz:x++y=bs z)(hl:z.length≤2000)(W:aE):(Op.stringOp .add x y).run prog W=.ok (.s z) W:=by
 have h:(x++y).size=x.size+y.size:=ByteArray.size_append;rw[hz,eP] at h;rw[run_string_add_sum W x y cL,hz]
section
variable{X:Nat→Prop}{w0 w:World}{d b:Nat}{root:cP}{at_ cnt:Int}{M:List (cP×Nd)}{who:dW}{v:Value}{L:List cZ}{E:List gh}
theorem dh.GW(D:dh X w0 w d b root at_ cnt M who v L E)(hm:dG w)(p:cP)(hp:p.length≤1000):
  aN prog 293 #[.p d,.s p] w fun e w'=>(∃(u:Nd) (r:Raw),dF (cW p) M=some u∧e=.returned (cZ.val ⟨cW p,false,r⟩)∧Reads w' (fQ w.heap.size) r (CT u at_)∧cF w w')∨(dF (cW p) M=none∧e=fH 31∧cF w w'):=by
 cases h:dF (cW p) M with
 |none=>exact(D.Fo hm p hp h).mono fun e w' h=>.inr ⟨rfl,h.1,h.2⟩
 |some u=>
 refine(D.vC hm p hp h).mono fun e w' hh=>?_
 obtain⟨r,g1,g2,g3,_⟩:=hh;exact .inl ⟨u,r,rfl,g1,g2,g3⟩
end
theorem gw{P:Program}{fn:Func}{p u:Tmp}{ty:TypeId}(h:fn.results=#[.tmp u,.cell p ty])(tmps:Array aD)(w:aE)(b o:Nat)(cs:List aD)(d:TypeDesc)
  (hp:tmps.getD p undef=.pointer (some ⟨b,o,none⟩)) (hc:w.rangeAt b o cs) (hu:P.underlying ty=some d) (hd:d.isRow=true) (hi:(P.info? ty).map (·.size)=some cs.length):
  (results fn tmps).run P w=.ok (.tuple #[tmps.getD u undef,.agg cs.toArray]) w:=by
 have hp':tmps[p]?.getD undef=.pointer (some ⟨b,o,none⟩):=by simpa using hp
 simp[results,h,hp',asAddr,run_loadVar_mid w b o ty cs d hc hu hd hi]
def zN(o:eC):Prop:=1≤o.kind∧o.kind≤6∧o.path.length≤900∧o.data.length≤1000000
def xo(X:Nat→Prop)(w:aE)(pa:Option aZ)(Q:List eC):Prop:=∀(k:Nat) p,Q[k]?=some p→∃g off,∃r:cV,pa=some ⟨g,off,none⟩∧g<w.heap.size∧w.rangeAt g (off+k*7) r.cells∧eZ w (fun k=>k<w.heap.size∧¬X k) r p∧zN p
def CQ(who:dW):aD:=.agg #[.i who.site,.u who.n]
def OR(X:Nat→Prop)(w:aE)(root:cP)(M:List (cP×Nd))(at_:Int)(who:dW)(ce:Int)(o:kV)(e:Ending)(w':aE):Prop:=
 ∃u1 u2,e=.returned (.tuple #[u1,u2])∧ij X w' u1 (zC root M at_ who ce o)∧fA w' (fQ w.heap.size) u2 (Au root M at_ who ce o) (Ri root M at_ who ce o) (Rg root M at_ who ce o)∧cF w w'∧∀b,u1.ownBlock=some b→w.heap.size≤b
def jx(X:Nat→Prop)(w:aE)(b:Nat)(root:cP)(at_:Int)(M:List (cP×Nd)):Prop:=∃lo mb,dJ w lo b mb root at_ M∧∀k,lo k→¬X k
section
variable{X:Nat→Prop}{w0 w w':World}{b:Nat}{root:cP}{at_:Int}{M:List (cP×Nd)}
theorem jx.off(R:TR w0 w b root at_ M):jx (fun _=>False) w b root at_ M:=by
 obtain⟨lo,mb,T⟩:=R.tree;exact⟨lo,mb,T,fun _ _ h=>h⟩
theorem jx.below(F:jx X w b root at_ M)(hb:cF w w'):jx X w' b root at_ M:=by
 obtain⟨lo,mb,T,h⟩:=F;exact⟨lo,mb,T.below hb,h⟩
theorem jx.clone(R:TR w0 w b root at_ M)(F:jx X w b root at_ M):
  aN prog 51 #[.p b] w fun e w'=>∃b',e=.returned (.p b')∧(TR w0 w' b' root at_ M∧jx X w' b' root at_ M)∧w.heap.size≤b'∧cF w w':=by
 obtain⟨lo,mb,T,hlo⟩:=F;exact T.mV.mono fun e w' ⟨b',uW,he,T',h1,h2,h3,h4⟩=>⟨b',he,⟨⟨⟨lo,uW,T'⟩,R.bl.trans (h4.mono R.bl.size),aJ R.bl.size h1,R.fit,R.rl,R.hm⟩,lo,uW,T',hlo⟩,h1,h4⟩
theorem jx.apply(R:TR w0 w b root at_ M)(F:jx X w b root at_ M)(hX:∀k,X k→k<w.heap.size)(h0:0≤at_)(h1:at_≤1000000000)(ao:Option aZ)(cap:Nat)(L:List cZ)(E:List gh){lr:Nat→Prop}
  (hL:eV w lr L E) (hA:gC w w.heap.size ao L) (hE:∀e∈E,CB e) (hbig:L.length≤1000000):
  aN prog 249 #[.p b,.slice ao L.length cap] w fun e w'=>e=.returned (.i (dM root M E).1)∧(TR w0 w' b root (atA root at_ M E) (nG root M E)∧jx X w' b root (atA root at_ M E) (nG root M E))∧Kept (·=b) w w':=by
 obtain⟨lo,mb,T,hlo⟩:=F;refine(T.sQ R.max R.fit R.rl h0 h1 ao cap L E hL hA hE hbig).mono ?_;rintro e w' ⟨uW,rfl,T',hk⟩;refine⟨rfl,⟨⟨⟨_,uW,T'⟩,R.bl.trans (hk.below R.bl.size (fun k h=>by have:=R.hb;omega)),R.hb,R.fit.nodes hE,R.rl,R.hm⟩,_,uW,T',fun k h e=>?_⟩,hk⟩;rcases h with h|h
 ·exact hlo k h e
 have:=hX k e;have h:w.heap.size≤k:=h;omega
end
theorem Cd(w:aE)(ok:Int)(op:cP)(oa:Option aZ)(on oc:Nat)(ov:Int)(os oe:Bool)(qa:Option aZ)(qn qc:Nat)(s n:Int):
  ∃w1,w1=((w.alloc (.cells #[.b ok,.s op,.slice oa on oc,.i ov,.bool os,.bool oe,.slice qa qn qc] 35)).alloc (.cells #[.i s,.u n] 31)).alloc (.cells #[.I,.z,.n,.U,.U,.U,.I,.U,.V,.V,.V,.n,.n] 47)∧cF w w1∧w1.heap.size=w.heap.size+3
   ∧w1.heap[w.heap.size]?=some (.cells #[.b ok,.s op,.slice oa on oc,.i ov,.bool os,.bool oe,.slice qa qn qc] 35 (0,0))∧w1.heap[w.heap.size+1]?=some (.cells #[.i s,.u n] 31 (0,0))∧w1.heap[w.heap.size+2]?=some (.cells #[.I,.z,.n,.U,.U,.U,.I,.U,.V,.V,.V,.n,.n] 47 (0,0)):=by
 refine⟨_,rfl,cR (cR (cR (ag _ w) _) _) _,by simp,?_,?_,?_⟩
 ·exact(aS _ _ (by simp;omega)).trans ((aS _ _ cN).trans (aj w _))
 ·have:=aj (w.alloc (.cells #[.b ok,.s op,.slice oa on oc,.i ov,.bool os,.bool oe,.slice qa qn qc] 35)) (.cells #[.i s,.u n] 31)
  rw[World.size_alloc] at this;exact(aS _ _ cN).trans this
 have:=aj ((w.alloc (.cells #[.b ok,.s op,.slice oa on oc,.i ov,.bool os,.bool oe,.slice qa qn qc] 35)).alloc (.cells #[.i s,.u n] 31)) (.cells #[.I,.z,.n,.U,.U,.U,.I,.U,.V,.V,.V,.n,.n] 47);simpa using this
section
variable{w0 w:World}{b:Nat}{root:cP}{at_:Int}{M:List (cP×Nd)}
theorem acv{X:Nat→Prop}(r:cV)(o:kV)(who:dW)(ce:Int)(HC:∀w',cF w w'→aN prog 29 #[r.val] w' (oE w' ce))(hce:ce≠0):
  aN prog 30 #[.p b,r.val,CQ who] w (OR X w root M at_ who ce o):=by
 obtain⟨ok,op,oa,on,oc,ov,os,oe,qa,qn,qc⟩:=r;obtain⟨s,n⟩:=who;unfold cV.val cV.cells CQ;unfold cV.val cV.cells at HC;dsimp only at HC⊢;obtain⟨w1,hw1,de,hs1,k0,k1,k2⟩:=Cd w ok op oa on oc ov os oe qa qn qc s n;have qP:Hid (cH 35 7):=cE cK;have mg:Hid (cH 47 13):=cE iD;have rX:Hid (cH 31 2):=cE cK;have H1:=cE (cD de (cD hs1 (cD k0 (cD k1 (cD k2 hw1)))));have GG:=cE (dD k0);have RW:=HC w1 de;have GO:=cE RW;have tce:(ce != 0)=true:=by simpa using hce
 have JW:=cE hce;clear HC de hs1 k0 k1 k2 RW hce;go_enter func30,ntmps30
 go_wp2_with fail
 rw[←hw1];refine GO.out.mono ?_;rintro e w2 ⟨rfl,B2⟩;have dz:w2.heap[w.heap.size+2]?=some (.cells #[.I,.z,.n,.U,.U,.U,.I,.U,.V,.V,.V,.n,.n] 47 (0,0)):=(B2.block _ (by have:=H1.out.2.1;omega)).trans H1.out.2.2.2.2.1;have ht2:w2.there (w.heap.size+2) 0 13:=ei dz cN;have H2:=cE (cD B2 (cD dz ht2));clear B2 dz ht2;have gu:Hid ((#[.i ce,.z,.n,.U,.U,.U,.I,.U,.V,.V,.V,.n,.n]:Array aD).all (·.oneCell')=true):=cE (by simp[au]);go_wp2_with (refine aM rfl 47 (.tmp 7) (.tmp 22) rfl (w.heap.size+2) 0 #[.i ce,.z,.n,.U,.U,.U,.I,.U,.V,.V,.V,.n,.n] rfl rfl H2.out.2.2 mg.out gu.out ?_)
 refine aK (gw rfl _ _ (w.heap.size+2) 0 [.i ce,.z,.n,.U,.U,.U,.I,.U,.V,.V,.V,.n,.n] _ rfl (an _ _ _ _ H2.out.2.2) underlying47 rfl mg.out) rfl ?_;have K9:Kept (·=w.heap.size+2) w2 (w2.setCells (w.heap.size+2) 0 [.i ce,.z,.n,.U,.U,.U,.I,.U,.V,.V,.V,.n,.n]):=Kept.setCells (S:=(·=w.heap.size+2)) (p:=w.heap.size+2) rfl _ 0 (Kept.refl _ w2);have uG:cF w w2:=H1.out.1.trans (H2.out.1.mono H1.out.1.size);have e1:Au root M at_ ⟨s,n⟩ ce o=ce:=by unfold Au;rw[if_pos JW.out]
 have e2:zC root M at_ ⟨s,n⟩ ce o=[]:=by unfold zC;rw[e1,if_pos JW.out]
 have e3:Ri root M at_ ⟨s,n⟩ ce o=l5:=by unfold Ri;rw[if_neg (fun h=>JW.out h.1)]
 have e4:Rg root M at_ ⟨s,n⟩ ce o=[]:=by unfold Rg;rw[if_neg (fun h=>JW.out h.1)]
 refine⟨.n,_,rfl,?_,?_,uG.trans (K9.below uG.size (fun k e=>by have e:k=w.heap.size+2:=e;omega)),fun b e=>by simp[aA] at e⟩
 ·rw[e2]
  exact ij.nil _ _
 rw[e1,e3,e4];exact⟨oZ,none,0,none,0,rfl,mY _ _,gG.nil _ _ _,jR.nil _ _ _⟩
end
section
variable{X:Nat→Prop}{w0 w:World}{d b:Nat}{root:cP}{at_ cnt:Int}{M:List (cP×Nd)}{who:dW}{v:Value}{L:List cZ}{E:List gh}
theorem dh.Mw(D:dh X w0 w d b root at_ cnt M who v L E)(h0:0≤cnt)(h1:cnt≤100000)(hsz:E.length≤900)(NX:kS M)(PT:gB w)(r:cV)(o:eC){lo:Nat→Prop}(hr:eZ w lo r o)(hlo:∀k,lo k→v.ownBlock≠some k∧¬X k)(hp:o.path.length≤900)(hdl:o.data.length≤1000000)(hu:dX o.path root=true){x:Int}(hx:fW root M who o=x):
  aN prog 255 #[.p d,r.val] w fun e w'=>(x=0∧kQ X w0 w d b root at_ (cnt+1) M (mN M at_ who o) who v (E++jo M at_ who o) ⟨ek M o,yb o.data at_ who o.mM,[]⟩ e w')∨(x≠0∧mB w x e w'):=by
 obtain⟨ok,op,oa,on,oc,ov,os,oe,pa,pn,pc⟩:=r;obtain⟨J2,V3,gj,over,sV,sW⟩:=o;obtain⟨ws,wn⟩:=who;obtain⟨q1,q2,q3,q4,q5,q6,q7,q8⟩:=hr;dsimp only at q1 q2 q3 q4 q5 q6 q7 q8 hp hdl hu;subst q1 q2 q3 q4 q5;unfold cV.val cV.cells;dsimp only;obtain⟨w1,hw1,de,hs1,k0,k1,kU⟩:=nE w ok op oa on oc ov os oe pa pn pc;have qP:Hid (cH 35 7):=cE cK;have mg:Hid (cH 47 13):=cE iD;have D1:=D.below de;have y1:∀w',cF w1 w'→w'.cell? ⟨w.heap.size,1,none⟩=some (.s op):=fun w' hb=>(hb.cell (p:=⟨w.heap.size,1,none⟩) (by show w.heap.size<w1.heap.size;omega)).trans (kU 1 _ rfl)
 have y4:∀w',cF w1 w'→w'.cell? ⟨w.heap.size,4,none⟩=some (.bool os):=fun w' hb=>(hb.cell (p:=⟨w.heap.size,4,none⟩) (by show w.heap.size<w1.heap.size;omega)).trans (kU 4 _ rfl)
 have y5:∀w',cF w1 w'→w'.cell? ⟨w.heap.size,5,none⟩=some (.bool oe):=fun w' hb=>(hb.cell (p:=⟨w.heap.size,5,none⟩) (by show w.heap.size<w1.heap.size;omega)).trans (kU 5 _ rfl)
 have y2:∀w',cF w1 w'→w'.cell? ⟨w.heap.size,2,none⟩=some (.slice oa on oc):=fun w' hb=>(hb.cell (p:=⟨w.heap.size,2,none⟩) (by show w.heap.size<w1.heap.size;omega)).trans (kU 2 _ rfl)
 have y0:∀w',cF w1 w'→w'.cell? ⟨d,0,none⟩=some (.p b):=fun w' hb=>(hb.cell (p:=⟨d,0,none⟩) D1.lt).trans D1.c0
 have ya:∀w',cF w1 w'→w'.cell? ⟨d,1,none⟩=some (.v at_):=fun w' hb=>(hb.cell (p:=⟨d,1,none⟩) D1.lt).trans D1.c1
 have yw2:∀w',cF w1 w'→w'.cell? ⟨d,2,none⟩=some (.i ws):=fun w' hb=>(hb.cell (p:=⟨d,2,none⟩) D1.lt).trans (aa _ _ 2 _ 158 (0,0) D1.blk)
 have yw3:∀w',cF w1 w'→w'.cell? ⟨d,3,none⟩=some (.u wn):=fun w' hb=>(hb.cell (p:=⟨d,3,none⟩) D1.lt).trans (aa _ _ 3 _ 158 (0,0) D1.blk)
 have Wq:Hid (∀w',cF w1 w'→aN prog 184 #[.p b] w' fun e w''=>e=.returned (.s root)∧w'=w''):=cE fun w' hb=>by
  obtain⟨lo,mb,T⟩:=(D1.below hb).tree.tree;exact T.AZ.mono fun e w'' ⟨h1,h2⟩=>⟨h1,h2.symm⟩
 have HX:=cE hx;obtain⟨t1,ht1⟩:=cG (decide (op=root));have te:=(Lo ht1.symm).1;have zQ:=cE ht1;have HD:=cE (cD D (cD D1 (cD h0 (cD h1 (cD hsz (cD NX (cD PT (cD hlo (cD hdl hu)))))))));have HO:=cE (cD q6 (cD q7 q8));have hdl:=D.lt;have HDL:=cE hdl;have HP:=cE hp;have H1:=cE (cD de (cD hs1 (cD k0 (cD k1 hw1))));clear D D1 hx ht1 h0 h1 hsz NX PT hlo hdl hu q6 q7 q8 de hs1 k0 k1 hw1 kU;go_enter func255,ntmps255
 go_wp2_with fail
 rw[←H1.out.2.2.2.2];go_cut [] (fun wc=>Hid (cF w1 wc∧(os=false→op≠root)))
 case first=>
  cases os
  ·refine af (S:=fun w'=>cF w1 w') cK (ag _ w1).drew (fun hS=>?_)
   generalize w1.drew=wd at hS⊢;refine tI 0 rfl hS ?_;refine tJ 1 rfl hS y4 ?_;refine tI 2 rfl hS ?_;refine tI 3 rfl hS ?_;simp only[cQ];refine tJ 4 rfl hS y1 ?_;refine tI 5 rfl hS ?_;refine tI 6 rfl hS ?_;refine tI 7 rfl hS ?_;simp only[cQ];refine tJ 8 rfl hS y0 ?_;simp only[cQ];refine cI 9 rfl ?_;refine(Wq.out _ hS).mono ?_;rintro e w2 ⟨rfl,rfl⟩;refine⟨hS,?_⟩
   try dsimp only
   simp only[cQ];refine tI 10 rfl hS ?_;refine tI 11 rfl hS ?_;simp only[cQ];refine cI 12 rfl ?_;refine(iV _ _ _).mono ?_;rintro e w2 ⟨rfl,(⟨ht,rfl⟩|⟨ht,rfl⟩)⟩
   rotate_left
   ·have HF:=cE (cD ht hS)
    clear ht;unfold fH
    try dsimp only
    go_wp2_with fail
    have e3:x=32:=by
     rw[←HX.out];have e1:t1=true:=by simpa using HF.out.1
     have e2:op=root:=by have:=zQ.out;rw[e1] at this;simpa using this.symm
     unfold fW;rw[if_pos e2];rfl
    subst e3;exact⟨rfl,.inr ⟨by decide,rfl,H1.out.1.trans (HF.out.2.mono H1.out.1.size)⟩⟩
   have hne:op≠root:=by
    have ht1:t1=false:=by simpa using ht
    have:=zQ.out;rw[ht1] at this;simpa using this.symm
   refine⟨hS,?_⟩
   try dsimp only
   simp only[cQ];refine ay cK ?_ _;have HSH:=cE (cD hS hne);clear hS hne ht;go_wp2_with fail
   go_meet
   case rel=>exact cE ⟨HSH.out.1,fun _=>HSH.out.2⟩
  refine af (S:=fun w'=>cF w1 w') cK (ag _ w1).drew (fun hS=>?_);generalize w1.drew=wd at hS⊢;refine tI 0 rfl hS ?_;refine tJ 1 rfl hS y4 ?_;refine tI 2 rfl hS ?_;refine tN 3 rfl hS ?_;simp only[cQ];refine tN 4 rfl hS ?_;refine tN 5 rfl hS ?_;refine tN 6 rfl hS ?_;refine tN 7 rfl hS ?_;simp only[cQ];refine tN 8 rfl hS ?_;refine tN 9 rfl hS ?_;refine tN 10 rfl hS ?_;refine tI 11 rfl hS ?_;simp only[cQ];refine cI 12 rfl ?_;refine(iV _ _ _).mono ?_;rintro e w2 ⟨rfl,(⟨ht,rfl⟩|⟨ht,rfl⟩)⟩
  rotate_left
  ·exact absurd ht cM
  clear ht;refine⟨hS,?_⟩
  try dsimp only
  simp only[cQ];refine ay cK ?_ _;have HSH:=cE hS;clear hS;go_wp2_with fail
  go_meet
  case rel=>exact cE ⟨HSH.out,fun h=>by cases h⟩
 case rest=>
 obtain⟨oW,J5⟩:=hcut.out;have HNR:=cE J5;clear hcut J5;go_wp2_with fail
 refine af (S:=fun w'=>cF w1 w') cK oW.drew (fun hS=>?_);generalize wc.drew=wk at hS⊢;clear oW;refine tI 0 rfl hS ?_;refine tJ 1 rfl hS y1 ?_;refine tI 2 rfl hS ?_;refine tI 3 rfl hS ?_;simp only[cQ];refine tI 4 rfl hS ?_;refine tJ 5 rfl hS y0 ?_;simp only[cQ];refine cI 6 rfl ?_;refine(Wq.out _ hS).mono ?_;rintro e w2 ⟨rfl,rfl⟩;refine⟨hS,?_⟩
 try dsimp only
 simp only[cQ];refine tI 7 rfl hS ?_;simp only[cQ];refine cI 8 rfl ?_;refine(iV _ _ _).mono ?_;rintro e w2 ⟨rfl,(⟨ht,rfl⟩|⟨ht,rfl⟩)⟩
 rotate_left
 ·have HF:=cE (cD ht hS)
  clear ht;unfold fH
  try dsimp only
  go_wp2_with fail
  have e3:x=30:=by
   rw[←HX.out];have e1:t1=true:=by simpa using HF.out.1
   have e2:op=root:=by have:=zQ.out;rw[e1] at this;simpa using this.symm
   have e3:os=true:=by
    cases h:os with
    |true=>rfl
    |false=>exact absurd e2 (HNR.out h)
   unfold fW;rw[if_pos e2];dsimp only;rw[e3];rfl
  subst e3;exact⟨rfl,.inr ⟨by decide,rfl,H1.out.1.trans (HF.out.2.mono H1.out.1.size)⟩⟩
 have ht1:t1=false:=by simpa using ht
 subst ht1;have hne:Hid (op≠root):=cE (by have:=zQ.out;simpa using this.symm);refine⟨hS,?_⟩
 try dsimp only
 simp only[cQ];refine ay cK ?_ _;clear ht te zQ;have z1:=y1 _ hS;have z4:=y4 _ hS;have HS:=cE hS;clear hS;obtain⟨un,hun⟩:∃un:Nat,(un:Int)=((dF (cW op) M).getD iN).num.next∧un<4294967296:=Bv HD.out.2.2.2.2.2.1 _;have MW:=cE hun;clear hun;obtain⟨P,hP⟩:=cG (ek M ⟨ok,op,gj,ov,os,oe⟩);have JT:Hid (ek M ⟨ok,op,gj,ov,os,oe⟩=P):=cE hP.symm;have HPL:Hid (P.length≤1000):=cE (by
  rw[hP];unfold ek;have:=HP.out;split
  ·unfold Jr
   dsimp only;rw[←MW.out.1,Int.toNat_natCast];simp;have:=Ce MW.out.2;omega
  dsimp only;omega)
 clear hP;go_upto_if 38 with fail
 go_cut [5] (fun v wc=>v=.s P∧Hid (cF w1 wc))
 case first=>
  cases os
  ·go_wp2_with fail
   go_meet
   case rel=>exact⟨by rw[←JT.out];unfold ek;rw[if_neg cN],HS⟩
  skip
  have HPA:Hid (∀w',cF w1 w'→aN prog 54 #[.s op] w' fun e w''=>e=.returned (.string (bs (cW op)))∧cF w' w''):=cE fun w' hb=>mK w' (HD.out.2.1.below hb).tree.max op (by have:=HP.out;omega) w' (ag _ _)
  have HGP:Hid (∀w',cF w1 w'→aN prog 112 #[.p b,.string (bs (cW op))] w' fun e w''=>∃(r:Raw) (t:Bool),e=.returned (.tuple #[r.val,.bool t])∧r.num.next=(un:Int)∧cF w' w''):=cE fun w' hb=>((HD.out.2.1.below hb).tree.get (cW op) (FF (by have:=HP.out;omega))).mono fun e w'' ⟨r,h1,h2,h3,_⟩=>⟨r,_,h1,by rw[h2.num,MW.out.1],h3⟩
  have acT:Hid (cH 44 9):=cE cK;go_wp2_with fail
  go_cut [6] (fun v wc=>OE w1 un v wc)
  case first=>
   refine af (S:=fun w'=>cF w1 w') cK HS.out.drew (fun hS=>?_);generalize wk.drew=wr at hS⊢;refine tI 0 rfl hS ?_;refine tI 1 rfl hS ?_;refine tI 2 rfl hS ?_;refine tJ 3 rfl hS y0 ?_;simp only[cQ];refine tI 4 rfl hS ?_;refine tJ 5 rfl hS y1 ?_;simp only[cQ];refine jN 6 11 rfl rfl cK cO cO _ _ (by go_simp<;>first|rfl|exact⟨rfl,rfl⟩) (.p wr.heap.size) (wr.alloc (.cells #[.n,.U,.U,.U,.I,.U,.V,.V,.V] 44)) (by go_simp<;>first|rfl|exact⟨rfl,rfl⟩) ?_ (hS.alloc hS.size _) ?_
   ·refine(HPA.out _ hS).mono ?_
    rintro e w2 ⟨rfl,B2'⟩;have B2:=hS.trans (B2'.mono hS.size);refine⟨B2,?_⟩
    try dsimp only
    simp only[cQ];refine jN 7 11 rfl rfl cK cO cO _ _ (by go_simp<;>first|rfl|exact⟨rfl,rfl⟩) (.p w2.heap.size) (w2.alloc (.cells #[.n,.U,.U,.U,.I,.U,.V,.V,.V] 44)) (by go_simp<;>first|rfl|exact⟨rfl,rfl⟩) ?_ (B2.alloc B2.size _) ?_
    ·refine(HGP.out _ B2).mono ?_
     rintro e w3 ⟨⟨sa,sn,sc,⟨s1,s2,s3,s4,s5,s6,s7,s8⟩⟩,tb,rfl,hs3,xE⟩;have hs3:s3=(un:Int):=hs3;subst hs3;unfold Raw.val Raw.cells eL.cells
     try dsimp only
     have B3:=B2.trans (xE.mono B2.size);refine⟨B3,?_⟩
     try dsimp only
     simp only[cQ];refine tI 8 rfl B3 ?_;refine tI 9 rfl B3 ?_;refine tI 10 rfl B3 ?_;simp only[cQ];have B4:=B3.alloc B3.size (.cells #[.n,.U,.U,.U,.I,.U,.V,.V,.V] 44);refine gI 11 rfl (.p w3.heap.size) (w3.alloc (.cells #[.n,.U,.U,.U,.I,.U,.V,.V,.V] 44)) B4 ?_;simp only[cQ];have ht:=(ei (aj w3 _) (by simp):(w3.alloc (.cells #[.n,.U,.U,.U,.I,.U,.V,.V,.V] 44)).there w3.heap.size 0 9);have CA:Hid ((#[.slice sa sn sc,.u s1,.u s2,.u (un:Int),.i s4,.u s5,.v s6,.v s7,.v s8]:Array aD).all (·.oneCell')=true):=cE (by simp[au]);have Ob:=(FO (sa:=sa) (sn:=sn) (sc:=sc) (s1:=s1) (s2:=s2) (s4:=s4) (s5:=s5) (s6:=s6) (s7:=s7) (s8:=s8) (un:=un) ht B4 B3.size);obtain⟨w9,nL⟩:=cG ((w3.alloc (.cells #[.n,.U,.U,.U,.I,.U,.V,.V,.V] 44)).setCells w3.heap.size 0 [.slice sa sn sc,.u s1,.u s2,.u (un:Int),.i s4,.u s5,.v s6,.v s7,.v s8]);have jL:cF w1 w9:=by rw[nL];exact Ob.choose_spec.2.2
     rw[←nL] at Ob;refine sI 12 rfl 44 (.tmp 6) (.tmp 48) w3.heap.size 0 #[.slice sa sn sc,.u s1,.u s2,.u (un:Int),.i s4,.u s5,.v s6,.v s7,.v s8] ht acT.out CA.out (by rw[←nL];exact jL) ?_;simp only[cQ];rw[←nL];clear nL;refine tI 13 rfl jL ?_;simp only[cQ];refine ay cK ?_ _;go_wp2_with fail
     go_meet
     case rel=>exact Ob
    skip
    simp only[cQ];refine cI 7 rfl ?_;have B3:=B2.alloc B2.size (.cells #[.n,.U,.U,.U,.I,.U,.V,.V,.V] 44);refine(HGP.out _ B3).mono ?_;rintro e w4 ⟨⟨sa,sn,sc,⟨s1,s2,s3,s4,s5,s6,s7,s8⟩⟩,tb,rfl,hs3,Se⟩;have hs3:s3=(un:Int):=hs3;subst hs3;unfold Raw.val Raw.cells eL.cells
    try dsimp only
    have B4:=B3.trans (Se.mono B3.size);refine⟨B4,?_⟩
    try dsimp only
    simp only[cQ];refine tI 8 rfl B4 ?_;refine tI 9 rfl B4 ?_;refine tI 10 rfl B4 ?_;simp only[cQ];have ht:=(ei ((Se.block _ cN).trans (aj w2 _)) (by simp):w4.there w2.heap.size 0 9);have CA:Hid ((#[.slice sa sn sc,.u s1,.u s2,.u (un:Int),.i s4,.u s5,.v s6,.v s7,.v s8]:Array aD).all (·.oneCell')=true):=cE (by simp[au]);have Ob:=(FO (sa:=sa) (sn:=sn) (sc:=sc) (s1:=s1) (s2:=s2) (s4:=s4) (s5:=s5) (s6:=s6) (s7:=s7) (s8:=s8) (un:=un) ht B4 B2.size);obtain⟨w9,nL⟩:=cG (w4.setCells w2.heap.size 0 [.slice sa sn sc,.u s1,.u s2,.u (un:Int),.i s4,.u s5,.v s6,.v s7,.v s8]);have jL:cF w1 w9:=by rw[nL];exact Ob.choose_spec.2.2
    rw[←nL] at Ob;refine sI 12 rfl 44 (.tmp 6) (.tmp 48) w2.heap.size 0 #[.slice sa sn sc,.u s1,.u s2,.u (un:Int),.i s4,.u s5,.v s6,.v s7,.v s8] ht acT.out CA.out (by rw[←nL];exact jL) ?_;simp only[cQ];rw[←nL];clear nL;refine tI 13 rfl jL ?_;simp only[cQ];refine ay cK ?_ _;go_wp2_with fail
    go_meet
    case rel=>exact Ob
   skip
   simp only[cQ];refine cI 6 rfl ?_;have B2:=hS.alloc hS.size (.cells #[.n,.U,.U,.U,.I,.U,.V,.V,.V] 44);refine(HPA.out _ B2).mono ?_;rintro e w3 ⟨rfl,xE⟩;have B3:=B2.trans (xE.mono B2.size);refine⟨B3,?_⟩
   try dsimp only
   simp only[cQ];refine cI 7 rfl ?_;refine(HGP.out _ B3).mono ?_;rintro e w4 ⟨⟨sa,sn,sc,⟨s1,s2,s3,s4,s5,s6,s7,s8⟩⟩,tb,rfl,hs3,Se⟩;have hs3:s3=(un:Int):=hs3;subst hs3;unfold Raw.val Raw.cells eL.cells
   try dsimp only
   have B4:=B3.trans (Se.mono B3.size);refine⟨B4,?_⟩
   try dsimp only
   simp only[cQ];refine tI 8 rfl B4 ?_;refine tI 9 rfl B4 ?_;refine tI 10 rfl B4 ?_;simp only[cQ];have ht:=(ei ((Se.block _ (by have:=xE.size;simp at this;omega)).trans ((xE.block _ cN).trans (aj wr _))) (by simp):w4.there wr.heap.size 0 9);have CA:Hid ((#[.slice sa sn sc,.u s1,.u s2,.u (un:Int),.i s4,.u s5,.v s6,.v s7,.v s8]:Array aD).all (·.oneCell')=true):=cE (by simp[au]);have Ob:=(FO (sa:=sa) (sn:=sn) (sc:=sc) (s1:=s1) (s2:=s2) (s4:=s4) (s5:=s5) (s6:=s6) (s7:=s7) (s8:=s8) (un:=un) ht B4 hS.size);obtain⟨w9,nL⟩:=cG (w4.setCells wr.heap.size 0 [.slice sa sn sc,.u s1,.u s2,.u (un:Int),.i s4,.u s5,.v s6,.v s7,.v s8]);have jL:cF w1 w9:=by rw[nL];exact Ob.choose_spec.2.2
   rw[←nL] at Ob;refine sI 12 rfl 44 (.tmp 6) (.tmp 48) wr.heap.size 0 #[.slice sa sn sc,.u s1,.u s2,.u (un:Int),.i s4,.u s5,.v s6,.v s7,.v s8] ht acT.out CA.out (by rw[←nL];exact jL) ?_;simp only[cQ];rw[←nL];clear nL;refine tI 13 rfl jL ?_;simp only[cQ];refine ay cK ?_ _;go_wp2_with fail
   go_meet
   case rel=>exact Ob
  case rest=>
  obtain⟨nb,rfl,hnb,hbc⟩:=hcut;have tu:∀_:True,IntKind.u64.wrap (un:Int)=(un:Int):=fun _=>by rw[aQ];have:=MW.out.2;omega
  have HFM:=cE (Yr un (by have:=MW.out.2;omega) wc (fun _=>iw HD.out.2.2.2.2.2.2.1 (H1.out.1.trans (hbc.mono H1.out.1.size))));have uV:=cE hbc;clear hbc z1 z4;go_wp2_with fail
  refine HFM.out.mono ?_;rintro e wd ⟨rfl,Bd'⟩;have Bd:=uV.out.trans (Bd'.mono uV.out.size);obtain⟨dg,hdg⟩:=cG (Lib.decDigits un);rw[←hdg];have ZQ:dg.length≤10:=by rw[hdg];exact Ce MW.out.2
  have t10:∀_:True,IntKind.i64.wrap (10 - ((bs dg).size:Int))=((10 - dg.length:Nat):Int):=fun _=>by rw[eP,IntWalk.i64_in _ cL];omega
  have al2:=cE (Hq (10 - dg.length) cL wd);have HBD:=cE Bd;have HDG:=cE (cD hdg ZQ);clear Bd' Bd hnb tu hdg ZQ;go_wp2_with fail
  refine al2.out.mono ?_;rintro e we ⟨rfl,Be'⟩;have Be:=HBD.out.trans (Be'.mono HBD.out.size);have hP:P=op++(aO (10 - dg.length) 48++dg):=by
   rw[←JT.out];unfold ek Jr;rw[if_pos rfl];dsimp only;rw[←MW.out.1,Int.toNat_natCast,←HDG.out.1]
  have hPl:=HPL.out;have ha1:=Ox (bs (aO (10 - dg.length) 48)) (bs dg) (aO (10 - dg.length) 48++dg) (Vc _ _) (by simp;have:=HDG.out.2;omega);have ha2:=Ox (bs op) (bs (aO (10 - dg.length) 48++dg)) P (by rw[Vc,hP]) cL;have HS2:=cE Be;clear Be' Be hP t10 hPl;go_wp2_with fail
  go_meet
  case rel=>exact⟨rfl,HS2⟩
 case rest=>
 obtain⟨rfl,oW⟩:=hcut;obtain⟨w2b,ajX⟩:∃w,w=wc:=⟨_,rfl⟩;subst ajX;have hPl:=HPL.out;have GO:=cE (rH w1 HD.out.2.1.tree.max P hPl);clear z1 z4;go_wp2_with fail
 refine(GO.out _ oW.out).mono ?_;rintro e w2 ⟨rfl,B2⟩;obtain⟨t3,LM⟩:=cG ((dx P).isSome);have tc:(uO P==0)=t3:=by unfold uO;rw[LM];cases (dx P).isSome<;>rfl
 have MX:=cE (cD LM B2);clear LM B2 oW;go_wp2_with fail
 refine(iV _ _ _).mono ?_;rintro e w2' ⟨rfl,(⟨ht,rfl⟩|⟨ht,rfl⟩)⟩
 rotate_left
 ·have HF:=cE (cD ht MX.out.2)
  clear ht;unfold fH
  try dsimp only
  go_wp2_with fail
  have e3:x=30:=by
   rw[←HX.out];unfold fW;rw[if_neg hne.out,JT.out,if_pos (by rw[←MX.out.1];exact HF.out.1)]
  subst e3;exact⟨rfl,.inr ⟨by decide,rfl,H1.out.1.trans (HF.out.2.mono H1.out.1.size)⟩⟩
 have OL:Hid ((dx P).isSome=true):=cE (MX.out.1.symm.trans ht);have HP1:=cE (By (M:=M) (o:=⟨ok,op,gj,ov,os,oe⟩) HD.out.2.2.2.2.2.2.2.2.2 hne.out (by rw[JT.out];exact OL.out));subst ht;clear tc;have HTO:=cE ((HD.out.2.1.below MX.out.2).GW (HD.out.2.1.below MX.out.2).tree.max P hPl);go_wp2_with fail
 refine HTO.out.mono ?_;rintro e w3 (⟨u,⟨ra,rn,rc,⟨r1,r2,r3,r4,r5,r6,r7,r8⟩⟩,hu,rfl,hrd,xE⟩|⟨ht,rfl,xE⟩)
 rotate_left
 ·have B3:=MX.out.2.trans (xE.mono MX.out.2.size)
  clear xE;have HF:=cE (cD ht B3);clear ht;unfold fH
  try dsimp only
  go_wp2_with fail
  have e3:x=31:=by
   rw[←HX.out];unfold fW;rw[if_neg hne.out,JT.out,if_neg (by rw[OL.out];simp),HF.out.1]
  subst e3;exact⟨rfl,.inr ⟨by decide,rfl,H1.out.1.trans (HF.out.2.mono H1.out.1.size)⟩⟩
 have B3:=MX.out.2.trans (xE.mono MX.out.2.size);unfold cZ.val cZ.cells Raw.cells eL.cells;dsimp only[aF,aC];obtain⟨w4,lP⟩:=cG (w3.alloc (.cells #[.string (bs (cW P)),.F,.slice ra rn rc,.u r1,.u r2,.u r3,.i r4,.u r5,.v r6,.v r7,.v r8] 93));have Se:cF w3 w4:=by rw[lP];exact cR (ag _ w3) _
 have k4:w4.heap[w3.heap.size]?=some (.cells #[.string (bs (cW P)),.F,.slice ra rn rc,.u r1,.u r2,.u r3,.i r4,.u r5,.v r6,.v r7,.v r8] 93 (0,0)):=by rw[lP];exact aj w3 _
 have hs4:w4.heap.size=w3.heap.size+1:=by rw[lP];simp
 have B4:=B3.trans (Se.mono B3.size);have x6:w4.cell? ⟨w3.heap.size,6,none⟩=some (.i r4):=aa _ _ 6 _ 93 (0,0) k4;have x7:w4.cell? ⟨w3.heap.size,7,none⟩=some (.u r5):=aa _ _ 7 _ 93 (0,0) k4;have HU:=cE (cD hu (cD hrd (cD xE B3)));have H4:=cE (cD lP (cD Se (cD k4 (cD hs4 B4))));clear hu hrd xE B3 Se k4 hs4 B4 lP;obtain⟨t4,ht4⟩:=cG (ia r4 r5);have q4:=fun W:aE=>Np r4 r5 W
 rw[←ht4] at q4;have HT4:=cE ht4;clear ht4;go_wp2_with fail
 rw[←H4.out.1];have HUN:Hid (t4=ia u.num.os u.num.on):=cE (by
  have h4:=congrArg eL.os HU.out.2.1.num;have h5:=congrArg eL.on HU.out.2.1.num;have h4:r4=u.num.os:=h4;have h5:r5=u.num.on:=h5;rw[HT4.out,h4,h5])
 refine(iV _ _ _).mono ?_;rintro e w5 ⟨rfl,(⟨ht,rfl⟩|⟨ht,rfl⟩)⟩
 rotate_left
 ·have HF:=cE (cD ht H4.out.2.2.2.2)
  clear ht;unfold fH
  try dsimp only
  go_wp2_with fail
  have e3:x=34:=by
   rw[←HX.out];unfold fW;rw[if_neg hne.out,JT.out,if_neg (by rw[OL.out];simp),HU.out.1];dsimp only;rw[if_pos (by rw[←HUN.out];exact HF.out.1)]
  subst e3;exact⟨rfl,.inr ⟨by decide,rfl,H1.out.1.trans (HF.out.2.mono H1.out.1.size)⟩⟩
 have HNS:Hid (ia u.num.os u.num.on=true):=cE (HUN.out.symm.trans ht);subst ht;clear q4;have z5:=y5 _ H4.out.2.2.2.2;go_upto_region 11 with fail
 go_cut [] (fun wc=>w4=wc∧Hid (oe=true→ia ws wn=false))
 case first=>
  cases oe
  ·go_wp2_with fail
   refine(iV _ _ _).mono ?_;rintro e w5 ⟨rfl,(⟨ht,rfl⟩|⟨ht,rfl⟩)⟩
   rotate_left
   ·exact absurd ht cM
   clear z5 ht;go_wp2_with fail
   go_meet
   case rel=>exact⟨rfl,cE (fun h=>by cases h)⟩
  obtain⟨t5,RN⟩:=cG (!ia ws wn);have q5:=fun W:aE=>Nl ws wn W
  rw[←RN] at q5;have z0:=y0 _ H4.out.2.2.2.2;have z2:=yw2 _ H4.out.2.2.2.2;have z3:=yw3 _ H4.out.2.2.2.2;have VE:=cE RN;clear RN;go_wp2_with fail
  refine(iV _ _ _).mono ?_;rintro e w5 ⟨rfl,(⟨ht,rfl⟩|⟨ht,rfl⟩)⟩
  rotate_left
  ·have HF:=cE (cD ht H4.out.2.2.2.2)
   clear ht;unfold fH
   try dsimp only
   go_wp2_with fail
   have e3:x=63:=by
    rw[←HX.out];unfold fW;rw[if_neg hne.out,JT.out,if_neg (by rw[OL.out];simp),HU.out.1];dsimp only;rw[if_neg (by rw[HNS.out];simp),if_pos ⟨rfl,by have:=VE.out;rw[HF.out.1] at this;simpa using this.symm⟩]
   subst e3;exact⟨rfl,.inr ⟨by decide,rfl,H1.out.1.trans (HF.out.2.mono H1.out.1.size)⟩⟩
  have RI:Hid (ia ws wn=false):=cE (by have:=VE.out;rw[ht] at this;simpa using this.symm);clear q5 z2 z3 z0 z5;subst ht;go_wp2_with fail
  go_meet
  case rel=>exact⟨rfl,cE (fun _=>RI.out)⟩
 case rest=>
 obtain⟨rfl,RI⟩:=hcut;clear z5;have z0:=y0 _ H4.out.2.2.2.2;have HGT:=cE ((HD.out.2.1.below H4.out.2.2.2.2).tree.get P (by unfold maxLen;omega));go_wp2_with fail
 refine HGT.out.mono ?_;rintro e w5 ⟨⟨sa,sn,sc,⟨s1,s2,s3,s4,s5,s6,s7,s8⟩⟩,rfl,_,B5',_⟩;obtain⟨t6,LL⟩:=cG ((dF P M).isSome);rw[←LL];have Wp:=cE LL;clear LL z0;unfold Raw.val Raw.cells eL.cells;dsimp only;obtain⟨w6,l6⟩:=cG (w5.alloc (.cells #[.slice sa sn sc,.u s1,.u s2,.u s3,.i s4,.u s5,.v s6,.v s7,.v s8] 44));have B46:cF w4 w6:=by rw[l6];exact cR B5' _
 have B6:=H4.out.2.2.2.2.trans (B46.mono H4.out.2.2.2.2.size);have H6:=cE (cD l6 (cD B46 B6));clear l6 B46 B6 B5';go_wp2_with fail
 rw[←H6.out.1];refine(iV _ _ _).mono ?_;rintro e w7 ⟨rfl,(⟨ht,rfl⟩|⟨ht,rfl⟩)⟩
 rotate_left
 ·have HF:=cE (cD ht H6.out.2.2)
  clear ht;unfold fH
  try dsimp only
  go_wp2_with fail
  have e3:x=32:=by
   rw[←HX.out];unfold fW;rw[if_neg hne.out,JT.out,if_neg (by rw[OL.out];simp),HU.out.1];dsimp only;rw[if_neg (by rw[HNS.out];simp),if_neg (fun h=>absurd h.2 (by rw[RI.out h.1];simp)),if_pos (by rw[←Wp.out];simpa using HF.out.1)]
  subst e3;exact⟨rfl,.inr ⟨by decide,rfl,H1.out.1.trans (HF.out.2.mono H1.out.1.size)⟩⟩
 have HNI:Hid ((dF P M).isSome=false):=cE (by
  have h2:t6=false:=by simpa using ht
  rw[←Wp.out];exact h2)
 clear ht;have z0:=y0 _ H6.out.2.2;have YW:=cE ((HD.out.2.1.below H6.out.2.2).tree.paths);obtain⟨ml,hml⟩:=cG M.length;rw[←hml] at YW;obtain⟨t7,Wd⟩:=cG (decide (ml<48));have tm:decide ((ml:Int)<48)=t7:=by rw[Wd];by_cases h:ml<48<;>simp[h]<;>omega
 have tm2:decide (ml<48)=t7:=Wd.symm;have HT7:=cE (cD Wd hml);clear Wd hml;go_wp2_with fail
 refine YW.out.mono ?_;rintro e w7p ⟨ka,kc,rfl,_,B7'⟩;have B7:=H6.out.2.2.trans (B7'.mono H6.out.2.2.size);have B47:=H6.out.2.1.trans (B7'.mono H6.out.2.1.size);have Y4:=cE (cD B47 B7);clear B7' B47 B7 z0;go_wp2_with fail
 refine(iV _ _ _).mono ?_;rintro e w8 ⟨rfl,(⟨ht,rfl⟩|⟨ht,rfl⟩)⟩
 rotate_left
 ·have HF:=cE (cD ht Y4.out.2)
  clear ht;unfold fH
  try dsimp only
  go_wp2_with fail
  have e3:x=36:=by
   rw[←HX.out];unfold fW;rw[if_neg hne.out,JT.out,if_neg (by rw[OL.out];simp),HU.out.1];dsimp only;have h1:=HT7.out.1;rw[HF.out.1] at h1;have h2:¬ml<48:=by simpa using h1.symm
   have h3:=HT7.out.2;rw[if_neg (by rw[HNS.out];simp),if_neg (fun h=>absurd h.2 (by rw[RI.out h.1];simp)),if_neg (by rw[HNI.out];simp),if_pos cL]
  subst e3;exact⟨rfl,.inr ⟨by decide,rfl,H1.out.1.trans (HF.out.2.mono H1.out.1.size)⟩⟩
 have hx0:Hid (x=0∧fW root M ⟨ws,wn⟩ ⟨ok,op,gj,ov,os,oe⟩=0):=cE (by
  have e3:fW root M ⟨ws,wn⟩ ⟨ok,op,gj,ov,os,oe⟩=0:=by
   unfold fW;rw[if_neg hne.out,JT.out,if_neg (by rw[OL.out];simp),HU.out.1];dsimp only;have h1:=HT7.out.1;rw[ht] at h1;have h2:ml<48:=by simpa using h1.symm
   have h3:=HT7.out.2;rw[if_neg (by rw[HNS.out];simp),if_neg (fun h=>absurd h.2 (by rw[RI.out h.1];simp)),if_neg (by rw[HNI.out];simp),if_neg cL]
  exact⟨by rw[←HX.out];exact e3,e3⟩)
 clear ht tm tm2;have z4:=y4 _ Y4.out.2;have k7p:=(Y4.out.1.block w3.heap.size (by have:=H4.out.2.2.2.1;omega)).trans H4.out.2.2.1;have ahW:cF w3 w7p:=H4.out.2.1.trans (Y4.out.1.mono H4.out.2.1.size);have Y0:=cE (cD k7p ahW);clear k7p ahW;go_upto_if 108 with fail
 go_cut [] (fun wc=>Hid (∃kv:Int,(os=true→kv=IntKind.u32.wrap (r3+1))∧(os=false→kv=r3)∧wc.heap[w3.heap.size]?=some (.cells #[.string (bs (cW P)),.F,.slice ra rn rc,.u r1,.u r2,.u kv,.i r4,.u r5,.v r6,.v r7,.v r8] 93 (0,0))∧cF w3 wc∧cF w1 wc∧w4.heap.size≤wc.heap.size))
 case first=>
  cases os
  ·go_wp2_with fail
   go_meet
   case rel=>exact cE ⟨r3,fun h=>(by cases h),fun _=>rfl,Y0.out.1,Y0.out.2,Y4.out.2,Y4.out.1.size⟩
  have k7p:=Y0.out.1;have x5:w7p.cell? ⟨w3.heap.size,5,none⟩=some (.u r3):=aa _ _ 5 _ 93 (0,0) k7p;have f5:w7p.frozen? ⟨w3.heap.size,5,none⟩=false:=by simp[aL,k7p]
  obtain⟨kv,hkv⟩:=cG (IntKind.u32.wrap (r3+1));have tk:∀_:True,IntKind.u32.wrap (r3+1)=kv:=fun _=>hkv.symm
  have HKV:=cE hkv;obtain⟨w7,nY⟩:=cG (w7p.setCell ⟨w3.heap.size,5,none⟩ (.u kv));have k7:w7.heap[w3.heap.size]?=some (.cells #[.string (bs (cW P)),.F,.slice ra rn rc,.u r1,.u r2,.u kv,.i r4,.u r5,.v r6,.v r7,.v r8] 93 (0,0)):=by
   rw[nY];simp[aP,aI,k7p]
  have K7:Kept (·=w3.heap.size) w7p w7:=by rw[nY];exact Kept.setCell (S:=(·=w3.heap.size)) (p:=⟨w3.heap.size,5,none⟩) (Kept.refl _ w7p) rfl _
  have H7:=cE (cD k7 K7);have Kb:=cE nY;clear hkv nY k7p K7 k7;go_wp2_with fail
  rw[←Kb.out];go_meet
  case rel=>exact cE ⟨kv,fun _=>HKV.out,fun h=>(by cases h),H7.out.1,Y0.out.2.trans (H7.out.2.below Y0.out.2.size (fun k e=>by have e:k=w3.heap.size:=e;omega)),Y4.out.2.trans (H7.out.2.below Y4.out.2.size (fun k e=>by have e:k=w3.heap.size:=e;have:=HU.out.2.2.2.size;omega)),aJ Y4.out.1.size H7.out.2.size⟩
 case rest=>
 obtain⟨kv,afZ,af0,k7,q37,V0,q47⟩:=hcut.out;obtain⟨w7,nY⟩:∃w,w=wc:=⟨_,rfl⟩;subst nY;have HKV:=cE (cD afZ af0);have H7:=cE (cD q37 (cD V0 q47));clear afZ af0 q37 V0 q47 z4;go_wp2_with fail
 have z5:=y5 _ H7.out.2.1;refine af (S:=Below w1.heap.size w1) cK H7.out.2.1.drew (fun hS=>?_);refine tI 0 rfl hS ?_;refine tJ 1 rfl hS y2 ?_;refine tI 2 rfl hS ?_;refine tI 3 rfl hS ?_;simp only[cQ];refine tI 4 rfl hS ?_;refine tJ 5 rfl hS ya ?_;refine tI 6 rfl hS ?_;refine tI 7 rfl hS ?_;simp only[cQ];refine tI 8 rfl hS ?_;refine tJ 9 rfl hS ya ?_;refine tI 10 rfl hS ?_;refine tI 11 rfl hS ?_;simp only[cQ];refine tI 12 rfl hS ?_;refine tJ 13 rfl hS ya ?_;refine tI 14 rfl hS ?_;simp only[cQ];obtain⟨w8,uX⟩:=cG ((w7.alloc (.cells #[.n,.U,.U,.U,.I,.U,.V,.V,.V] 44)).drew);have B8':cF w7 w8:=by rw[uX];exact(cR (ag _ w7) _).drew
 have B8:cF w1 w8:=H7.out.2.1.trans (B8'.mono H7.out.2.1.size);have k8:w8.heap[w7.heap.size]?=some (.cells #[.n,.U,.U,.U,.I,.U,.V,.V,.V] 44 (0,0)):=by rw[uX];exact aj w7 _
 have NY:w8.heap.size=w7.heap.size+1:=by rw[uX];simp
 have Fi:=cE uX;refine sM 15 rfl cK cO (.p w7.heap.size) w8 (by rw[Fi.out];go_simp<;>first|rfl|exact⟨rfl,rfl⟩) B8 ?_;clear uX;simp only[cQ];have afp:=H7.out.2.1.size;obtain⟨w9,nL⟩:=cG (w8.setCells w7.heap.size 0 [.slice oa on oc,.U,.U,.U,.I,.U,.v at_,.v at_,.v at_]);have K9:Kept (·=w7.heap.size) w8 w9:=by rw[nL];exact Kept.setCells (S:=(·=w7.heap.size)) (p:=w7.heap.size) rfl _ 0 (Kept.refl _ w8)
 have k9:w9.heap[w7.heap.size]?=some (.cells #[.slice oa on oc,.U,.U,.U,.I,.U,.v at_,.v at_,.v at_] 44 (0,0)):=by rw[nL];exact fG k8 rfl
 have B9:cF w1 w9:=B8.trans (K9.below B8.size (fun k e=>by have e:k=w7.heap.size:=e;omega));have eY:Hid (cH 44 9):=cE cK;have ht8:w8.there w7.heap.size 0 9:=ei k8 cN;have amb:Hid ((#[.slice oa on oc,.U,.U,.U,.I,.U,.v at_,.v at_,.v at_]:Array aD).all (·.oneCell')=true):=cE (by simp[au]);refine sI 16 rfl 44 (.tmp 12) (.tmp 129) w7.heap.size 0 #[.slice oa on oc,.U,.U,.U,.I,.U,.v at_,.v at_,.v at_] ht8 eY.out amb.out (by rw[←nL];exact B9) ?_;simp only[cQ];rw[←nL];refine ay cK ?_ _;have kp9:w9.heap[w3.heap.size]?=some (.cells #[.string (bs (cW P)),.F,.slice ra rn rc,.u r1,.u r2,.u kv,.i r4,.u r5,.v r6,.v r7,.v r8] 93 (0,0)):=(K9.block w3.heap.size (by have:=B8'.size;have:=aB k7;omega) (fun e=>by have e:w3.heap.size=w7.heap.size:=e;have:=aB k7;omega)).trans ((B8'.block w3.heap.size (aB k7)).trans k7);have H9:=cE (cD B9 (cD kp9 (cD B8' (cD NY K9))));have z5:=y5 _ B9;clear nL K9 ht8 B8 B8' k8 NY hS kp9 afp k7;have ON:=cE (cD B9 k9);clear B9 k9;go_upto_if 131 with fail
 go_cut [] (fun wc=>Hid (∃es en:Int,(oe=true→es=ws∧en=wn)∧(oe=false→es=0∧en=0)∧cF w1 wc∧wc.heap[w3.heap.size]?=some (.cells #[.string (bs (cW P)),.F,.slice ra rn rc,.u r1,.u r2,.u kv,.i r4,.u r5,.v r6,.v r7,.v r8] 93 (0,0))∧wc.heap[w7.heap.size]?=some (.cells #[.slice oa on oc,.U,.U,.U,.i es,.u en,.v at_,.v at_,.v at_] 44 (0,0))∧Kept (·=w7.heap.size) w9 wc))
 case first=>
  cases oe
  ·go_wp2_with fail
   go_meet
   case rel=>exact cE ⟨0,0,fun h=>(by cases h),fun _=>⟨rfl,rfl⟩,ON.out.1,H9.out.2.1,ON.out.2,Kept.refl _ _⟩
  have B9:=ON.out.1;have k9:=ON.out.2;have z0:=yw2 _ B9;have z1:=yw3 _ B9;have c4:w9.cell? ⟨w7.heap.size,4,none⟩=some (.I):=aa _ _ 4 _ 44 (0,0) k9;have c5:w9.cell? ⟨w7.heap.size,5,none⟩=some (.U):=aa _ _ 5 _ 44 (0,0) k9;have f4:w9.frozen? ⟨w7.heap.size,4,none⟩=false:=by simp[aL,k9]
  have f5:w9.frozen? ⟨w7.heap.size,5,none⟩=false:=by simp[aL,k9]
  obtain⟨kq,yq⟩:=cG ((w9.setCell ⟨w7.heap.size,4,none⟩ (.i ws)).setCell ⟨w7.heap.size,5,none⟩ (.u wn));have Qw:kq.heap[w7.heap.size]?=some (.cells #[.slice oa on oc,.U,.U,.U,.i ws,.u wn,.v at_,.v at_,.v at_] 44 (0,0)):=by rw[yq];simp[aP,aI,k9]
  have K10:Kept (·=w7.heap.size) w9 kq:=by rw[yq];exact Kept.setCell (S:=(·=w7.heap.size)) (p:=⟨w7.heap.size,5,none⟩) (Kept.setCell (S:=(·=w7.heap.size)) (p:=⟨w7.heap.size,4,none⟩) (Kept.refl _ w9) rfl _) rfl _
  have B10:cF w1 kq:=B9.trans (K10.below B9.size (fun k e=>by have e:k=w7.heap.size:=e;have:=H7.out.2.1.size;omega));have aeH:kq.heap[w3.heap.size]?=some (.cells #[.string (bs (cW P)),.F,.slice ra rn rc,.u r1,.u r2,.u kv,.i r4,.u r5,.v r6,.v r7,.v r8] 93 (0,0)):=(K10.block w3.heap.size (aB H9.out.2.1) (fun e=>by have e:w3.heap.size=w7.heap.size:=e;have:=H7.out.2.2;have:=H4.out.2.2.2.1;omega)).trans H9.out.2.1;have YR:=cE yq;have JX:=cE (cD B10 (cD aeH (cD Qw K10)));clear B9 k9 yq Qw K10 B10 aeH;go_wp2_with fail
  rw[←YR.out];go_meet
  case rel=>exact cE ⟨ws,wn,fun _=>⟨rfl,rfl⟩,fun h=>(by cases h),JX.out⟩
 case rest=>
 obtain⟨es,en,he1,he0,q10⟩:=hcut.out;obtain⟨kq,yq⟩:∃w,w=wc:=⟨_,rfl⟩;subst yq;have HES:=cE (cD he1 he0);have JX:=cE q10;clear he1 he0 q10 z5;have HRP:=cE (dD JX.out.2.1);have HRN:=cE (dD JX.out.2.2.1);have Ah:Hid (cH 93 11):=cE cK;obtain⟨p8,qN⟩:=cG (kq.alloc (.cells #[.string (bs (cW P)),.F,.slice ra rn rc,.u r1,.u r2,.u kv,.i r4,.u r5,.v r6,.v r7,.v r8,.s P,.F,.slice oa on oc,.U,.U,.U,.i es,.u en,.v at_,.v at_,.v at_] 93));have JR:=cE qN;clear qN;go_wp2_with (first
  |(refine aH rfl 93 (.tmp 9) rfl w3.heap.size 0 rfl [.string (bs (cW P)),.F,.slice ra rn rc,.u r1,.u r2,.u kv,.i r4,.u r5,.v r6,.v r7,.v r8] _ HRP.out underlying93 rfl Ah.out ?_)
  |(refine aH rfl 44 (.tmp 12) rfl w7.heap.size 0 rfl [.slice oa on oc,.U,.U,.U,.i es,.u en,.v at_,.v at_,.v at_] _ HRN.out underlying44 rfl eY.out ?_))
 rw[←JR.out];have Gg:cF kq p8:=by rw[JR.out];exact cR (ag _ kq) _
 have B11:cF w1 p8:=JX.out.1.trans (Gg.mono JX.out.1.size);have hs1:=H1.out.2.1;have s12:=MX.out.2.size;have s34:=H4.out.2.2.2.1;have s47:=H7.out.2.2;have s23:=HU.out.2.2.1.size;have B37:cF w3 w7:=H7.out.1;have afB:Reads w7 (fun k=>w2.heap.size≤k∧k<w3.heap.size) ⟨ra,rn,rc,⟨r1,r2,r3,r4,r5,r6,r7,r8⟩⟩ (CT u at_):=(HU.out.2.1.monoB (fun k h1 h2=>⟨h1,h2⟩)).dP (Kept.eH (S:=fun _=>False) (B37.mono (aU _))) (fun _ _ _ h=>h);have ag4:Kept (fun k=>k=w7.heap.size) w8 kq:=H9.out.2.2.2.2.trans JX.out.2.2.2;have ZB:Reads kq (fun k=>w2.heap.size≤k∧k<w3.heap.size) ⟨ra,rn,rc,⟨r1,r2,r3,r4,r5,r6,r7,r8⟩⟩ (CT u at_):=(afB.below H9.out.2.2.1).dP ag4 (fun k h1 _ e=>by have e:k=w7.heap.size:=e;omega);obtain⟨ND,hND⟩:∃ND,ND=if os=true then Iv (CT u at_) else CT u at_:=⟨_,rfl⟩
 have afg:Reads p8 (fun k=>v.ownBlock≠some k∧¬X k) ⟨ra,rn,rc,⟨r1,r2,kv,r4,r5,r6,r7,r8⟩⟩ ND:=by
  have h1:=(ZB.below Gg).mono (lo':=fun k=>v.ownBlock≠some k∧¬X k) (fun k hk=>⟨fun e=>by have:=(HD.out.1.row.own.lt k e).2;omega,fun e=>by have:=HD.out.1.old k e;omega⟩);rw[hND];cases hos:os with
  |true=>exact⟨by rw[if_pos rfl,show(Iv (CT u at_)).num={(CT u at_).num with next:=wG (CT u at_).num.next} from rfl,←h1.num,HKV.out.1 hos];rfl,h1.len,h1.data,h1.nil⟩
  |false=>rw[if_neg cM,HKV.out.2 hos];exact h1
 have Of:cF w p8:=H1.out.1.trans (B11.mono H1.out.1.size);have hnew:Reads p8 (fun k=>v.ownBlock≠some k∧¬X k) ⟨oa,on,oc,⟨0,0,0,es,en,at_,at_,at_⟩⟩ (yb gj at_ ⟨ws,wn⟩ oe):=⟨by unfold yb;cases hoe:oe with|true=>(obtain⟨h1,h2⟩:=HES.out.1 hoe;rw[h1,h2];rfl)|false=>(obtain⟨h1,h2⟩:=HES.out.2 hoe;rw[h1,h2];rfl),HO.out.1,((HO.out.2.1.mono (HD.out.2.2.2.2.2.2.2.1) (aU _)).below Of).mono (fun _ h=>h) Of.size,HO.out.2.2⟩;have Z1:gC p8 p8.heap.size (some ⟨kq.heap.size,0,none⟩) [⟨cW P,false,⟨ra,rn,rc,⟨r1,r2,kv,r4,r5,r6,r7,r8⟩⟩⟩,⟨P,false,⟨oa,on,oc,⟨0,0,0,es,en,at_,at_,at_⟩⟩⟩]:=by rw[JR.out];exact Jk kq ⟨cW P,false,⟨ra,rn,rc,⟨r1,r2,kv,r4,r5,r6,r7,r8⟩⟩⟩ ⟨P,false,⟨oa,on,oc,⟨0,0,0,es,en,at_,at_,at_⟩⟩⟩
 have ZU:jo M at_ ⟨ws,wn⟩ ⟨ok,op,gj,ov,os,oe⟩=[⟨cW P,false,ND⟩,⟨P,false,yb gj at_ ⟨ws,wn⟩ oe⟩]:=by
  unfold jo lQ;rw[JT.out,HU.out.1,hND];rfl
 have Z0:eV p8 (fun k=>v.ownBlock≠some k∧¬X k) [⟨cW P,false,⟨ra,rn,rc,⟨r1,r2,kv,r4,r5,r6,r7,r8⟩⟩⟩,⟨P,false,⟨oa,on,oc,⟨0,0,0,es,en,at_,at_,at_⟩⟩⟩] (jo M at_ ⟨ws,wn⟩ ⟨ok,op,gj,ov,os,oe⟩):=by
  rw[ZU];exact IL ⟨rfl,rfl,afg⟩ ⟨rfl,rfl,hnew⟩
 have hfx:=zD (at_:=at_) HD.out.1.inv HD.out.2.2.2.2.2.2.2.2.2 hx0.out.2;have D11:=HD.out.2.1.below B11;obtain⟨LP,hLP⟩:=aR.1 OL.out;have h64:=yU hLP;have EG:=D11.Gp HD.out.2.2.1 HD.out.2.2.2.1 (gb:=kq.heap.size) (go_:=0) (n:=2) (c:=2) (Lx:=[⟨cW P,false,⟨ra,rn,rc,⟨r1,r2,kv,r4,r5,r6,r7,r8⟩⟩⟩,⟨P,false,⟨oa,on,oc,⟨0,0,0,es,en,at_,at_,at_⟩⟩⟩]) (Ex:=jo M at_ ⟨ws,wn⟩ ⟨ok,op,gj,ov,os,oe⟩) rfl Z1 (by have h2:=HD.out.1.tree.lt;have h3:=JX.out.1.size;omega) Z0 (fun k h=>h)
  (by
   intro y hy;rw[ZU] at hy;simp at hy;rcases hy with rfl|rfl
   ·exact⟨HD.out.1.tree.fit.key HU.out.1,by show ND.data.length≤1000000;rw[show ND.data=u.data by rw[hND];split<;>rfl];exact HD.out.1.tree.fit.node HU.out.1⟩
   exact⟨by show P.length≤1000;omega,HD.out.2.2.2.2.2.2.2.2.1⟩) hfx (by have:=HD.out.1.len;have:=HD.out.2.2.2.2.1;omega)
 have Y2:=cE EG;have VQ:=cE (cD B11 Of);clear Gg B37 afB ag4 ZB afg Of hnew Z1 ZU Z0 hfx D11 EG B11 hLP h64 s12 s34 s47 s23 hs1;refine Y2.out.mono ?_;rintro e oG ⟨rfl,⟨v12,D12,G12⟩,R9⟩;have iQ:b<w.heap.size:=HD.out.1.tree.lt;have hvl:∀k,v.ownBlock=some k→k<w.heap.size:=fun k h=>(HD.out.1.row.own.lt k h).2
 have hnk:∀k,w.heap.size≤k→¬(k=b∨k=d∨v.ownBlock=some k):=fun k hk h=>by
  rcases h with h|h|h
  ·omega
  ·have:=HDL.out;omega
  have:=hvl k h;omega
 have hs1:=H1.out.2.1;have ann:=VQ.out.1.size;have Zo:=(R9.block (w.heap.size+1) cL (hnk _ (Nat.le_succ _))).trans ((VQ.out.1.block (w.heap.size+1) cL).trans H1.out.2.2.2.1);have alc:P.length≤1000:=hPl;have htl:=D12.sw P alc (nd:=yb gj at_ ⟨ws,wn⟩ oe) (by unfold mN;rw[JT.out];exact kK _ _ _);have HTL:=cE htl;have akf:=R9.size;have Kh:=cE (cD D12 (cD R9 (cD Zo (cD hnk G12))));clear htl D12 R9 Zo hnk G12 iQ hvl;go_wp2_with fail
 refine HTL.out.mono ?_;rintro e w13 ⟨⟨sa,sn,sc,⟨s1,s2,s3,s4,s5,s6,s7,s8⟩⟩,rfl,TZ,B13,Ga⟩;unfold ez Raw.cells eL.cells;dsimp only[aF,aC];have afk:w13.there (w.heap.size+1) 0 13:=ei ((B13.block _ cL).trans Kh.out.2.2.1) cN;have H13:=cE (cD afk (cD TZ B13));clear afk TZ B13 Ga;have gu:Hid ((#[.I,.s P,.slice sa sn sc,.u s1,.u s2,.u s3,.i s4,.u s5,.v s6,.v s7,.v s8,.n,.n]:Array aD).all (·.oneCell')=true):=cE (by simp[au]);go_wp2_with (refine aM rfl 47 (.tmp 4) (.tmp 146) rfl (w.heap.size+1) 0 #[.I,.s P,.slice sa sn sc,.u s1,.u s2,.u s3,.i s4,.u s5,.v s6,.v s7,.v s8,.n,.n] rfl rfl H13.out.1 mg.out gu.out ?_)
 refine aK (di rfl _ _ (w.heap.size+1) 0 [.I,.s P,.slice sa sn sc,.u s1,.u s2,.u s3,.i s4,.u s5,.v s6,.v s7,.v s8,.n,.n] _ rfl (an _ _ _ _ H13.out.1) underlying47 rfl mg.out) rfl ?_;obtain⟨_,g2,g3⟩:=H13.out;have K9:Kept (·=w.heap.size+1) w13 (w13.setCells (w.heap.size+1) 0 [.I,.s P,.slice sa sn sc,.u s1,.u s2,.u s3,.i s4,.u s5,.v s6,.v s7,.v s8,.n,.n]):=Kept.setCells (S:=(·=w.heap.size+1)) (p:=w.heap.size+1) rfl _ 0 (Kept.refl _ w13);have Wk:=(g3.block (w.heap.size+1) cL).trans Kh.out.2.2.1;have D9:=(Kh.out.1.below g3).iJ Wk kC cM cM cM (by have:=HD.out.1.tree.bl.size;omega) K9;have q8:Kept (fun k=>k=b∨k=d∨v.ownBlock=some k) w oG:=(Kept.eH VQ.out.2).trans Kh.out.2.1;have anl:=VQ.out.2.size;rw[JT.out];refine .inl ⟨hx0.out.1,⟨v12,_,⟨sa,sn,sc,⟨s1,s2,s3,s4,s5,s6,s7,s8⟩⟩,none,0,rfl,D9,?_,?_,gG.nil _ _ _⟩,?_⟩
 ·intro k hk
  rcases Kh.out.2.2.2.2 k hk with h|h
  ·exact .inl h
  exact .inr cL
 ·refine(g2.cells (fun k hk e=>by have hk:oG.heap.size≤k:=hk;omega) _).mono (fun k hk=>?_)
  have hk:oG.heap.size≤k:=hk;refine⟨by omega,fun e=>?_⟩;have:=(Kh.out.1.row.own.lt k e).2;omega
 exact(q8.trans (Kept.eH g3)).Iy K9 cL
theorem dh.IC(D:dh X w0 w d b root at_ cnt M who v L E)(h0:0≤cnt)(h1:cnt≤100000)(hsz:E.length≤900)(NX:kS M)(PT:gB w)(r:cV)(o:eC){lo:Nat→Prop}(hr:eZ w lo r o)(hlo:∀k,lo k→v.ownBlock≠some k∧¬X k)(hp:o.path.length≤900)(hdl:o.data.length≤1000000)(hu:dX o.path root=true)(hk:o.kind=1):
  aN prog 255 #[.p d,r.val] w (lR X w0 w d b root at_ cnt M who v E o):=by
 have hE:=xW (M:=M) (who:=who) hu;rw[if_pos hk] at hE;have main:∀e w',((fW root M who o=0∧kQ X w0 w d b root at_ (cnt+1) M (mN M at_ who o) who v (E++jo M at_ who o) ⟨ek M o,yb o.data at_ who o.mM,[]⟩ e w')∨(fW root M who o≠0∧mB w (fW root M who o) e w'))→lR X w0 w d b root at_ cnt M who v E o e w':=by
  intro e w' h;rcases h with ⟨hx,h⟩|⟨hx,h⟩
  ·have h0':lN root M who o=0:=by rw[hE,hx]
   have e1:od root M at_ who o=mN M at_ who o:=by
    unfold od;rw[if_neg (by simpa using h0'),if_pos hk]
   have e2:jA root M at_ who o=jo M at_ who o:=by
    unfold jA V4;rw[if_neg (by simpa using h0'),if_pos hk]
   have e3:C3 root M at_ who o=⟨ek M o,yb o.data at_ who o.mM,[]⟩:=by
    unfold C3;rw[if_pos hk]
   refine .inl ⟨h0',cnt+1,by omega,by omega,?_⟩;rw[e1,e2,e3];exact h
  exact pI hE hx h
 exact(D.Mw h0 h1 hsz NX PT r o hr hlo hp hdl hu rfl).mono main
theorem call6{f:Nat}(h:f∈[255,256,257,258,259,260]):∀args w,(callFunc f args).run prog w=.ok (.enter f args) w:=by
 simp at h;rcases h with rfl|rfl|rfl|rfl|rfl|rfl<;>(intro args w;simp[go_sem])
theorem dh.Im(D:dh X w0 w d b root at_ cnt M who v L E)(h0:0≤cnt)(h1:cnt≤100000)(hsz:E.length≤900)(NX:kS M)(PT:gB w)(r:cV)(o:eC){lo:Nat→Prop}(hr:eZ w lo r o)(hlo:∀k,lo k→v.ownBlock≠some k∧¬X k)(hl:zN o):
  aN prog 74 #[.p d,r.val] w (Cy X w0 w d b root at_ cnt M who v E o):=by
 obtain⟨k1,k6,hp,hdl⟩:=hl;have N0:=hr.kind;have hcases:o.kind=1∨o.kind=2∨o.kind=3∨o.kind=4∨o.kind=5∨o.kind=6:=by omega
 rcases hcases with hk|hk|hk|hk|hk|hk
 ·exact D.sF r o hr cL 255 (by rw[N0,hk];decide) cL (call6 cN) (fun hu w' hb=>(D.below hb).IC h0 h1 hsz NX (iw PT hb) r o (hr.below hb) hlo hp hdl hu hk)
 ·exact D.sF r o hr cL 256 (by rw[N0,hk];decide) cL (call6 cN) (fun hu w' hb=>(D.below hb).IB h0 h1 hsz r o (hr.below hb) cL hu hk)
 ·exact D.sF r o hr cL 257 (by rw[N0,hk];decide) cL (call6 cN) (fun hu w' hb=>(D.below hb).Tv h0 h1 hsz r o (hr.below hb) hlo cL hdl hu hk)
 ·exact D.sF r o hr cL 258 (by rw[N0,hk];decide) cL (call6 cN) (fun hu w' hb=>(D.below hb).Lp r o (hr.below hb) cL hu hk)
 ·exact D.sF r o hr cL 259 (by rw[N0,hk];decide) cL (call6 cN) (fun hu w' hb=>(D.below hb).Tw r o (hr.below hb) cL hu hk)
 exact D.sF r o hr cL 260 (by rw[N0,hk];decide) cL (call6 cN) (fun hu w' hb=>(D.below hb).Qc r o (hr.below hb) cL hu hk)
end
theorem xk{w0 w w':aE}{b:Nat}{root:cP}{at_:Int}{M:List (cP×Nd)}(R:TR w0 w b root at_ M)(hb:cF w w'):TR w0 w' b root at_ M:=R.below hb
theorem BJ{w:aE}{p:aZ}{B o:Nat}{cs:List aD}{u:aD}(hn:p.block≠B)(h:w.cell? p=some u):(w.setCells B o cs).cell? p=some u:=
 (Kept.cell (S:=(·=B)) (Kept.setCells (S:=(·=B)) (p:=B) rfl _ o (Kept.refl _ w)) (World.block_lt_of_cell? _ _ h) hn).trans h
theorem Jq{X:Nat→Prop}{w0 w w3:aE}{b2:Nat}{root:cP}{at_:Int}{M:List (cP×Nd)}(RC:TR w0 w3 b2 root at_ M)(FC:jx X w3 b2 root at_ M)(hX:∀k,X k→k<w3.heap.size)(gM:cF w w3)(hb:w.heap.size≤b2)(hm:dG w)(I:Inv root M)(a s n:Int):
  dh X w (w3.alloc (.cells #[.p b2,.v a,.i s,.u n,.n] 158)) w3.heap.size b2 root a at_ M ⟨s,n⟩ (.n) [] []:=by
 have B4:cF w3 (w3.alloc (.cells #[.p b2,.v a,.i s,.u n,.n] 158)):=cR (ag _ w3) _;obtain⟨lo,mb,T,hlo⟩:=FC;have T2:=(T.both (lo':=fun k=>lo k∧k<w3.heap.size) (fun k h1 h2=>⟨h1,h2⟩)).below B4;exact⟨⟨⟨_,_,T2⟩,gM.trans (B4.mono gM.size),hb,RC.fit,RC.rl,hm⟩,aj w3 _,Mo _ _,gM.size,I,⟨rfl,fun k r e h=>by simp at h⟩,fun k h=>aG (hX k h) B4.size,_,_,T2,fun k hk=>⟨⟨by simp[aA],by have hk:k<w3.heap.size:=hk.2;omega⟩,hlo k hk.1⟩⟩
theorem U6{root:cP}{M:List (cP×Nd)}{at_:Int}{who:dW}{o:kV}(hk:o.leaf.kind≠7):
  Au root M at_ who 0 o=lN root M who o.leaf∧zC root M at_ who 0 o=jA root M (at_+1) who o.leaf∧Ri root M at_ who 0 o=(PG root M (at_+1) who o.leaf).a∧Rg root M at_ who 0 o=[]:=by
 have h1:o.seq=[o.leaf]:=by unfold kV.seq;rw[if_neg hk]
 have h2:Au root M at_ who 0 o=lN root M who o.leaf:=by
  unfold Au;rw[if_neg cN,h1];unfold nZ;by_cases h:lN root M who o.leaf=0
  ·rw[if_pos h,h];rfl
  rw[if_neg h]
 refine⟨h2,?_,?_,?_⟩
 ·unfold zC
  rw[h2,h1];unfold lU;by_cases h:lN root M who o.leaf=0
  ·rw[if_neg (by simpa using h),if_pos h]
   simp[lU]
  rw[if_pos h];unfold jA;rw[if_pos h]
 ·unfold Ri
  rw[if_pos ⟨rfl,hk⟩]
 unfold Rg;rw[if_neg (fun h=>hk h.2)]
section
variable{w0 w:World}{b:Nat}{root:cP}{at_:Int}{M:List (cP×Nd)}
theorem YB{X:Nat→Prop}(Wl:∀k,X k→k<w.heap.size)(F:jx X w b root at_ M)(R:TR w0 w b root at_ M)(I:Inv root M)(hm:dG w)(h0:0≤at_)(h1:at_≤90000)(NX:kS M)(PT:gB w)(r:cV)(o:kV)(who:dW)(hr:eZ w (fun k=>k<w.heap.size∧¬X k) r o.leaf)(HC:∀w',cF w w'→aN prog 29 #[r.val] w' (oE w' 0))(hg:o.leaf.kind≠7∧r.pn=0∧zN o.leaf):
  aN prog 30 #[.p b,r.val,CQ who] w (OR X w root M at_ who 0 o):=by
 obtain⟨ok,op,oa,on,oc,ov,os,oe,qa,qn,qc⟩:=r;obtain⟨s,n⟩:=who;obtain⟨⟨lk,lp,ld,lv,ls,le⟩,ps⟩:=o;obtain⟨q1,q2,q3,q4,q5,q6,q7,q8⟩:=hr;have hr:eZ w (fun k=>k<w.heap.size∧¬X k) ⟨ok,op,oa,on,oc,ov,os,oe,qa,qn,qc⟩ ⟨lk,lp,ld,lv,ls,le⟩:=⟨q1,q2,q3,q4,q5,q6,q7,q8⟩;clear q3 q4 q5 q6 q7 q8;dsimp only at q1 q2;subst q1 q2;unfold cV.val cV.cells CQ;unfold cV.val cV.cells at HC;dsimp only at HC⊢;obtain⟨w1,hw1,de,hs1,k0,k1,k2⟩:=Cd w ok op oa on oc ov os oe qa qn qc s n;have qP:Hid (cH 35 7):=cE cK;have mg:Hid (cH 47 13):=cE iD;have rX:Hid (cH 31 2):=cE cK;have H1:=cE (cD de (cD hs1 (cD k0 (cD k1 (cD k2 hw1)))));have GG:=cE (dD k0);have RW:=HC w1 de;have GO:=cE RW;have HI:=cE (cD R (cD I (cD hm (cD h0 (cD h1 (cD NX PT))))));have HG:=cE (cD hr hg);have HF:=cE (cD F Wl);clear F Wl;have tw:∀_:True,IntKind.u64.wrap (at_+1)=at_+1:=fun _=>by rw[aQ];omega
 clear HC de hs1 k0 k1 k2 RW R I hm h0 h1 NX PT hr hg;go_enter func30,ntmps30
 go_wp2_with fail
 rw[←hw1];clear hw1;refine GO.out.mono ?_;rintro e w2 ⟨rfl,B2⟩;have Y6:cF w w2:=H1.out.1.trans (B2.mono H1.out.1.size);have Dr:Hid (w2.drew.rangeAt (w.heap.size+1) 0 [.i s,.u n]):=cE (dD (w:=w2.drew) ((B2.block (w.heap.size+1) (by have:=H1.out.2.1;omega)).trans H1.out.2.2.2.1));have pZ:=cE (jx.clone (xk HI.out.1 Y6.drew) (HF.out.1.below Y6.drew));have H2:=cE (cD B2 Y6);clear B2 Y6;go_wp2_with fail
 refine af (S:=fun w'=>ah w' (w.heap.size+1) 0 [.i s,.u n]) cK Dr.out (fun hS=>?_);refine tI 0 rfl hS ?_;refine tI 2 rfl hS ?_;refine tL 5 rfl hS 31 (.tmp 5) (w.heap.size+1) 0 [.i s,.u n] (fun _ h=>h) underlying31 rX.out ?_;simp only[cQ];refine cI 1 rfl ?_;refine pZ.out.mono ?_;rintro e w3 ⟨b2,rfl,⟨RC,FC⟩,dz,xE⟩;have HFC:=cE FC;clear FC;have B3:cF w2 w3:=(ag _ w2).drew.trans xE;have dU:ah w3 (w.heap.size+1) 0 [.i s,.u n]:=dA Dr.out xE (by have:=H1.out.2.1;have:=H2.out.1.size;show w.heap.size+1<w2.heap.size;omega);have B03:cF w w3:=H2.out.2.trans (B3.mono H2.out.2.size);have Kg:=cE (xk HI.out.1 B03).Gv;have Uq:w2.heap.size≤b2:=dz;have H3:=cE (cD RC (cD Uq (cD B3 B03)));clear RC dz Uq xE B3 B03 hS;refine⟨dU,?_⟩
 try dsimp only
 simp only[cQ];refine cI 3 rfl ?_;refine Kg.out.mono ?_;rintro e w3' ⟨rfl,rfl⟩;refine⟨dU,?_⟩
 try dsimp only
 simp only[cQ];refine tI 4 rfl dU ?_;refine tI 6 rfl dU ?_;simp only[cQ];obtain⟨w4,lP⟩:=cG (w3.alloc (.cells #[.p b2,.v (at_+1),.i s,.u n,.n] 158));have D4:dh X w w4 w3.heap.size b2 root (at_+1) at_ M ⟨s,n⟩ (.n) [] []:=by rw[lP];exact Jq H3.out.1 HFC.out (fun k h=>aG (HF.out.2 k h) H3.out.2.2.2.size) H3.out.2.2.2 (aJ H2.out.2.size H3.out.2.1) HI.out.2.2.1 HI.out.2.1 _ _ _
 have B4:cF w3 w4:=by rw[lP];exact cR (ag _ w3) _
 have hs4:w4.heap.size=w3.heap.size+1:=by rw[lP];simp
 have eM:ah w4 (w.heap.size+1) 0 [.i s,.u n]:=dA dU B4 (by have:=H1.out.2.1;have:=H2.out.1.size;have:=H3.out.2.2.1.size;omega);have Kc:=cE lP;have H4:=cE (cD D4 (cD B4 hs4));clear D4 B4 hs4;refine sM 7 rfl cK cO (.p w3.heap.size) w4 (by rw[Kc.out];go_simp<;>first|rfl|exact⟨rfl,rfl⟩) eM ?_;clear lP dU;simp only[cQ];refine tI 8 rfl eM ?_;simp only[cQ];refine ay cK ?_ _;clear eM;obtain⟨w5,nM⟩:=cG (w4.alloc (.cells #[.I,.z,.n,.U,.U,.U,.I,.U,.V,.V,.V,.n,.n] 47));have B5:cF w4 w5:=by rw[nM];exact cR (ag _ w4) _
 have hs5:w5.heap.size=w4.heap.size+1:=by rw[nM];simp
 have k5:w5.heap[w4.heap.size]?=some (.cells #[.I,.z,.n,.U,.U,.U,.I,.U,.V,.V,.V,.n,.n] 47 (0,0)):=by rw[nM];exact aj w4 _
 have VV:cF w1 w5:=H2.out.1.trans ((H3.out.2.2.1.trans ((H4.out.2.1.trans (B5.mono H4.out.2.1.size)).mono H3.out.2.2.1.size)).mono H2.out.1.size);have M6:cF w w5:=H1.out.1.trans (VV.mono H1.out.1.size);have XG:w5.heap[w.heap.size]?=some (.cells #[.b ok,.s op,.slice oa on oc,.i ov,.bool os,.bool oe,.slice qa qn qc] 35 (0,0)):=(VV.block _ (by have:=H1.out.2.1;omega)).trans H1.out.2.2.1;have TH:w5.heap[w.heap.size+2]?=some (.cells #[.I,.z,.n,.U,.U,.U,.I,.U,.V,.V,.V,.n,.n] 47 (0,0)):=(VV.block _ (by have:=H1.out.2.1;omega)).trans H1.out.2.2.2.2.1;have YQ:=cE nM;have HR5:=cE (dD XG);have z0:w5.cell? ⟨w.heap.size,0,none⟩=some (.b ok):=aa _ _ 0 _ 35 (0,0) XG;have H5:=cE (cD (H4.out.1.below B5) (cD hs5 (cD k5 (cD VV (cD M6 (cD XG (cD TH (cD H4.out.2.2 (by have:=H1.out.2.1;have:=H2.out.1.size;have:=H3.out.2.2.1.size;omega:w.heap.size+3≤w3.heap.size)))))))));clear nM B5 hs5 k5 VV M6 XG TH;have hq0:qn=0:=HG.out.2.2.1;subst hq0;have t7:(ok != 7)=true:=by simpa using HG.out.2.1
 have hon:=H5.out.1.Im HI.out.2.2.2.1 (aT HI.out.2.2.2.2.1 cM) cN HI.out.2.2.2.2.2.1 (iw HI.out.2.2.2.2.2.2 H5.out.2.2.2.2.1) ⟨ok,op,oa,on,oc,ov,os,oe,qa,0,qc⟩ ⟨ok,op,ld,lv,ls,le⟩ (HG.out.1.below H5.out.2.2.2.2.1) (fun k h=>⟨by simp[aA],h.2⟩) HG.out.2.2.2;unfold cV.val cV.cells at hon;dsimp only at hon;have acY:=cE hon;clear hon;go_upto_region 8 with fail
 rw[←YQ.out];go_wp2_with (refine aH rfl 35 (.tmp 4) rfl w.heap.size 0 rfl [.b ok,.s op,.slice oa on oc,.i ov,.bool os,.bool oe,.slice qa 0 qc] _ HR5.out underlying35 rfl qP.out ?_)
 refine acY.out.mono ?_;rintro e w6 h6;have tq:∀_:True,(0:Nat)=0:=fun _=>rfl
 rcases h6 with ⟨hE0,cnt2,_,_,⟨⟨v6,L6,⟨ra,rn,rc,⟨r1,r2,r3,r4,r5,r6,r7,r8⟩⟩,ka,kc,rfl,D6,G6,hrd,F8⟩,K6⟩⟩|⟨hE,rfl,B6⟩
 ·obtain⟨px,hpx⟩:=cG ((C3 root M (at_+1) ⟨s,n⟩ ⟨ok,op,ld,lv,ls,le⟩).path)
  obtain⟨kn,hkn⟩:=cG ((C3 root M (at_+1) ⟨s,n⟩ ⟨ok,op,ld,lv,ls,le⟩).kids.length);rw[←hpx,←hkn];unfold ez Raw.cells eL.cells;dsimp only[aF,aC];have hOD:kQ X w w5 w3.heap.size b2 root (at_+1) cnt2 M (od root M (at_+1) ⟨s,n⟩ ⟨ok,op,ld,lv,ls,le⟩) ⟨s,n⟩ (.n) ([]++jA root M (at_+1) ⟨s,n⟩ ⟨ok,op,ld,lv,ls,le⟩) (C3 root M (at_+1) ⟨s,n⟩ ⟨ok,op,ld,lv,ls,le⟩) (.returned (.agg (ez 0 px ⟨ra,rn,rc,⟨r1,r2,r3,r4,r5,r6,r7,r8⟩⟩ ka kn kc none 0 0).toArray)) w6:=⟨⟨v6,L6,⟨ra,rn,rc,⟨r1,r2,r3,r4,r5,r6,r7,r8⟩⟩,ka,kc,by rw[hpx,hkn],D6,G6,hrd,F8⟩,K6⟩;have dz:b2<w3.heap.size:=H3.out.1.lt;have ab7:w.heap.size+3≤b2:=by have:=H3.out.2.1;have:=H1.out.2.1;have:=H2.out.1.size;omega
  have hnk:∀k,k≠b2→k≠w3.heap.size→¬(k=b2∨k=w3.heap.size∨(aq none 0 0).ownBlock=some k):=fun k h1 h2 h=>by
   rcases h with h|h|h
   ·exact h1 h
   ·exact h2 h
   simp[aA] at h
  have hs4:=H5.out.2.2.2.2.2.2.2.1;have hs5:=H5.out.2.1;have h3w:=H5.out.2.2.2.2.2.2.2.2;have k6:=(K6.block w4.heap.size cL (hnk _ cL cL)).trans H5.out.2.2.1;have kr6:=(K6.block (w.heap.size+2) cL (hnk _ cL cL)).trans H5.out.2.2.2.2.2.2.1;have ko6:=(K6.block w.heap.size cL (hnk _ cL cL)).trans H5.out.2.2.2.2.2.1;have LL:w6.there w4.heap.size 0 13:=ei k6 cN;obtain⟨w7,nY⟩:=cG (w6.setCells w4.heap.size 0 [.I,.s px,.slice ra rn rc,.u r1,.u r2,.u r3,.i r4,.u r5,.v r6,.v r7,.v r8,.slice ka kn kc,.n]);have K7:Kept (·=w4.heap.size) w6 w7:=by rw[nY];exact Kept.setCells (S:=(·=w4.heap.size)) (p:=w4.heap.size) rfl _ 0 (Kept.refl _ w6)
  have k7:w7.heap[w4.heap.size]?=some (.cells #[.I,.s px,.slice ra rn rc,.u r1,.u r2,.u r3,.i r4,.u r5,.v r6,.v r7,.v r8,.slice ka kn kc,.n] 47 (0,0)):=by rw[nY];exact fG k6 rfl
  have NZ:=K6.size;have XW:=K7.size;have kr7:=(K7.block (w.heap.size+2) cL (fun e=>by have e:w.heap.size+2=w4.heap.size:=e;omega)).trans kr6;have ko7:=(K7.block w.heap.size cL (fun e=>by have e:w.heap.size=w4.heap.size:=e;omega)).trans ko6;have D7:=D6.iJ k6 kC cM cM cM cL K7;have z6:w7.cell? ⟨w.heap.size,6,none⟩=some (.slice qa 0 qc):=aa _ _ 6 _ 35 (0,0) ko7;have z10:w7.cell? ⟨w4.heap.size,0,none⟩=some (.I):=aa _ _ 0 _ 47 (0,0) k7;have zv:w7.cell? ⟨w3.heap.size,4,none⟩=some v6:=aa _ _ 4 _ 158 (0,0) D7.blk;have Wd:w7.there (w.heap.size+2) 0 13:=ei kr7 cN;have Kb:=cE nY;have H7:=cE (cD LL (cD k7 (cD kr7 (cD Wd (cD D7 (cD K7 (cD K6 (cD hrd (cD F8 (cD hpx (cD hkn (cD hE0 (cD dz ab7)))))))))))));have ac1:Hid (ah w7.drew w4.heap.size 0 [.I,.s px,.slice ra rn rc,.u r1,.u r2,.u r3,.i r4,.u r5,.v r6,.v r7,.v r8,.slice ka kn kc,.n]∧w7.drew.cell? ⟨w3.heap.size,4,none⟩=some v6):=cE ⟨dD k7,zv⟩;have gu:Hid ((#[.I,.s px,.slice ra rn rc,.u r1,.u r2,.u r3,.i r4,.u r5,.v r6,.v r7,.v r8,.slice ka kn kc,.n]:Array aD).all (·.oneCell')=true):=cE (by simp[au]);clear hOD LL k7 kr7 Wd D7 K7 K6 D6 G6 hrd F8 hpx hkn hE0 dz ab7 hnk k6 kr6 ko6 ko7 nY zv hs4 hs5 h3w NZ XW
  try unfold ez Raw.cells eL.cells
  try dsimp only[aF,aC]
  go_upto_region 10 with (refine aM rfl 47 (.tmp 10) (.tmp 37) rfl w4.heap.size 0 #[.I,.s px,.slice ra rn rc,.u r1,.u r2,.u r3,.i r4,.u r5,.v r6,.v r7,.v r8,.slice ka kn kc,.n] rfl rfl H7.out.1 mg.out gu.out ?_)
  rw[←Kb.out];go_wp2_with fail
  go_loopw [41] (fun ci wr=>ci=.I∧wr=w7) (fun _ _=>0)
  case atStart=>exact⟨rfl,rfl⟩
  obtain⟨rfl,rfl⟩:=hrel;go_wp2_with fail
  refine af (S:=fun w'=>ah w' w4.heap.size 0 [.I,.s px,.slice ra rn rc,.u r1,.u r2,.u r3,.i r4,.u r5,.v r6,.v r7,.v r8,.slice ka kn kc,.n]∧w'.cell? ⟨w3.heap.size,4,none⟩=some v6) cK ac1.out (fun hS=>?_);have yv:∀w',(ah w' w4.heap.size 0 [.I,.s px,.slice ra rn rc,.u r1,.u r2,.u r3,.i r4,.u r5,.v r6,.v r7,.v r8,.slice ka kn kc,.n]∧w'.cell? ⟨w3.heap.size,4,none⟩=some v6)→w'.cell? ⟨w3.heap.size,4,none⟩=some v6:=fun w' h=>h.2
  refine tI 0 rfl hS ?_;refine tI 1 rfl hS ?_;refine tI 2 rfl hS ?_;refine tJ 3 rfl hS yv ?_;simp only[cQ];refine tL 4 rfl hS 47 (.tmp 10) w4.heap.size 0 [.I,.s px,.slice ra rn rc,.u r1,.u r2,.u r3,.i r4,.u r5,.v r6,.v r7,.v r8,.slice ka kn kc,.n] (fun _ h=>h.1) underlying47 mg.out ?_;refine tI 5 rfl hS ?_;simp only[cQ];refine sI 6 rfl 47 (.tmp 7) (.tmp 69) (w.heap.size+2) 0 #[.I,.s px,.slice ra rn rc,.u r1,.u r2,.u r3,.i r4,.u r5,.v r6,.v r7,.v r8,.slice ka kn kc,.n] H7.out.2.2.2.1 mg.out gu.out ⟨mS hS.1 (by have:=H5.out.2.2.2.2.2.2.2;omega),(BJ (by have:=H5.out.2.2.2.2.2.2.2;show w3.heap.size≠w.heap.size+2;omega) hS.2)⟩ ?_;simp only[cQ];refine ay cK ?_ _;go_wp2_with fail
  refine aK (gw rfl _ _ (w.heap.size+2) 0 [.I,.s px,.slice ra rn rc,.u r1,.u r2,.u r3,.i r4,.u r5,.v r6,.v r7,.v r8,.slice ka kn kc,.n] _ rfl (an _ _ _ _ H7.out.2.2.2.1) underlying47 rfl mg.out) rfl ?_;obtain⟨de,hs1,k0,k1,k2,_⟩:=H1.out;obtain⟨h61,h62,h63,h64,D7,K7,K6,hrd,F8,hpx,hkn,hE0,dz,ab7⟩:=H7.out;have hs4:=H5.out.2.2.2.2.2.2.2.1;have hs5:=H5.out.2.1;have h3w:=H5.out.2.2.2.2.2.2.2.2;have M6:=H5.out.2.2.2.2.1;have K9:Kept (·=w.heap.size+2) wr.drew (wr.drew.setCells (w.heap.size+2) 0 [.I,.s px,.slice ra rn rc,.u r1,.u r2,.u r3,.i r4,.u r5,.v r6,.v r7,.v r8,.slice ka kn kc,.n]):=Kept.setCells (S:=(·=w.heap.size+2)) (p:=w.heap.size+2) rfl _ 0 (Kept.refl _ wr.drew);have K7d:Kept (·=w4.heap.size) w6 wr.drew:=K7.drew;have D9:=(D7.below (ag _ wr).drew).iJ (w:=wr.drew) h63 kC cM cM cM cL K9;obtain⟨e1,e2,e3,e4⟩:=U6 (root:=root) (M:=M) (at_:=at_) (who:=⟨s,n⟩) (o:=⟨⟨ok,op,ld,lv,ls,le⟩,ps⟩) HG.out.2.1;have eR:(PG root M (at_+1) ⟨s,n⟩ ⟨ok,op,ld,lv,ls,le⟩).a=C3 root M (at_+1) ⟨s,n⟩ ⟨ok,op,ld,lv,ls,le⟩:=by unfold PG;rw[if_neg (by simpa using hE0)]
  have B09:cF w (wr.drew.setCells (w.heap.size+2) 0 [.I,.s px,.slice ra rn rc,.u r1,.u r2,.u r3,.i r4,.u r5,.v r6,.v r7,.v r8,.slice ka kn kc,.n]):=M6.trans (((K6.below M6.size (fun k h=>by
   rcases h with h|h|h
   ·omega
   ·omega
   simp[aA] at h)).trans ((K7d.below (aJ M6.size K6.size) (fun k e=>by have e:k=w4.heap.size:=e;omega)).trans (K9.below (by have:=K6.size;have:=K7d.size;have:=M6.size;omega) (fun k e=>by have e:k=w.heap.size+2:=e;omega)))))
  refine⟨_,_,rfl,?_,?_,⟨B09,fun b e=>(D9.row.own.lt b e).1⟩⟩
  ·rw[e2]
   have q:=D9.row.out D9.A8;rw[aC] at q;exact q
  rw[e1,e3,e4,eR,hE0];refine⟨⟨ra,rn,rc,⟨r1,r2,r3,r4,r5,r6,r7,r8⟩⟩,ka,kc,none,0,by rw[hpx,hkn];rfl,?_,?_,jR.nil _ _ _⟩
  ·have q1:=(hrd.dP K7d (fun k h1 _ e=>by have e:k=w4.heap.size:=e;have:=h1.1;omega)).dP K9 (fun k h1 _ e=>by have e:k=w.heap.size+2:=e;have:=h1.1;omega)
   exact q1.mono (fun k h1=>by have:=h1.1;have:=M6.size;show w.heap.size≤k;omega)
  have q1:=(F8.dP K7d (fun k h1 _ e=>by have e:k=w4.heap.size:=e;have:=h1.1;omega)).dP K9 (fun k h1 _ e=>by have e:k=w.heap.size+2:=e;have:=h1.1;omega);exact q1.mono (fun k h1 _=>by have:=h1.1;have:=M6.size;show w.heap.size≤k;omega)
 obtain⟨x,hx⟩:=cG (lN root M ⟨s,n⟩ ⟨ok,op,ld,lv,ls,le⟩);rw[←hx];have hs4:=H5.out.2.2.2.2.2.2.2.1;have hs5:=H5.out.2.1;have h3w:=H5.out.2.2.2.2.2.2.2.2;have k6:=(B6.block w4.heap.size cL).trans H5.out.2.2.1;have kr6:=(B6.block (w.heap.size+2) cL).trans H5.out.2.2.2.2.2.2.1;have ko6:=(B6.block w.heap.size cL).trans H5.out.2.2.2.2.2.1;have LL:w6.there w4.heap.size 0 13:=ei k6 cN;obtain⟨w7,nY⟩:=cG (w6.setCells w4.heap.size 0 [.i x,.z,.n,.U,.U,.U,.I,.U,.V,.V,.V,.n,.n]);have K7:Kept (·=w4.heap.size) w6 w7:=by rw[nY];exact Kept.setCells (S:=(·=w4.heap.size)) (p:=w4.heap.size) rfl _ 0 (Kept.refl _ w6)
 have k7:w7.heap[w4.heap.size]?=some (.cells #[.i x,.z,.n,.U,.U,.U,.I,.U,.V,.V,.V,.n,.n] 47 (0,0)):=by rw[nY];exact fG k6 rfl
 have NZ:=B6.size;have XW:=K7.size;have kr7:=(K7.block (w.heap.size+2) cL (fun e=>by have e:w.heap.size+2=w4.heap.size:=e;omega)).trans kr6;have ko7:=(K7.block w.heap.size cL (fun e=>by have e:w.heap.size=w4.heap.size:=e;omega)).trans ko6;have z6:w7.cell? ⟨w.heap.size,6,none⟩=some (.slice qa 0 qc):=aa _ _ 6 _ 35 (0,0) ko7;have z10:w7.cell? ⟨w4.heap.size,0,none⟩=some (.i x):=aa _ _ 0 _ 47 (0,0) k7;have Wd:w7.there (w.heap.size+2) 0 13:=ei kr7 cN;have tx:(x != 0)=true:=by rw[hx];simpa using hE
 have Kb:=cE nY;have H7:=cE (cD LL (cD k7 (cD kr7 (cD Wd (cD K7 (cD B6 (cD hx hE)))))));have ac1:Hid (ah w7.drew w4.heap.size 0 [.i x,.z,.n,.U,.U,.U,.I,.U,.V,.V,.V,.n,.n]):=cE (dD (w:=w7.drew) k7);have gu:Hid ((#[.i x,.z,.n,.U,.U,.U,.I,.U,.V,.V,.V,.n,.n]:Array aD).all (·.oneCell')=true):=cE (by simp[au]);clear LL k7 kr7 Wd K7 B6 hx hE k6 kr6 ko6 ko7 nY hs4 hs5 h3w NZ XW
 try unfold ez oZ Raw.cells M9 eL.cells
 try dsimp only[aF,aC]
 go_upto_region 10 with (refine aM rfl 47 (.tmp 10) (.tmp 37) rfl w4.heap.size 0 #[.i x,.z,.n,.U,.U,.U,.I,.U,.V,.V,.V,.n,.n] rfl rfl H7.out.1 mg.out gu.out ?_)
 rw[←Kb.out];go_wp2_with fail
 go_loopw [41] (fun ci wr=>ci=.I∧wr=w7) (fun _ _=>0)
 case atStart=>exact⟨rfl,rfl⟩
 obtain⟨rfl,rfl⟩:=hrel;go_wp2_with fail
 refine af (S:=fun w'=>ah w' w4.heap.size 0 [.i x,.z,.n,.U,.U,.U,.I,.U,.V,.V,.V,.n,.n]) cK ac1.out (fun hS=>?_);refine tL 0 rfl hS 47 (.tmp 10) w4.heap.size 0 [.i x,.z,.n,.U,.U,.U,.I,.U,.V,.V,.V,.n,.n] (fun _ h=>h) underlying47 mg.out ?_;refine tI 1 rfl hS ?_;simp only[cQ];refine sI 2 rfl 47 (.tmp 7) (.tmp 64) (w.heap.size+2) 0 #[.i x,.z,.n,.U,.U,.U,.I,.U,.V,.V,.V,.n,.n] H7.out.2.2.2.1 mg.out gu.out (mS hS (by have:=H5.out.2.2.2.2.2.2.2;omega)) ?_;simp only[cQ];refine ay cK ?_ _;go_wp2_with fail
 refine aK (gw rfl _ _ (w.heap.size+2) 0 [.i x,.z,.n,.U,.U,.U,.I,.U,.V,.V,.V,.n,.n] _ rfl (an _ _ _ _ H7.out.2.2.2.1) underlying47 rfl mg.out) rfl ?_;obtain⟨h61,h62,h63,h64,K7,B6,hx,hE⟩:=H7.out;have hs4:=H5.out.2.2.2.2.2.2.2.1;have hs5:=H5.out.2.1;have h3w:=H5.out.2.2.2.2.2.2.2.2;have M6:=H5.out.2.2.2.2.1;have K9:Kept (·=w.heap.size+2) wr.drew (wr.drew.setCells (w.heap.size+2) 0 [.i x,.z,.n,.U,.U,.U,.I,.U,.V,.V,.V,.n,.n]):=Kept.setCells (S:=(·=w.heap.size+2)) (p:=w.heap.size+2) rfl _ 0 (Kept.refl _ wr.drew);have K7d:Kept (·=w4.heap.size) w6 wr.drew:=K7.drew;obtain⟨e1,e2,e3,e4⟩:=U6 (root:=root) (M:=M) (at_:=at_) (who:=⟨s,n⟩) (o:=⟨⟨ok,op,ld,lv,ls,le⟩,ps⟩) HG.out.2.1;have eR:(PG root M (at_+1) ⟨s,n⟩ ⟨ok,op,ld,lv,ls,le⟩).a=l5:=by unfold PG;rw[if_pos (by simpa using hE)]
 have eX:jA root M (at_+1) ⟨s,n⟩ ⟨ok,op,ld,lv,ls,le⟩=[]:=by unfold jA;rw[if_pos (by simpa using hE)]
 have B06:cF w w6:=M6.trans (B6.mono M6.size);have B09:cF w (wr.drew.setCells (w.heap.size+2) 0 [.i x,.z,.n,.U,.U,.U,.I,.U,.V,.V,.V,.n,.n]):=B06.trans ((K7d.below B06.size (fun k e=>by have e:k=w4.heap.size:=e;omega)).trans (K9.below (by have:=K7d.size;have:=B06.size;omega) (fun k e=>by have e:k=w.heap.size+2:=e;omega)));refine⟨.n,_,rfl,?_,?_,⟨B09,fun b e=>by simp[aA] at e⟩⟩
 ·rw[e2,eX]
  exact ij.nil _ _
 rw[e1,e3,e4,eR,←hx];exact⟨oZ,none,0,none,0,rfl,mY _ _,gG.nil _ _ _,jR.nil _ _ _⟩
end
theorem NA{root:cP}{M:List (cP×Nd)}{at_:Int}{who:dW}{o:eC}(h:Fit M)(hl:zN o):∀e∈jA root M at_ who o,CB e:=by
 obtain⟨_,_,hp,hd⟩:=hl;have ZG:∀p,((dF p M).getD iN).data.length≤1000000:=fun p=>by
  cases hg:dF p M with
  |none=>simp[iN]
  |some nd=>exact h.node hg
 intro e he;unfold jA at he;split at he
 ·simp at he
 rename_i h0
 have h0:lN root M who o=0:=by simpa using h0
 unfold V4 at he;split at he
 ·rename_i hk
  obtain⟨_,hok,⟨u,hu,_⟩,_⟩:=qC (uu hk h0).2;obtain⟨LP,hLP⟩:=aR.1 hok;have h64:=yU hLP;simp[jo] at he;rcases he with rfl|rfl
  ·refine⟨jW _ cL,?_⟩
   show(lQ M at_ o).data.length≤1000000;have:=ZG (cW (ek M o));unfold lQ;split<;>exact this
  exact⟨by show(ek M o).length≤1000;omega,hd⟩
 split at he
 ·simp[jK] at he
  rcases he with rfl|rfl
  ·exact⟨by show o.path.length≤1000;omega,by simp[iN]⟩
  exact⟨jW _ cL,ZG _⟩
 split at he
 ·simp[zV] at he
  subst he;exact⟨by show o.path.length≤1000;omega,hd⟩
 simp at he
theorem Fit.op{root:cP}{M:List (cP×Nd)}{at_:Int}{who:dW}{o:eC}(h:Fit M)(I:Inv root M)(hl:zN o):Fit (od root M at_ who o):=by
 have:=h.all (NA (root:=root) (at_:=at_) (who:=who) h hl) (root:=root);rw[An I o] at this;exact this
theorem Ho{root:cP}{at_:Int}{who:dW}:∀(l:List eC) {M:List (cP×Nd)},Fit M→Inv root M→(∀o∈l,zN o)→∀e∈lU root at_ who M l,CB e
 |[],M,h,I,hl=>fun e he=>by simp[lU] at he
 |o::l,M,h,I,hl=>fun e he=>by
  unfold lU at he;split at he
  ·rcases List.mem_append.1 he with he|he
   ·exact NA h (hl o (aW ..)) e he
   ·exact Ho l (h.op I (hl o (aW ..))) (I.op o) (fun x hx=>hl x (List.mem_cons_of_mem _ hx)) e he
  ·simp at he
def kV.UK(o:kV):Prop:=∀p∈o.seq,zN p
theorem YC{root:cP}{M:List (cP×Nd)}{at_:Int}{who:dW}{ce:Int}{o:kV}(h:Fit M)(I:Inv root M)(hl:ce=0→o.UK):∀e∈zC root M at_ who ce o,CB e:=by
 unfold zC;split
 ·intro e he;simp at he
 rename_i h0
 have hc:ce=0:=by
  by_cases hc:ce=0
  ·exact hc
  exfalso
  apply h0;unfold Au;rw[if_pos hc];exact hc
 exact Ho _ h I (hl hc)
end
theorem YE{n:Int}(h:n.toNat<10 ^ 10):Jr n=(List.range 10).map fun i=>Lib.dg n.toNat (9 - i):=by
 unfold Jr;rw[aV];have hk:=uw 9 n.toNat h;have hp:=Lib.lt_pow_nDigits n.toNat;rw[Lib.decDigits_eq];generalize Lib.nDigits n.toNat=k at hk hp⊢;generalize n.toNat=u at hp⊢;apply List.ext_getElem
 ·simp;omega
 intro i h1 h2;simp at h1 h2;by_cases hi:i<10 - k
 ·rw[List.getElem_append_left (by simpa using hi)]
  simp;have h3:u / 10 ^ (9 - i)=0:=Nat.div_eq_of_lt (aG hp (Nat.pow_le_pow_right cM cL));unfold Lib.dg;rw[h3];rfl
 rw[List.getElem_append_right (by simpa using hi)];simp
 congr 1
 omega
def agR(n:Int):cP:=(List.range 10).map fun i=>Lib.dg n.toNat (9 - i)
def kF(M:List (cP×Nd))(o:eC):cP:=if o.seq then o.path++agR ((dF (kD o.path) M).getD iN).num.next else o.path
theorem Bz{M:List (cP×Nd)}{o:eC}(h:kS M):ek M o=kF M o:=by
 unfold ek kF;rw[nD];split
 ·congr 1
  refine YE ?_;obtain⟨un,h1,h2⟩:=Bv h (kD o.path);rw[←h1];simp;omega
 rfl
def Cj(root:cP)(M:List (cP×Nd))(who:dW)(o:eC):Int:=
 if o.path=root then (if o.seq then 30 else 32)
 else if (Bk (kF M o)).isSome=false then 30
 else match dF (kD (kF M o)) M with
 |none=>31
 |some u=>if ia u.num.os u.num.on=false then 34 else if o.mM=true∧ia who.site who.n=true then 63 else if (dF (kF M o) M).isSome=true then 32 else if 48≤M.length then 36 else 0
theorem My{root:cP}{M:List (cP×Nd)}{who:dW}{o:eC}(h:kS M):fW root M who o=Cj root M who o:=by
 unfold fW Cj;rw[Bz h,sE,nD];rfl
def Ju(M:List (cP×Nd))(at_:Int)(o:eC):Nd:=if o.seq then Iv (CT ((dF (kD (kF M o)) M).getD iN) at_) else CT ((dF (kD (kF M o)) M).getD iN) at_
def Ci(M:List (cP×Nd))(at_:Int)(who:dW)(o:eC):List (cP×Nd):=iH (kF M o) (yb o.data at_ who o.mM) (iH (kD (kF M o)) (Ju M at_ o) M)
theorem Mx{M:List (cP×Nd)}{at_:Int}{who:dW}{o:eC}(h:kS M):mN M at_ who o=Ci M at_ who o:=by
 unfold mN Ci lQ Ju;rw[Bz h,nD]
def Ba(root:cP)(M:List (cP×Nd))(o:eC):Int:=if o.path=root then 30 else if mF M o≠0 then mF M o else if (M.any fun x=>C6 root o.path x.1)=true then 33 else 0
theorem KT{root:cP}{M:List (cP×Nd)}{o:eC}:iO root M o=Ba root M o:=by
 unfold iO Ba;have h:=I3 root M o.path;have h2:(M.any fun x=>rJ root o.path x.1)=(M.any fun x=>C6 root o.path x.1):=by
  congr 1
  funext x
  exact NO _ _ _
 rw[h2] at h;split
 ·rfl
 split
 ·rfl
 by_cases hk:(M.any fun x=>C6 root o.path x.1)=true
 ·rw[if_pos hk,if_pos (h.2 hk)]
 rw[if_neg hk,if_neg (fun h3=>hk (h.1 h3))]
def Hr(M:List (cP×Nd))(at_:Int)(o:eC):List (cP×Nd):=iH (kD o.path) (CT ((dF (kD o.path) M).getD iN) at_) (oR o.path M)
def Ij(root:cP)(M:List (cP×Nd))(who:dW)(o:eC):Int:=
 if Kn o.path root=false then 30
 else if o.kind=1 then Cj root M who o
 else if o.kind=2 then Ba root M o
 else if o.kind=3∨o.kind=4 then mF M o
 else if (dF o.path M).isSome=false then 31 else 0
theorem Tg{root:cP}{M:List (cP×Nd)}{who:dW}{o:eC}(h:kS M):lN root M who o=Ij root M who o:=by
 unfold lN Ij;rw[OW,My h,KT]
def FK(root:cP)(M:List (cP×Nd))(at_:Int)(who:dW)(o:eC):List (cP×Nd):=
 if Ij root M who o≠0 then M else if o.kind=1 then Ci M at_ who o else if o.kind=2 then Hr M at_ o else if o.kind=3 then KF M at_ o else M
theorem aa8{root:cP}{M:List (cP×Nd)}{at_:Int}{who:dW}{o:eC}(h:kS M):od root M at_ who o=FK root M at_ who o:=by
 unfold od FK sD Hr;rw[Tg h,Mx h,nD]
theorem vY{M:List (cP×Nd)}{p:cP}{d:Nd}(h:kS M)(hd:0≤d.num.next∧d.num.next<4294967296):kS (iH p d M):=fun x hx=>by
 rcases rA hx with rfl|hx
 ·exact hd
 ·exact h x hx
theorem xZ{M:List (cP×Nd)}(h:kS M)(p:cP):0≤((dF p M).getD iN).num.next∧((dF p M).getD iN).num.next<4294967296:=by
 obtain⟨un,h1,h2⟩:=Bv h p;omega
theorem wF(n:Int):0≤wG n∧wG n<4294967296:=by
 unfold wG;rw[IntKind.wrap_u32];omega
theorem kS.op{root:cP}{M:List (cP×Nd)}{at_:Int}{who:dW}(h:kS M)(o:eC):kS (od root M at_ who o):=by
 unfold od;split
 ·exact h
 split
 ·refine vY (vY h ?_) ⟨by show(0:Int)≤0;omega,by show(0:Int)<4294967296;omega⟩
  unfold lQ;split
  ·exact wF _
  exact xZ h _
 split
 ·exact vY (fun x hx=>h x (nP.subset hx)) (xZ h _)
 split
 ·exact vY h (xZ h _)
 exact h
section
open Go.RowKit Go.Shelf Go.MapKept Go.ChangeMaps Go.Maps Go.Sort
structure St(w0 w:aE)(b:Nat)(root:cP)(at_:Int)(M:List (cP×Nd)):Prop where
 tr:TR w0 w b root at_ M
 inv:Inv root M
 nice:kS M
 tab:gB w0
 lo:0≤at_
section
variable{w0 w:World}{b:Nat}{root:cP}{at_:Int}{M:List (cP×Nd)}
theorem St.pow(S:St w0 w b root at_ M):gB w:=iw S.tab S.tr.bl
theorem Te{root:cP}{M:List (cP×Nd)}{at_:Int}{who:dW}{o:eC}:(jA root M at_ who o).length≤2:=by
 unfold jA V4;split
 ·simp
 split
 ·simp[jo]
 split
 ·simp[jK]
 split
 ·simp[zV]
 simp
end
section
variable{root:cP}{at_:Int}{who:dW}
theorem vK:∀(l:List eC) (M:List (cP×Nd)),(lU root at_ who M l).length≤2*l.length
 |[],M=>by simp[lU]
 |o::l,M=>by
  unfold lU;split
  ·rw[aX,List.length_cons]
   have h1:=Te (root:=root) (M:=M) (at_:=at_) (who:=who) (o:=o);have h2:=vK l (od root M at_ who o);omega
  ·simp
theorem kS.run:∀(l:List eC) {M:List (cP×Nd)},kS M→kS (runM root at_ who M l)
 |[],M,h=>h
 |o::l,M,h=>by
  unfold runM;split
  ·exact kS.run l (h.op o)
  ·exact h
end
theorem W7(x:Int)(a:Option aZ)(n c:Nat):∀y∈(#[.i x,.z,.n,.U,.U,.U,.I,.U,.V,.V,.V,.n,.slice a n c]:Array aD).toList,∀m,y≠.b m:=by
 intro y hy m
 change y∈[.i x,.z,.n,.U,.U,.U,.I,.U,.V,.V,.V,.n,.slice a n c] at hy
 simp only[List.mem_cons,List.not_mem_nil,or_false] at hy;rcases hy with rfl|rfl|rfl|rfl|rfl|rfl|rfl|rfl|rfl|rfl|rfl|rfl|rfl<;>(intro e;cases e)
theorem FG{w:aE}{base size n:Nat}{e:TypeId}{v:aD}{xs:List aD}(h:w.ownsRow base e size v n xs){g:Nat}(hg:v.ownBlock=some g):∃cur,w.heap[g]?=some (.cells cur e (0,0)):=by
 rcases h.2 with ⟨e1,_⟩|⟨g',cap,cur,e1,_,h2,_⟩
 ·rw[e1] at hg;cases hg
 rw[e1] at hg;have:g'=g:=by cases hg;rfl
 subst this;exact⟨cur,h2⟩
section
variable{X:Nat→Prop}{w0 w:World}{d b:Nat}{root:cP}{at_ cnt:Int}{M:List (cP×Nd)}{who:dW}{v:Value}{L:List cZ}{E:List gh}
def ad9(x:Int):jS:=⟨x,[],oZ,none,0,0⟩
structure acE(X:Nat→Prop)(w0 w:aE)(d b:Nat)(root:cP)(at_ cnt:Int)(M:List (cP×Nd))(who:dW)(v:aD)(E:List gh)(o:eC)(e:Ending)(w':aE):Prop where
 ret:∃(rr:jS) (v':aD) (L':List cZ) (yC:Int),e=.returned (.agg rr.cells.toArray)∧rr.e=lN root M who o∧kO w' (Y7 w.heap.size v') rr (PG root M at_ who o)∧dh X w0 w' d b root at_ yC (od root M at_ who o) who v' L' (E++jA root M at_ who o)∧cnt≤yC∧yC≤cnt+1∧(∀k,v'.ownBlock=some k→v.ownBlock=some k∨w.heap.size≤k)
 kept:Kept (fun k=>k=b∨k=d∨v.ownBlock=some k) w w'
theorem Cy.uni(D:dh X w0 w d b root at_ cnt M who v L E){o:eC}{e:Ending}{w':aE}(h:Cy X w0 w d b root at_ cnt M who v E o e w'):acE X w0 w d b root at_ cnt M who v E o e w':=by
 rcases h with ⟨h0,yC,c1,c2,⟨⟨v',L',r,ka,kc,he,D',G,hr,hk⟩,K⟩⟩|⟨hx,he,hb⟩
 ·refine⟨⟨⟨0,(C3 root M at_ who o).path,r,ka,(C3 root M at_ who o).kids.length,kc⟩,v',L',yC,he,h0.symm,?_,D',c1,c2,G⟩,K⟩
  unfold PG;rw[if_neg (by simpa using h0)];exact⟨rfl,rfl,hr,rfl,hk⟩
 have hM:od root M at_ who o=M:=by unfold od;rw[if_pos hx]
 have hXs:jA root M at_ who o=[]:=by unfold jA;rw[if_pos hx]
 refine⟨⟨ad9 (lN root M who o),v,L,cnt,he,rfl,?_,?_,Int.le_refl _,by omega,fun k h=>.inl h⟩,Kept.eH hb⟩
 ·unfold PG
  rw[if_pos hx];exact⟨rfl,rfl,mY _ _,rfl,gG.nil _ _ _⟩
 rw[hM,hXs,List.append_nil];exact D.below hb
theorem dh.Su(D:dh X w0 w d b root at_ cnt M who v L E){S X':Nat→Prop}(hS:∀g,S g→X g∧w0.heap.size≤g∧∃cs,w.heap[g]?=some (.cells cs 47 (0,0))){w':aE}(hk:Kept S w w')(h1:∀k,X' k→X k∨w.heap.size≤k)(h2:∀k,X' k→k<w'.heap.size):dh X' w0 w' d b root at_ cnt M who v L E:=by
 obtain⟨lo,mb,T,hlo⟩:=D.nO;have EF:¬S b:=fun e=>by
  obtain⟨_,_,cs,hg⟩:=hS b e;have:=T.blk;rw[hg] at this;cases this
 have hgd:¬S d:=fun e=>by
  obtain⟨_,_,cs,hg⟩:=hS d e;have:=D.blk;rw[hg] at this;cases this
 have hgm:¬S mb:=fun e=>by
  obtain⟨_,_,cs,hg⟩:=hS mb e;exact T.FR hg rfl
 have hgv:∀g,v.ownBlock=some g→¬S g:=fun g h e=>by
  obtain⟨_,_,cs,hg⟩:=hS g e;exact iU D.row.own hg cM h
 have T2:=T.both (lo':=fun k=>lo k∧k<w.heap.size) (fun k h3 h4=>⟨h3,h4⟩);have T':=T2.dP hk (fun k h3 e=>(hlo k h3.1).2 (hS k e).1) EF hgm;have r1:=(D.A8.both (lo':=fun k=>(v.ownBlock≠some k∧¬X k)∧k<w.heap.size) (fun k h3 h4=>⟨h3,h4⟩)).dP hk (fun k h3 e=>h3.1.2 (hS k e).1);refine⟨⟨⟨_,_,T'⟩,D.tree.bl.trans (hk.below D.tree.bl.size (fun k e=>(hS k e).2.1)),D.tree.hb,D.tree.fit,D.tree.rl,D.tree.hm⟩,(hk.block d D.lt hgd).trans D.blk,⟨fm D.row.own hk hgv,r1.both (fun k h _=>h.1.1)⟩,D.hd,D.inv,r1.both (fun k h _=>⟨h.1.1,fun hX=>?_⟩),h2,_,mb,T',fun k hk=>⟨(hlo k hk.1).1,fun hX=>?_⟩⟩
 ·rcases h1 k hX with h3|h3
  ·exact h.1.2 h3
  have:=h.2;omega
 rcases h1 k hX with h3|h3
 ·exact(hlo k hk.1).2 h3
 have:=hk.2;omega
theorem dh.free(D:dh X w0 w d b root at_ cnt M who v L E){X':Nat→Prop}(h1:∀k,X' k→X k):dh X' w0 w d b root at_ cnt M who v L E:=by
 obtain⟨lo,mb,T,hlo⟩:=D.nO;exact⟨D.tree,D.blk,D.row,D.hd,D.inv,D.A8.both (fun k h _=>⟨h.1,fun e=>h.2 (h1 k e)⟩),fun k h=>D.old k (h1 k h),lo,mb,T,fun k hk=>⟨(hlo k hk).1,fun e=>(hlo k hk).2 (h1 k e)⟩⟩
def RB(X:Nat→Prop)(u:aD)(j:Nat):Prop:=u.ownBlock=some j∨X j
def Cz(w:aE)(d b B:Nat)(v:aD)(j:Nat):Prop:=w.heap.size+3≤j∧j≠b∧j≠d∧j≠B∧v.ownBlock≠some j
structure JP(X:Nat→Prop)(w:aE)(d b B:Nat)(root:cP)(at_ MB:Int)(M:List (cP×Nd))(who:dW)(ps:List eC)(k:Nat)(wr:aE):Prop where
 run:nZ root at_ who M (ps.take k)=0
 bl:cF w wr
 res:wr.heap[w.heap.size+2]?=some (.cells #[.I,.z,.n,.U,.U,.U,.I,.U,.V,.V,.V,.n,.n] 47 (0,0))
 st:∃(v:aD) (L:List cZ) (cnt:Int) (ra:Option aZ) (rc:Nat) (LR:List jS),dh (RB X (.slice ra k rc)) w wr d b root at_ cnt (runM root at_ who M (ps.take k)) who v L (lU root at_ who M (ps.take k))∧MB≤cnt∧cnt≤MB+k∧LR.length=k
  ∧jy wr (w.heap.size+3) (Cz w d b B v) (.slice ra k rc) LR (qo root at_ who M (ps.take k))
  ∧wr.heap[B]?=some (.cells #[.I,.z,.n,.U,.U,.U,.I,.U,.V,.V,.V,.n,.slice ra k rc] 47 (0,0))
  ∧(∀j,(aq ra k rc).ownBlock=some j→j≠B)
theorem Tu{X:Nat→Prop}{w wr w6 w7 w9 kq oG:aE}{d b B:Nat}{root:cP}{at_ cnt Jw:Int}{Mk Mk':List (cP×Nd)}{who:dW}{v v7:aD}{L L7:List cZ}{Ek E7:List gh}{ra ra':Option aZ}{rc rc' k:Nat}{LR:List jS}{XR:List xI}{rr:jS}{y:xI}
  (hd:w.heap.size+3≤d∧w.heap.size+3≤b∧w.heap.size+3≤B) (bl:cF w wr) (res:wr.heap[w.heap.size+2]?=some (.cells #[.I,.z,.n,.U,.U,.U,.I,.U,.V,.V,.V,.n,.n] 47 (0,0)))
  (D:dh (RB X (.slice ra k rc)) w wr d b root at_ cnt Mk who v L Ek) (hlr:LR.length=k)
  (RR:jy wr (w.heap.size+3) (Cz w d b B v) (.slice ra k rc) LR XR)
  (kB:wr.heap[B]?=some (.cells #[.I,.z,.n,.U,.U,.U,.I,.U,.V,.V,.V,.n,.slice ra k rc] 47 (0,0))) (hgB:∀j,(aq ra k rc).ownBlock=some j→j≠B)
  (B6:cF wr w6) (hrd:kO w7 (Y7 w6.heap.size v7) rr y)
  (D7:dh (RB X (.slice ra k rc)) w w7 d b root at_ Jw Mk' who v7 L7 E7)
  (G7:∀j,v7.ownBlock=some j→v.ownBlock=some j∨w6.heap.size≤j)
  (K7:Kept (fun j=>j=b∨j=d∨v.ownBlock=some j) w6 w7) (B9:cF w7 w9):
  (w7.ownsRow (w.heap.size+3) 47 13 (.slice ra k rc) k (LR.flatMap jS.cells)∧w7.heap[B]?=some (.cells #[.I,.z,.n,.U,.U,.U,.I,.U,.V,.V,.V,.n,.slice ra k rc] 47 (0,0))∧w7.heap[w.heap.size+2]?=some (.cells #[.I,.z,.n,.U,.U,.U,.I,.U,.V,.V,.V,.n,.n] 47 (0,0))∧w.heap.size+3≤w7.heap.size∧B<w7.heap.size∧(∀j,(aq ra k rc).ownBlock=some j→j<wr.heap.size)∧wr.heap.size≤w6.heap.size∧w6.heap.size≤w7.heap.size)
  ∧(kq.ownsRow (w.heap.size+3) 47 13 (.slice ra' (k+1) rc') (k+1) (LR.flatMap jS.cells++rr.cells)→w9.grownBy kq (aq ra k rc).ownBlock→
   (∀j,(aq ra' (k+1) rc').ownBlock=some j→(aq ra k rc).ownBlock=some j∨w9.heap.size≤j)→Kept (·=B) kq oG→
   dh (RB X (.slice ra' (k+1) rc')) w oG d b root at_ Jw Mk' who v7 L7 E7
   ∧jy oG (w.heap.size+3) (Cz w d b B v7) (.slice ra' (k+1) rc') (LR++[rr]) (XR++[y])
   ∧cF w oG∧oG.heap[w.heap.size+2]?=some (.cells #[.I,.z,.n,.U,.U,.U,.I,.U,.V,.V,.V,.n,.n] 47 (0,0))∧(∀j,(aq ra' (k+1) rc').ownBlock=some j→j≠B)):=by
 have hdl:=D.lt;have gM:=D.tree.lt;have hBl:B<wr.heap.size:=aB kB;have iQ:∃cs,wr.heap[b]?=some (.cells cs 122 (0,0)):=by
  obtain⟨lo,mb,T,_⟩:=D.nO;exact⟨_,T.blk⟩
 have hdB:d≠B:=fun e=>by
  subst e;have:=D.blk;rw[kB] at this;cases this
 have hbB:b≠B:=fun e=>by
  subst e;obtain⟨cs,h⟩:=iQ;rw[kB] at h;cases h
 have hvB:v.ownBlock≠some B:=iU D.row.own kB cM;have qx:v.ownBlock≠some (w.heap.size+2):=iU D.row.own res cM;have NZ:=B6.size;have XW:=K7.size;have hs9:=B9.size;have kB6:=(B6.block B hBl).trans kB;have kB7:=(K7.block B cL (fun h=>by
  rcases h with h|h|h
  ·exact hbB h.symm
  ·exact hdB h.symm
  exact hvB h)).trans kB6
 have kB9:=(B9.block B cL).trans kB7;have r6:=(B6.block _ (aB res)).trans res;have r7:=(K7.block (w.heap.size+2) (aB r6) (fun h=>by
  rcases h with h|h|h
  ·omega
  ·omega
  exact qx h)).trans r6
 have r9:=(B9.block _ (aB r7)).trans r7;have hro:∀j,(aq ra k rc).ownBlock=some j→w.heap.size+3≤j∧j<wr.heap.size∧j≠b∧j≠d∧v.ownBlock≠some j:=fun j h=>by
  obtain⟨h1,h2⟩:=RR.own.lt j h;obtain⟨cs,hcs⟩:=FG RR.own h;refine⟨h1,h2,fun e=>?_,fun e=>?_,iU D.row.own hcs cM⟩
  ·subst e
   obtain⟨cs',h⟩:=iQ;rw[hcs] at h;cases h
  subst e;have:=D.blk;rw[hcs] at this;cases this
 have RRa:=RR.mono (lo':=fun j=>Cz w d b B v j∧j<wr.heap.size) (fun j h1 h2=>⟨h1,h2⟩);have RRb:=RRa.dP (Kept.eH (S:=fun _=>False) B6) (fun _ _ _ h=>h) (fun _ _ h=>h);have RRc:=RRb.dP K7 (fun j hj _ h=>by
  rcases h with h|h|h
  ·exact hj.1.2.1 h
  ·exact hj.1.2.2.1 h
  ·exact hj.1.2.2.2.2 h) (fun j hj h=>by
  obtain⟨_,_,q1,q2,q3⟩:=hro j hj;rcases h with h|h|h
  ·exact q1 h
  ·exact q2 h
  exact q3 h)
 have RRd:=RRc.mono (lo':=Cz w d b B v7) (fun j hj _=>⟨hj.1.1,hj.1.2.1,hj.1.2.2.1,hj.1.2.2.2.1,fun e=>by
  rcases G7 j e with h|h
  ·exact hj.1.2.2.2.2 h
  have:=hj.2;omega⟩)
 refine⟨⟨by rw[←hlr];exact(congrArg (fun n=>w7.ownsRow (w.heap.size+3) 47 13 (.slice ra n rc) LR.length (LR.flatMap jS.cells)) hlr).mpr RRd.own,kB7,r7,by omega,by omega,fun j h=>(hro j h).2.1,NZ,XW⟩,fun hown hg hw R9=>?_⟩;have KG:=fT hg;have ap5:=KG.size;have Qv:=(KG.block B cL (fun h=>hgB B h rfl)).trans kB9;have r10:=(KG.block (w.heap.size+2) (aB r9) (fun h=>by have:=(hro _ h).1;omega)).trans r9;have hnB:∀j,(aq ra' (k+1) rc').ownBlock=some j→j≠B:=fun j h=>by
  rcases hw j h with h1|h1
  ·exact hgB j h1
  omega
 have hr':kO w7 (fun j=>Cz w d b B v7 j∧(aq ra k rc).ownBlock≠some j) rr y:=hrd.mono (fun j hj hlt=>by
  obtain⟨h1,h2⟩:=hj;exact⟨⟨by omega,by omega,by omega,by omega,h2⟩,fun e=>by have:=(hro j e).2.1;omega⟩)
 have RRe:=RRd.more B9 hr' (by rw[hlr];exact hown) hg hw;have RRf:=RRe.dP R9 (fun j hj _ e=>hj.2.2.2.1 e) (fun j hj e=>hnB j hj e);have D9:=D7.below B9;have D10:=D9.Su (S:=fun j=>(aq ra k rc).ownBlock=some j) (X':=RB X (.slice ra' (k+1) rc')) (fun g hg'=>⟨.inl hg',by have:=(hro g hg').1;omega,FG (lD RRd.own B9) hg'⟩) KG (fun j h=>h.elim (fun h=>(hw j h).imp .inl id) (fun h=>.inl (.inr h))) (fun j h=>h.elim (fun h=>(hown.lt j h).2) (fun h=>aG (D9.old j (.inr h)) KG.size));have D12:=D10.iJ Qv (W7 _ _ _ _) cM cM cM cL R9;have b6:cF w w6:=bl.trans (B6.mono bl.size);have b7:cF w w7:=b6.trans (K7.below b6.size (fun j h=>by
  rcases h with h|h|h
  ·omega
  ·omega
  exact(D.row.own.lt j h).1))
 have b9:cF w w9:=b7.trans (B9.mono b7.size);have b10:cF w kq:=b9.trans (KG.below b9.size (fun j h=>by have:=(hro j h).1;omega));have Ot:cF w oG:=b10.trans (R9.below b10.size (fun j h=>by have h:j=B:=h;omega));exact⟨D12,RRf,Ot,(R9.block _ (aB r10) (fun e=>by have e:w.heap.size+2=B:=e;omega)).trans r10,hnB⟩
theorem JP.next{X:Nat→Prop}{w wr oG:aE}{d b B:Nat}{root:cP}{at_ MB Jw:Int}{M:List (cP×Nd)}{who:dW}{ps:List eC}{k:Nat}{v7:aD}{L7:List cZ}{ra':Option aZ}{rc':Nat}{LR:List jS}{rr:jS}{p:eC}(h:JP X w d b B root at_ MB M who ps k wr)(hp:ps[k]?=some p)(hlr:LR.length=k)
  (h0:lN root (runM root at_ who M (ps.take k)) who p=0) (c1:MB≤Jw) (c2:Jw≤MB+(k:Int)+1)
  (D12:dh (RB X (.slice ra' (k+1) rc')) w oG d b root at_ Jw (od root (runM root at_ who M (ps.take k)) at_ who p) who v7 L7 (lU root at_ who M (ps.take k)++jA root (runM root at_ who M (ps.take k)) at_ who p))
  (RR:jy oG (w.heap.size+3) (Cz w d b B v7) (.slice ra' (k+1) rc') (LR++[rr]) (qo root at_ who M (ps.take k)++[PG root (runM root at_ who M (ps.take k)) at_ who p]))
  (Ot:cF w oG) (r12:oG.heap[w.heap.size+2]?=some (.cells #[.I,.z,.n,.U,.U,.U,.I,.U,.V,.V,.V,.n,.n] 47 (0,0))) (hn:∀j,(aq ra' (k+1) rc').ownBlock=some j→j≠B)
  (kB:oG.heap[B]?=some (.cells #[.I,.z,.n,.U,.U,.U,.I,.U,.V,.V,.V,.n,.slice ra' (k+1) rc'] 47 (0,0))):JP X w d b B root at_ MB M who ps (k+1) oG:=by
 have ht:ps.take (k+1)=ps.take k++[p]:=by rw[aY,hp];rfl
 obtain⟨e1,e2,e3,e4⟩:=AW (root:=root) (at_:=at_) (who:=who) p (ps.take k) M h.run;refine⟨by rw[ht,e1,h0],Ot,r12,v7,L7,Jw,ra',rc',LR++[rr],?_,c1,by omega,by rw[aX,hlr];rfl,?_,kB,hn⟩
 ·rw[ht,e2,e3]
  exact D12
 rw[ht,e4];exact RR
theorem abf{root:cP}{at_:Int}{M:List (cP×Nd)}{who:dW}{l:eC}{ps:List eC}(h7:l.kind=7)(h:nZ root (at_+1) who M ps=0):
  Au root M at_ who 0 ⟨l,ps⟩=0∧zC root M at_ who 0 ⟨l,ps⟩=lU root (at_+1) who M ps∧Ri root M at_ who 0 ⟨l,ps⟩=l5∧Rg root M at_ who 0 ⟨l,ps⟩=qo root (at_+1) who M ps:=by
 have hs:(⟨l,ps⟩:kV).seq=ps:=by unfold kV.seq;rw[if_pos h7]
 have hE:Au root M at_ who 0 ⟨l,ps⟩=0:=by unfold Au;rw[if_neg cN,hs];exact h
 refine⟨hE,?_,?_,?_⟩
 ·unfold zC
  rw[hE,if_neg cN,hs]
 ·unfold Ri
  rw[if_neg (fun h2=>h2.2 h7)]
 unfold Rg;rw[if_pos ⟨rfl,h7⟩]
theorem Xt{root:cP}{at_:Int}{M:List (cP×Nd)}{who:dW}{l p:eC}{ps:List eC}{k:Nat}(h7:l.kind=7)(hp:ps[k]?=some p)(h:nZ root (at_+1) who M (ps.take k)=0)(hx:lN root (runM root (at_+1) who M (ps.take k)) who p≠0):
  Au root M at_ who 0 ⟨l,ps⟩=lN root (runM root (at_+1) who M (ps.take k)) who p∧zC root M at_ who 0 ⟨l,ps⟩=[]∧Ri root M at_ who 0 ⟨l,ps⟩=l5∧Rg root M at_ who 0 ⟨l,ps⟩=qo root (at_+1) who M (ps.take k)++[PG root (runM root (at_+1) who M (ps.take k)) (at_+1) who p]:=by
 have hs:(⟨l,ps⟩:kV).seq=ps:=by unfold kV.seq;rw[if_pos h7]
 have ht:ps.take (k+1)=ps.take k++[p]:=by rw[aY,hp];rfl
 obtain⟨e1,e2,e3,e4⟩:=AW (root:=root) (at_:=at_+1) (who:=who) p (ps.take k) M h;have hps:ps=(ps.take k++[p])++ps.drop (k+1):=by rw[←ht,List.take_append_drop]
 obtain⟨s1,s2⟩:=Hj (root:=root) (at_:=at_+1) (who:=who) (ps.drop (k+1)) (ps.take k++[p]) M (by rw[e1];exact hx);rw[←hps] at s1 s2;have hE:Au root M at_ who 0 ⟨l,ps⟩=lN root (runM root (at_+1) who M (ps.take k)) who p:=by unfold Au;rw[if_neg cN,hs,s1,e1]
 refine⟨hE,?_,?_,?_⟩
 ·unfold zC
  rw[hE,if_pos hx]
 ·unfold Ri
  rw[if_neg (fun h2=>h2.2 h7)]
 unfold Rg;rw[if_pos ⟨rfl,h7⟩];show qo root (at_+1) who M ps=_;rw[s2,e4]
end
section
variable{w0 w:World}{b:Nat}{root:cP}{at_:Int}{M:List (cP×Nd)}
theorem U7{X:Nat→Prop}(Wl:∀k,X k→k<w.heap.size)(F:jx X w b root at_ M)(R:TR w0 w b root at_ M)(I:Inv root M)(hm:dG w)(h0:0≤at_)(h1:at_≤90000)(NX:kS M)(PT:gB w)(r:cV)(o:kV)(who:dW)(hr:eZ w (fun k=>k<w.heap.size∧¬X k) r o.leaf)(HC:∀w',cF w w'→aN prog 29 #[r.val] w' (oE w' 0))(hg:o.leaf.kind=7∧r.pn=o.parts.length∧o.parts.length≤6∧xo X w r.pa o.parts):
  aN prog 30 #[.p b,r.val,CQ who] w (OR X w root M at_ who 0 o):=by
 obtain⟨ok,op,oa,on,oc,ov,os,oe,qa,qn,qc⟩:=r;obtain⟨s,n⟩:=who;obtain⟨⟨lk,lp,ld,lv,ls,le⟩,ps⟩:=o;obtain⟨q1,q2,q3,q4,q5,q6,q7,q8⟩:=hr;have hr:eZ w (fun k=>k<w.heap.size∧¬X k) ⟨ok,op,oa,on,oc,ov,os,oe,qa,qn,qc⟩ ⟨lk,lp,ld,lv,ls,le⟩:=⟨q1,q2,q3,q4,q5,q6,q7,q8⟩;clear q3 q4 q5 q6 q7 q8;dsimp only at q1 q2;subst q1 q2;unfold cV.val cV.cells CQ;unfold cV.val cV.cells at HC;dsimp only at HC⊢;obtain⟨w1,hw1,de,hs1,k0,k1,k2⟩:=Cd w ok op oa on oc ov os oe qa qn qc s n;have qP:Hid (cH 35 7):=cE cK;have mg:Hid (cH 47 13):=cE iD;have rX:Hid (cH 31 2):=cE cK;have H1:=cE (cD de (cD hs1 (cD k0 (cD k1 (cD k2 hw1)))));have GG:=cE (dD k0);have RW:=HC w1 de;have GO:=cE RW;have HI:=cE (cD R (cD I (cD hm (cD h0 (cD h1 (cD NX PT))))));have HG:=cE (cD hr hg);have HF:=cE (cD F Wl);clear F Wl;have tw:∀_:True,IntKind.u64.wrap (at_+1)=at_+1:=fun _=>by rw[aQ];omega
 clear HC de hs1 k0 k1 k2 RW R I hm h0 h1 NX PT hr hg;go_enter func30,ntmps30
 go_wp2_with fail
 rw[←hw1];clear hw1;refine GO.out.mono ?_;rintro e w2 ⟨rfl,B2⟩;have Y6:cF w w2:=H1.out.1.trans (B2.mono H1.out.1.size);have Dr:Hid (w2.drew.rangeAt (w.heap.size+1) 0 [.i s,.u n]):=cE (dD (w:=w2.drew) ((B2.block (w.heap.size+1) (by have:=H1.out.2.1;omega)).trans H1.out.2.2.2.1));have pZ:=cE (jx.clone (xk HI.out.1 Y6.drew) (HF.out.1.below Y6.drew));have H2:=cE (cD B2 Y6);clear B2 Y6;go_wp2_with fail
 refine af (S:=fun w'=>ah w' (w.heap.size+1) 0 [.i s,.u n]) cK Dr.out (fun hS=>?_);refine tI 0 rfl hS ?_;refine tI 2 rfl hS ?_;refine tL 5 rfl hS 31 (.tmp 5) (w.heap.size+1) 0 [.i s,.u n] (fun _ h=>h) underlying31 rX.out ?_;simp only[cQ];refine cI 1 rfl ?_;refine pZ.out.mono ?_;rintro e w3 ⟨b2,rfl,⟨RC,FC⟩,dz,xE⟩;have HFC:=cE FC;clear FC;have B3:cF w2 w3:=(ag _ w2).drew.trans xE;have dU:ah w3 (w.heap.size+1) 0 [.i s,.u n]:=dA Dr.out xE (by have:=H1.out.2.1;have:=H2.out.1.size;show w.heap.size+1<w2.heap.size;omega);have B03:cF w w3:=H2.out.2.trans (B3.mono H2.out.2.size);have Kg:=cE (xk HI.out.1 B03).Gv;have Uq:w2.heap.size≤b2:=dz;have H3:=cE (cD RC (cD Uq (cD B3 B03)));clear RC dz Uq xE B3 B03 hS;refine⟨dU,?_⟩
 try dsimp only
 simp only[cQ];refine cI 3 rfl ?_;refine Kg.out.mono ?_;rintro e w3' ⟨rfl,rfl⟩;refine⟨dU,?_⟩
 try dsimp only
 simp only[cQ];refine tI 4 rfl dU ?_;refine tI 6 rfl dU ?_;simp only[cQ];obtain⟨w4,lP⟩:=cG (w3.alloc (.cells #[.p b2,.v (at_+1),.i s,.u n,.n] 158));have D4:dh X w w4 w3.heap.size b2 root (at_+1) at_ M ⟨s,n⟩ (.n) [] []:=by rw[lP];exact Jq H3.out.1 HFC.out (fun k h=>aG (HF.out.2 k h) H3.out.2.2.2.size) H3.out.2.2.2 (aJ H2.out.2.size H3.out.2.1) HI.out.2.2.1 HI.out.2.1 _ _ _
 have B4:cF w3 w4:=by rw[lP];exact cR (ag _ w3) _
 have hs4:w4.heap.size=w3.heap.size+1:=by rw[lP];simp
 have eM:ah w4 (w.heap.size+1) 0 [.i s,.u n]:=dA dU B4 (by have:=H1.out.2.1;have:=H2.out.1.size;have:=H3.out.2.2.1.size;omega);have Kc:=cE lP;have H4:=cE (cD D4 (cD B4 hs4));clear D4 B4 hs4;refine sM 7 rfl cK cO (.p w3.heap.size) w4 (by rw[Kc.out];go_simp<;>first|rfl|exact⟨rfl,rfl⟩) eM ?_;clear lP dU;simp only[cQ];refine tI 8 rfl eM ?_;simp only[cQ];refine ay cK ?_ _;clear eM;obtain⟨w5,nM⟩:=cG (w4.alloc (.cells #[.I,.z,.n,.U,.U,.U,.I,.U,.V,.V,.V,.n,.n] 47));have B5:cF w4 w5:=by rw[nM];exact cR (ag _ w4) _
 have hs5:w5.heap.size=w4.heap.size+1:=by rw[nM];simp
 have k5:w5.heap[w4.heap.size]?=some (.cells #[.I,.z,.n,.U,.U,.U,.I,.U,.V,.V,.V,.n,.n] 47 (0,0)):=by rw[nM];exact aj w4 _
 have VV:cF w1 w5:=H2.out.1.trans ((H3.out.2.2.1.trans ((H4.out.2.1.trans (B5.mono H4.out.2.1.size)).mono H3.out.2.2.1.size)).mono H2.out.1.size);have M6:cF w w5:=H1.out.1.trans (VV.mono H1.out.1.size);have XG:w5.heap[w.heap.size]?=some (.cells #[.b ok,.s op,.slice oa on oc,.i ov,.bool os,.bool oe,.slice qa qn qc] 35 (0,0)):=(VV.block _ (by have:=H1.out.2.1;omega)).trans H1.out.2.2.1;have TH:w5.heap[w.heap.size+2]?=some (.cells #[.I,.z,.n,.U,.U,.U,.I,.U,.V,.V,.V,.n,.n] 47 (0,0)):=(VV.block _ (by have:=H1.out.2.1;omega)).trans H1.out.2.2.2.2.1;have YQ:=cE nM;have HR5:=cE (dD XG);have z0:w5.cell? ⟨w.heap.size,0,none⟩=some (.b ok):=aa _ _ 0 _ 35 (0,0) XG;have H5:=cE (cD (H4.out.1.below B5) (cD hs5 (cD k5 (cD VV (cD M6 (cD XG (cD TH (cD H4.out.2.2 (by have:=H1.out.2.1;have:=H2.out.1.size;have:=H3.out.2.2.1.size;omega:w.heap.size+3≤w3.heap.size)))))))));clear nM B5 hs5 k5 VV M6 XG TH;have hk7:ok=7:=HG.out.2.1;have t7:(ok != 7)=false:=by rw[hk7];rfl
 have hqn:qn≤6:=by have h1:=HG.out.2.2.1;have h2:=HG.out.2.2.2.1;omega
 obtain⟨i0,xF,hz0,hz1,hz2⟩:=info_parts QD;go_upto_region 8 with fail
 rw[←YQ.out];have z6:w5.cell? ⟨w.heap.size,6,none⟩=some (.slice qa qn qc):=aa _ _ 6 _ 35 (0,0) H5.out.2.2.2.2.2.1;have VI:Hid (JP X w w3.heap.size b2 w4.heap.size root (at_+1) at_ M ⟨s,n⟩ ps 0 w5):=cE ⟨rfl,H5.out.2.2.2.2.1,H5.out.2.2.2.2.2.2.1,_,_,at_,none,0,[],H5.out.1.free (fun k h=>h.elim (fun h=>by simp[aA] at h) id),Int.le_refl _,by omega,rfl,KR _ _ _,H5.out.2.2.1,fun j h=>by simp[aA] at h⟩;clear hk7;go_wp2_with fail
 go_loopw [41] (fun ci wr=>∃k:Nat,k≤qn∧ci=.i k∧Hid (JP X w w3.heap.size b2 w4.heap.size root (at_+1) at_ M ⟨s,n⟩ ps k wr)) (fun ci _=>qn - (intOf ci).toNat)
 case atStart=>exact⟨0,by omega,rfl,VI⟩
 obtain⟨k,hk,rfl,HS⟩:=hrel;by_cases hlt:k<qn
 ·obtain⟨p,hp⟩:∃p,ps[k]?=some p:=⟨_,List.getElem?_eq_getElem (by have:=HG.out.2.2.1;omega)⟩
  obtain⟨g,off,⟨pk,pp,da,dn,dc,pv,Zi,Zj,fa,fn,fc⟩,hqa,Uj,eW,hlf,hly⟩:=HG.out.2.2.2.2 k p hp;subst hqa;obtain⟨v,L,cnt,ra,rc,LR,D,c1,c2,hlr,RR,kB,hgB⟩:=HS.out.st;have gM:=HS.out.bl;have afx:wr.rangeAt g (off+k*7) [.b pk,.s pp,.slice da dn dc,.i pv,.bool Zi,.bool Zj,.slice fa fn fc]:=dA eW gM Uj;obtain⟨w6,l6⟩:=cG (wr.alloc (.cells #[.b pk,.s pp,.slice da dn dc,.i pv,.bool Zi,.bool Zj,.slice fa fn fc] 35));have B6:cF wr w6:=by rw[l6];exact cR (ag _ wr) _
  have hx6:w6.rangeAt wr.heap.size 0 [.b pk,.s pp,.slice da dn dc,.i pv,.bool Zi,.bool Zj,.slice fa fn fc]:=dD (t:=35) (fr:=(0,0)) (by rw[l6];exact aj wr _);have D6:=D.below B6;have hl1:(lU root (at_+1) ⟨s,n⟩ M (ps.take k)).length≤900:=aJ (vK _ _) (by rw[List.length_take];omega);have hon:=D6.Im (aT HI.out.2.2.2.1 c1) (by have:=HI.out.2.2.2.2.1;omega) hl1 (HI.out.2.2.2.2.2.1.run _) (iw HI.out.2.2.2.2.2.2 (gM.trans (B6.mono gM.size))) ⟨pk,pp,da,dn,dc,pv,Zi,Zj,fa,fn,fc⟩ p (hlf.below (gM.trans (B6.mono gM.size))) (fun j hj=>⟨fun e=>by have h1:=(D.row.own.lt j e).1;have hj:j<w.heap.size:=hj.1;omega,fun e=>e.elim (fun e=>by have h1:=(RR.own.lt j e).1;have hj:j<w.heap.size:=hj.1;omega) hj.2⟩) hly;unfold cV.val cV.cells at hon;dsimp only at hon;have acY:=cE hon;have mX:=cE afx;have HX6:=cE hx6;have CO:=cE l6;have HP:=cE hp;have HLR:=cE (cD hlr (cD hgB (cD c1 c2)));have HD6:=cE (cD D (cD RR (cD kB (cD B6 D6))));have HLT:=cE hlt;clear hon afx hx6 l6 hp hlr hgB D RR kB B6 D6 hl1 eW hlf hly gM c1 c2 Uj;go_wp2_with (first
   |(refine aH rfl 35 (.tmp 43) rfl g (off+k*7) rfl [.b pk,.s pp,.slice da dn dc,.i pv,.bool Zi,.bool Zj,.slice fa fn fc] _ mX.out underlying35 rfl qP.out ?_)
   |(rw[←CO.out];refine aH rfl 35 (.tmp 12) rfl wr.heap.size 0 rfl [.b pk,.s pp,.slice da dn dc,.i pv,.bool Zi,.bool Zj,.slice fa fn fc] _ HX6.out underlying35 rfl qP.out ?_))
  refine acY.out.mono ?_;rintro e w7 h7;obtain⟨⟨⟨x,px,⟨ba,bn,bc,⟨b1,b2_,b3,b4,b5,b6,b7,b8⟩⟩,ka,kn,kc⟩,v7,L7,Jw,rfl,hx,hrd,D7,c3,c4,G7⟩,K7⟩:=Cy.uni HD6.out.2.2.2.2 h7;unfold jS.cells ez Raw.cells eL.cells;dsimp only[aF,aC];dsimp only at hx;obtain⟨w8,uX⟩:=cG (w7.alloc (.cells #[.i x,.s px,.slice ba bn bc,.u b1,.u b2_,.u b3,.i b4,.u b5,.v b6,.v b7,.v b8,.slice ka kn kc,.n] 47));have B8:cF w7 w8:=by rw[uX];exact cR (ag _ w7) _
  have NY:w8.heap.size=w7.heap.size+1:=by rw[uX];simp
  have k8:w8.heap[w7.heap.size]?=some (.cells #[.i x,.s px,.slice ba bn bc,.u b1,.u b2_,.u b3,.i b4,.u b5,.v b6,.v b7,.v b8,.slice ka kn kc,.n] 47 (0,0)):=by rw[uX];exact aj w7 _
  obtain⟨w9,nL⟩:=cG (w8.alloc (.cells #[.i x,.s px,.slice ba bn bc,.u b1,.u b2_,.u b3,.i b4,.u b5,.v b6,.v b7,.v b8,.slice ka kn kc,.n] 47));have B89:cF w8 w9:=by rw[nL];exact cR (ag _ w8) _
  have hs9:w9.heap.size=w8.heap.size+1:=by rw[nL];simp
  have k9:w9.heap[w8.heap.size]?=some (.cells #[.i x,.s px,.slice ba bn bc,.u b1,.u b2_,.u b3,.i b4,.u b5,.v b6,.v b7,.v b8,.slice ka kn kc,.n] 47 (0,0)):=by rw[nL];exact aj w8 _
  have B9:cF w7 w9:=B8.trans (B89.mono B8.size);have hst:=fun kq oG ra' rc'=>Tu (kq:=kq) (oG:=oG) (ra':=ra') (rc':=rc') (by have h3w:=H5.out.2.2.2.2.2.2.2.2;have hs4:=H5.out.2.2.2.2.2.2.2.1;have:=H3.out.2.1;have:=H1.out.2.1;have:=H2.out.1.size;exact⟨by omega,by omega,by omega⟩:w.heap.size+3≤w3.heap.size∧w.heap.size+3≤b2∧w.heap.size+3≤w4.heap.size) HS.out.bl HS.out.res HD6.out.1 HLR.out.1 HD6.out.2.1 HD6.out.2.2.1 HLR.out.2.1 HD6.out.2.2.2.1 hrd D7 G7 K7 B9
  have yw:=(hst w9 w9 none 0).1;have OI:=cE hst;have kB8:=(B8.block _ yw.2.2.2.2.1).trans yw.2.1;have ak8:=yw.2.2.2.2.2;have aez:=lD yw.1 B9;have kB9:=(B9.block _ yw.2.2.2.2.1).trans yw.2.1;have BS:w.heap.size+3≤w9.heap.size:=by have:=yw.2.2.2.1;omega
  have hBlt:w4.heap.size<w7.heap.size:=yw.2.2.2.2.1;have sL:∀j,(aq ra k rc).ownBlock=some j→j≠w7.heap.size:=fun j h=>by have:=yw.2.2.2.2.2.1 j h;omega
  have ML:w8.cell? ⟨w4.heap.size,12,none⟩=some (.slice ra k rc):=aa _ _ 12 _ 47 (0,0) kB8;have HR8:=cE (dD k8);have hC9:∀j u,([.i x,.s px,.slice ba bn bc,.u b1,.u b2_,.u b3,.i b4,.u b5,.v b6,.v b7,.v b8,.slice ka kn kc,.n]:List aD)[j]?=some u→w9.cell? ((⟨w8.heap.size,0,none⟩:aZ).add j)=some u:=fun j u hu=>by
   rw[Addr.add_lit,Nat.zero_add];have:=dD k9 j u hu;rw[Nat.zero_add] at this;exact this
  have hpl:∀u∈([.i x,.s px,.slice ba bn bc,.u b1,.u b2_,.u b3,.i b4,.u b5,.v b6,.v b7,.v b8,.slice ka kn kc,.n]:List aD),u.oneCell'=true:=by intro u hu;simp only[List.mem_cons,List.not_mem_nil,or_false] at hu;rcases hu with rfl|rfl|rfl|rfl|rfl|rfl|rfl|rfl|rfl|rfl|rfl|rfl|rfl<;>rfl
  have Ab:k+1≤maxLen:=by unfold maxLen;omega
  have hm2:(k+1)*152≤140737488355328:=by omega
  have HA:=cE (cD aez (cD hC9 (cD hpl (cD Ab (cD hm2 BS)))));have H8:=cE (cD k8 (cD NY (cD hs9 (cD B89 (cD kB9 (cD hBlt (cD sL (cD hx (cD c3 c4)))))))));have Fi:=cE uX;have VB:=cE nL;have hgB:=HLR.out.2.1;clear hrd D7 G7 K7 B9 hst yw kB8 ak8 aez kB9 BS hBlt sL hC9 hpl Ab hm2 k8 NY hs9 k9 B8 B89 hx c3 c4 h7 uX nL;go_upto_region 14 with fail
  rw[←Fi.out];go_upto_region 15 with (first
   |(refine aH rfl 47 (.tmp 13) rfl w7.heap.size 0 rfl [.i x,.s px,.slice ba bn bc,.u b1,.u b2_,.u b3,.i b4,.u b5,.v b6,.v b7,.v b8,.slice ka kn kc,.n] _ HR8.out underlying47 rfl mg.out ?_)
   |(at_builtin;rw[←VB.out];refine ef rfl (.tmp 49) (.tmp 51) 45 rfl (w.heap.size+3) 47 i0 (.agg #[.I,.z,.n,.U,.U,.U,.I,.U,.V,.V,.V,.n,.n]) 13 152 underlying45 xF hz0 hz1 hz2 rfl cM (.slice ra k rc) k (LR.flatMap jS.cells) rfl HA.out.1 ⟨w8.heap.size,0,none⟩ 1 1 [.i x,.s px,.slice ba bn bc,.u b1,.u b2_,.u b3,.i b4,.u b5,.v b6,.v b7,.v b8,.slice ka kn kc,.n] rfl rfl HA.out.2.1 HA.out.2.2.1 HA.out.2.2.2.1 HA.out.2.2.2.2.1 HA.out.2.2.2.2.2 ?_;intro v10 kq hown10 hgrow10 hwh10;have Qv:=(hgrow10.block w4.heap.size (by have:=H8.out.2.2.2.2.2.1;have:=H8.out.2.1;have:=H8.out.2.2.1;omega) (fun e=>hgB _ e.symm rfl)).trans H8.out.2.2.2.2.1;have Qw:=(hgrow10.block w7.heap.size (by have:=H8.out.2.1;have:=H8.out.2.2.1;omega) (fun e=>H8.out.2.2.2.2.2.2.1 _ e.symm rfl)).trans ((H8.out.2.2.2.1.block w7.heap.size (by have:=H8.out.2.1;omega)).trans H8.out.1);have q12:kq.cell? ⟨w4.heap.size,12,none⟩=some (.slice ra k rc):=aa _ _ 12 _ 47 (0,0) Qv;have f12:kq.frozen? ⟨w4.heap.size,12,none⟩=false:=(by simp[aL,Qv]);obtain⟨ra',rc',qx⟩:=iA hown10;subst qx;have JX:=cE (cD hown10 (cD hgrow10 (cD hwh10 (cD Qv Qw))));clear hown10 hgrow10 hwh10 Qv Qw))
  obtain⟨p8,qN⟩:=cG (kq.setCell ⟨w4.heap.size,12,none⟩ (.slice ra' (k+1) rc'));rw[←qN];have K11:Kept (·=w4.heap.size) kq p8:=by rw[qN];exact Kept.setCell (S:=(·=w4.heap.size)) (p:=⟨w4.heap.size,12,none⟩) (Kept.refl _ kq) rfl _
  have XM:p8.heap[w4.heap.size]?=some (.cells #[.I,.z,.n,.U,.U,.U,.I,.U,.V,.V,.V,.n,.slice ra' (k+1) rc'] 47 (0,0)):=by rw[qN];simp[aP,aI,JX.out.2.2.2.1]
  have akt:w7.heap.size≠w4.heap.size:=by have:=H8.out.2.2.2.2.2.1;omega
  have Zp:=(K11.block w7.heap.size (aB JX.out.2.2.2.2) akt).trans JX.out.2.2.2.2;have y0:p8.cell? ⟨w7.heap.size,0,none⟩=some (.i x):=aa _ _ 0 _ 47 (0,0) Zp;have q0:p8.cell? ⟨w4.heap.size,0,none⟩=some (.I):=aa _ _ 0 _ 47 (0,0) XM;have f0:p8.frozen? ⟨w4.heap.size,0,none⟩=false:=by simp[aL,XM]
  have VQ:=cE (cD K11 XM);clear K11 XM Zp qN;go_upto_region 16 with fail
  obtain⟨oG,XU⟩:=cG (p8.setCell ⟨w4.heap.size,0,none⟩ (.i x));rw[←XU];have R9:Kept (·=w4.heap.size) kq oG:=by rw[XU];exact Kept.setCell (S:=(·=w4.heap.size)) (p:=⟨w4.heap.size,0,none⟩) VQ.out.1 rfl _
  have abk:oG.heap[w4.heap.size]?=some (.cells #[.i x,.z,.n,.U,.U,.U,.I,.U,.V,.V,.V,.n,.slice ra' (k+1) rc'] 47 (0,0)):=by rw[XU];simp[aP,aI,VQ.out.2]
  have z0:oG.cell? ⟨w4.heap.size,0,none⟩=some (.i x):=aa _ _ 0 _ 47 (0,0) abk;have Ac:=(OI.out kq oG ra' rc').2 JX.out.1 JX.out.2.1 JX.out.2.2.1 R9;have Kh:=cE (cD Ac abk);clear Ac R9 abk XU q0 f0 y0;by_cases hx0:x=0
  ·have tx:(x != 0)=false:=by rw[hx0];rfl
   have h0:lN root (runM root (at_+1) ⟨s,n⟩ M (ps.take k)) ⟨s,n⟩ p=0:=by rw[←H8.out.2.2.2.2.2.2.2.1,hx0]
   have sL:=HS.out.next HP.out HLR.out.1 h0 (aT HLR.out.2.2.1 H8.out.2.2.2.2.2.2.2.2.1) (by have:=H8.out.2.2.2.2.2.2.2.2.2;have:=HLR.out.2.2.2;omega) Kh.out.1.1 Kh.out.1.2.1 Kh.out.1.2.2.1 Kh.out.1.2.2.2.1 Kh.out.1.2.2.2.2 (by have h:=Kh.out.2;rw[hx0] at h;exact h);have Ay:=cE sL;have hlt:=HLT.out;clear sL h0 hx0;go_wp2_with fail
   go_roundw
   case rel=>exact⟨k+1,by omega,by go_num,Ay⟩
   case measure=>simp[intOf];omega
  have tx:(x != 0)=true:=by simpa using hx0
  have GF:=cE hx0;have abj:=Kh.out.1.2.2.2.1;have afl:oG.there (w.heap.size+2) 0 13:=ei abj cN;have aha:=cE (cD afl abj);have HKV:=cE (dD (w:=oG.drew) Kh.out.2);have gu:Hid ((#[.i x,.z,.n,.U,.U,.U,.I,.U,.V,.V,.V,.n,.slice ra' (k+1) rc']:Array aD).all (·.oneCell')=true):=cE (by simp[au]);clear hx0 abj afl;go_wp2_with fail
  refine af (S:=fun w'=>ah w' w4.heap.size 0 [.i x,.z,.n,.U,.U,.U,.I,.U,.V,.V,.V,.n,.slice ra' (k+1) rc']) cK HKV.out (fun hS=>?_);refine tL 0 rfl hS 47 (.tmp 10) w4.heap.size 0 [.i x,.z,.n,.U,.U,.U,.I,.U,.V,.V,.V,.n,.slice ra' (k+1) rc'] (fun _ h=>h) underlying47 mg.out ?_;refine tI 1 rfl hS ?_;simp only[cQ];refine sI 2 rfl 47 (.tmp 7) (.tmp 64) (w.heap.size+2) 0 #[.i x,.z,.n,.U,.U,.U,.I,.U,.V,.V,.V,.n,.slice ra' (k+1) rc'] aha.out.1 mg.out gu.out (mS hS (by have:=H5.out.2.2.2.2.2.2.2;omega)) ?_;simp only[cQ];refine ay cK ?_ _;go_wp2_with fail
  refine aK (gw rfl _ _ (w.heap.size+2) 0 [.i x,.z,.n,.U,.U,.U,.I,.U,.V,.V,.V,.n,.slice ra' (k+1) rc'] _ rfl (an _ _ _ _ aha.out.1) underlying47 rfl mg.out) rfl ?_;obtain⟨D12,ag1,Ot,r12,aqh⟩:=Kh.out.1;have K9:Kept (·=w.heap.size+2) oG.drew (oG.drew.setCells (w.heap.size+2) 0 [.i x,.z,.n,.U,.U,.U,.I,.U,.V,.V,.V,.n,.slice ra' (k+1) rc']):=Kept.setCells (S:=(·=w.heap.size+2)) (p:=w.heap.size+2) rfl _ 0 (Kept.refl _ oG.drew);have B09:cF w (oG.drew.setCells (w.heap.size+2) 0 [.i x,.z,.n,.U,.U,.U,.I,.U,.V,.V,.V,.n,.slice ra' (k+1) rc']):=Ot.drew.trans (K9.below Ot.size (fun j e=>by have e:j=w.heap.size+2:=e;omega));have hEx:=H8.out.2.2.2.2.2.2.2.1;obtain⟨e1,e2,e3,e4⟩:=Xt (root:=root) (at_:=at_) (M:=M) (who:=⟨s,n⟩) (l:=⟨ok,op,ld,lv,ls,le⟩) (ps:=ps) HG.out.2.1 HP.out HS.out.run (by rw[←hEx];exact GF.out);rw[←hEx] at e1;have RR9:=(ag1.dP (Kept.eH (S:=fun _=>False) (ag _ oG).drew) (fun _ _ _ h=>h) (fun _ _ h=>h)).dP K9 (fun j hj _ e=>by have e:j=w.heap.size+2:=e;have:=hj.1;omega) (fun j hj e=>by have e:j=w.heap.size+2:=e;have:=(ag1.own.lt j hj).1;omega);obtain⟨pa,pc,hv,LU⟩:=RR9.Xw (lo':=fQ w.heap.size) (fun j hj _=>by have:=hj.1;show w.heap.size≤j;omega) (fun j hj=>by show w.heap.size≤j;omega);refine⟨.n,_,rfl,?_,?_,⟨B09,fun b e=>by simp[aA] at e⟩⟩
  ·rw[e2]
   exact ij.nil _ _
  rw[e1,e3,e4];refine⟨oZ,none,0,pa,pc,?_,mY _ _,gG.nil _ _ _,LU⟩;rw[hv];rfl
 obtain rfl:qn=k:=by omega
 have hfull:ps.take qn=ps:=List.take_of_length_le (by have:=HG.out.2.2.1;omega);have hrun:=HS.out.run;have hst:=HS.out.st;rw[hfull] at hrun hst;obtain⟨v,L,cnt,ra,rc,LR,D,c1,c2,hlr,RR,kB,hgB⟩:=hst;have z0:wr.cell? ⟨w4.heap.size,0,none⟩=some (.I):=aa _ _ 0 _ 47 (0,0) kB;have zv:wr.cell? ⟨w3.heap.size,4,none⟩=some v:=aa _ _ 4 _ 158 (0,0) D.blk;have HKV:Hid (ah wr.drew w4.heap.size 0 [.I,.z,.n,.U,.U,.U,.I,.U,.V,.V,.V,.n,.slice ra qn rc]∧wr.drew.cell? ⟨w3.heap.size,4,none⟩=some v):=cE ⟨dD kB,zv⟩;have kr:=HS.out.res;have ht:wr.there (w.heap.size+2) 0 13:=ei kr cN;have HT:=cE (cD ht kr);have gu:Hid ((#[.I,.z,.n,.U,.U,.U,.I,.U,.V,.V,.V,.n,.slice ra qn rc]:Array aD).all (·.oneCell')=true):=cE (by simp[au]);have HE:=cE (cD hrun (cD D (cD RR hlr)));clear hfull hrun D RR kB hgB kr ht zv hlr c1 c2 hlt hk;go_wp2_with fail
 refine af (S:=fun w'=>ah w' w4.heap.size 0 [.I,.z,.n,.U,.U,.U,.I,.U,.V,.V,.V,.n,.slice ra qn rc]∧w'.cell? ⟨w3.heap.size,4,none⟩=some v) cK HKV.out (fun hS=>?_);have yv:∀w',(ah w' w4.heap.size 0 [.I,.z,.n,.U,.U,.U,.I,.U,.V,.V,.V,.n,.slice ra qn rc]∧w'.cell? ⟨w3.heap.size,4,none⟩=some v)→w'.cell? ⟨w3.heap.size,4,none⟩=some v:=fun w' h=>h.2
 refine tI 0 rfl hS ?_;refine tI 1 rfl hS ?_;refine tI 2 rfl hS ?_;refine tJ 3 rfl hS yv ?_;simp only[cQ];refine tL 4 rfl hS 47 (.tmp 10) w4.heap.size 0 [.I,.z,.n,.U,.U,.U,.I,.U,.V,.V,.V,.n,.slice ra qn rc] (fun _ h=>h.1) underlying47 mg.out ?_;refine tI 5 rfl hS ?_;simp only[cQ];refine sI 6 rfl 47 (.tmp 7) (.tmp 69) (w.heap.size+2) 0 #[.I,.z,.n,.U,.U,.U,.I,.U,.V,.V,.V,.n,.slice ra qn rc] HT.out.1 mg.out gu.out ⟨mS hS.1 (by have:=H5.out.2.2.2.2.2.2.2;omega),(BJ (by have:=H5.out.2.2.2.2.2.2.2;show w3.heap.size≠w.heap.size+2;omega) hS.2)⟩ ?_;simp only[cQ];refine ay cK ?_ _;go_wp2_with fail
 refine aK (gw rfl _ _ (w.heap.size+2) 0 [.I,.z,.n,.U,.U,.U,.I,.U,.V,.V,.V,.n,.slice ra qn rc] _ rfl (an _ _ _ _ HT.out.1) underlying47 rfl mg.out) rfl ?_;obtain⟨hrun,D,RR,hlr⟩:=HE.out;have h3w:=H5.out.2.2.2.2.2.2.2.2;have Ot:=HS.out.bl;have K9:Kept (·=w.heap.size+2) wr.drew (wr.drew.setCells (w.heap.size+2) 0 [.I,.z,.n,.U,.U,.U,.I,.U,.V,.V,.V,.n,.slice ra qn rc]):=Kept.setCells (S:=(·=w.heap.size+2)) (p:=w.heap.size+2) rfl _ 0 (Kept.refl _ wr.drew);have B09:cF w (wr.drew.setCells (w.heap.size+2) 0 [.I,.z,.n,.U,.U,.U,.I,.U,.V,.V,.V,.n,.slice ra qn rc]):=Ot.drew.trans (K9.below Ot.size (fun j e=>by have e:j=w.heap.size+2:=e;omega));obtain⟨e1,e2,e3,e4⟩:=abf (root:=root) (at_:=at_) (M:=M) (who:=⟨s,n⟩) (l:=⟨ok,op,ld,lv,ls,le⟩) (ps:=ps) HG.out.2.1 hrun;have D9:=(D.below (ag _ wr).drew).iJ (w:=wr.drew) HT.out.2 kC cM cM cM cL K9;have RR9:=(RR.dP (Kept.eH (S:=fun _=>False) (ag _ wr).drew) (fun _ _ _ h=>h) (fun _ _ h=>h)).dP K9 (fun j hj _ e=>by have e:j=w.heap.size+2:=e;have:=hj.1;omega) (fun j hj e=>by have e:j=w.heap.size+2:=e;have:=(RR.own.lt j hj).1;omega);obtain⟨pa,pc,hv,LU⟩:=RR9.Xw (lo':=fQ w.heap.size) (fun j hj _=>by have:=hj.1;show w.heap.size≤j;omega) (fun j hj=>by show w.heap.size≤j;omega);refine⟨_,_,rfl,?_,?_,⟨B09,fun b e=>(D9.row.own.lt b e).1⟩⟩
 ·rw[e2]
  exact(D9.row.out D9.A8).weak (fun _ h=>.inr h)
 rw[e1,e3,e4];refine⟨oZ,none,0,pa,pc,?_,mY _ _,gG.nil _ _ _,LU⟩;rw[hv];rfl
end
end
