/- Part 32. -/
import Derived.Test.YtdpaejbaoefdjaaGreatDoorG28
import Derived.Test.YtdpaejbaoefdjaaGreatDoorG26
open Go renaming cell_of_row → aa,wp_region_held_drew → af,heap_alloc_new → aj,wpAnyH_done → ay,lt_of_block → aB,Value → aD,World → aE,wpList_load_mid → aG,bodyPost_ret → aK,wpList_store_mid → aM,Calls → aN,heap_alloc_old → aS,Addr → aY
open Go.RowKit.Below renaming refl → ag
open Go.World renaming rangeAt → ah,rangeAt_setCells_same → an,frozen? → aL,setCell → aP
open Go.Value renaming slice → aq,oneCell' → au,ownBlock → aA
open List renaming nil_append → aC,cons_append → aF,replicate → aO,mem_cons_self → aV,length_append → aW,take_add_one → aX
open Array renaming getElem?_modify → aH
open Nat renaming le_trans → aI,lt_of_lt_of_le → aJ,le_refl → aU
open Go.IntKind renaming wrap_u64 → aQ
open Option renaming isSome_iff_exists → aR
open Int renaming le_trans → aT
namespace Go.Proofs.YtdpaejbaoefdjaaGreatDoor
open Go.Proofs.Tryz
set_option maxRecDepth 100000
set_option maxHeartbeats 64000000
set_option linter.unusedVariables false
set_option linter.unusedSimpArgs false
section
open Go.RowKit Go.Shelf Go.MapKept Go.ChangeMaps Go.Maps Go.Sort
def Nj(w1:aE)(un:Nat)(v:aD)(wc:aE):Prop:=∃B,v=.p B∧wc.cell? ⟨B,3,none⟩=some (.u (un:Int))∧cE w1 wc
theorem EP{w1 w:aE}{B:Nat}{sa:Option aY}{sn sc:Nat}{s1 s2 s4 s5 s6 s7 s8:Int}{un:Nat}(ht:w.there B 0 9)(hb:cE w1 w)(hB:w1.heap.size≤B):
  Nj w1 un (.p B) (w.setCells B 0 [.slice sa sn sc,.u s1,.u s2,.u (un:Int),.i s4,.u s5,.v s6,.v s7,.v s8]):=by
 have K:cQ (·=B) w (w.setCells B 0 [.slice sa sn sc,.u s1,.u s2,.u (un:Int),.i s4,.u s5,.v s6,.v s7,.v s8]):=cQ.setCells (S:=(·=B)) (p:=B) rfl _ 0 (cQ.refl _ w);exact⟨B,rfl,(an w B 0 [.slice sa sn sc,.u s1,.u s2,.u (un:Int),.i s4,.u s5,.v s6,.v s7,.v s8] ht) 3 _ rfl,hb.trans (K.below hb.size (fun k e=>by have e:k=B:=e;omega))⟩
def nZ(M:List (cO×Nd)):Prop:=∀x∈M,0≤x.2.num.next∧x.2.num.next<4294967296
theorem AM:∀(k u:Nat),u<10 ^ (k+1)→Lib.nDigits u≤k+1
 |0,u,h=>by rw[Lib.nDigits_small (by simpa using h)];exact aU _
 |k+1,u,h=>by
  by_cases h10:u<10
  ·rw[Lib.nDigits_small h10];omega
  ·rw[Lib.nDigits_big h10]
   have:=AM k (u / 10) (by rw[Nat.pow_succ] at h;omega);omega
theorem Bu{u:Nat}(h:u<4294967296):(Lib.decDigits u).length≤10:=by
 rw[Lib.decDigits_length];exact AM 9 u cK
theorem GM{M:List (cO×Nd)}(h:nZ M)(p:cO):∃un:Nat,(un:Int)=((dL p M).getD iQ).num.next∧un<4294967296:=by
 cases hg:dL p M with
 |none=>exact⟨0,rfl,by decide⟩
 |some nd=>
 obtain⟨x,hx,rfl⟩:=pM hg;have:=h x hx;exact⟨x.2.num.next.toNat,by show((x.2.num.next.toNat:Nat):Int)=x.2.num.next;omega,by omega⟩
theorem EH{p:cO}(h:p.length≤1000):(dm p).length≤maxLen:=by
 have:=kD p h;unfold maxLen;omega
theorem jq{w w':aE}(h:iz w)(hb:cE w w'):iz w':=by
 unfold iz Lib.TabIs World.var? at*;cases hg:prog.globalNamed "internal/strconv.uint64pow10" with
 |none=>simp[hg] at h
 |some g=>
 rw[hg] at h;rw[Option.bind_some] at h⊢;have hlt:g<w.heap.size:=by
  rcases Nat.lt_or_ge g w.heap.size with h1|h1
  ·exact h1
  rw[Array.getElem?_eq_none h1] at h;cases h
 rw[hb.block g hlt];exact h
theorem Nf(x y:ByteArray)(z:cO)(hz:x++y=bs z)(hl:z.length≤2000)(W:aE):(Op.stringOp .add x y).run prog W=.ok (.s z) W:=by
 have h:(x++y).size=x.size+y.size:=ByteArray.size_append;rw[hz,fL] at h;rw[run_string_add_sum W x y cK,hz]
section
variable{X:Nat→Prop}{w0 w:World}{d b:Nat}{cP:cO}{cS cnt:Int}{M:List (cO×Nd)}{dh:eF}{v:Value}{L:List dr}{E:List gm}
theorem dx.F2(D:dx X w0 w d b cP cS cnt M dh v L E)(hm:dM w)(p:cO)(hp:p.length≤1000):
  aN prog 293 #[.p d,.s p] w fun e w'=>(∃(u:Nd) (r:Raw),dL (dm p) M=some u∧e=.returned (dr.val ⟨dm p,false,r⟩)∧Reads w' (fU w.heap.size) r (Cg u cS)∧cE w w')∨(dL (dm p) M=none∧e=fR 31∧cE w w'):=by
 cases h:dL (dm p) M with
 |none=>exact(D.Er hm p hp h).mono fun e w' h=>.inr ⟨rfl,h.1,h.2⟩
 |some u=>
 refine(D.uU hm p hp h).mono fun e w' hh=>?_
 obtain⟨r,g1,g2,g3,_⟩:=hh;exact .inl ⟨u,r,rfl,g1,g2,g3⟩
end
theorem gE{P:Program}{fn:Func}{p u:Tmp}{ty:TypeId}(h:fn.results=#[.tmp u,.cell p ty])(tmps:Array aD)(w:aE)(b o:Nat)(cs:List aD)(d:TypeDesc)
  (hp:tmps.getD p undef=.pointer (some ⟨b,o,none⟩)) (hc:w.rangeAt b o cs) (hu:P.underlying ty=some d) (hd:d.isRow=true) (hi:(P.info? ty).map (·.size)=some cs.length):
  (results fn tmps).run P w=.ok (.tuple #[tmps.getD u undef,.agg cs.toArray]) w:=by
 have hp':tmps[p]?.getD undef=.pointer (some ⟨b,o,none⟩):=by simpa using hp
 simp[results,h,hp',asAddr,run_loadVar_mid w b o ty cs d hc hu hd hi]
def yW(o:fh):Prop:=1≤o.kind∧o.kind≤6∧o.cW.length≤900∧o.data.length≤1000000
def wF(X:Nat→Prop)(w:aE)(pa:Option aY)(Q:List fh):Prop:=∀(k:Nat) p,Q[k]?=some p→∃g off,∃r:di,pa=some ⟨g,off,none⟩∧g<w.heap.size∧w.rangeAt g (off+k*7) r.cells∧fo w (fun k=>k<w.heap.size∧¬X k) r p∧yW p
def Ce(dh:eF):aD:=.agg #[.i dh.dy,.u dh.n]
def Nu(X:Nat→Prop)(w:aE)(cP:cO)(M:List (cO×Nd))(cS:Int)(dh:eF)(ce:Int)(o:mH)(e:Ending)(w':aE):Prop:=
 ∃u1 u2,e=.returned (.tuple #[u1,u2])∧iB X w' u1 (zA cP M cS dh ce o)∧fQ w' (fU w.heap.size) u2 (Ca cP M cS dh ce o) (PE cP M cS dh ce o) (PC cP M cS dh ce o)∧cE w w'∧∀b,u1.ownBlock=some b→w.heap.size≤b
def jC(X:Nat→Prop)(w:aE)(b:Nat)(cP:cO)(cS:Int)(M:List (cO×Nd)):Prop:=∃lo mb,dN w lo b mb cP cS M∧∀k,lo k→¬X k
section
variable{X:Nat→Prop}{w0 w w':World}{b:Nat}{cP:cO}{cS:Int}{M:List (cO×Nd)}
theorem jC.off(R:TR w0 w b cP cS M):jC (fun _=>False) w b cP cS M:=by
 obtain⟨lo,mb,T⟩:=R.tree;exact⟨lo,mb,T,fun _ _ h=>h⟩
theorem jC.below(F:jC X w b cP cS M)(hb:cE w w'):jC X w' b cP cS M:=by
 obtain⟨lo,mb,T,h⟩:=F;exact⟨lo,mb,T.below hb,h⟩
theorem jC.clone(R:TR w0 w b cP cS M)(F:jC X w b cP cS M):
  aN prog 51 #[.p b] w fun e w'=>∃b',e=.returned (.p b')∧(TR w0 w' b' cP cS M∧jC X w' b' cP cS M)∧w.heap.size≤b'∧cE w w':=by
 obtain⟨lo,mb,T,hlo⟩:=F;exact T.mW.mono fun e w' ⟨b',s9,he,T',h1,h2,h3,h4⟩=>⟨b',he,⟨⟨⟨lo,s9,T'⟩,R.bl.trans (h4.mono R.bl.size),aI R.bl.size h1,R.fit,R.rl,R.hm⟩,lo,s9,T',hlo⟩,h1,h4⟩
theorem jC.apply(R:TR w0 w b cP cS M)(F:jC X w b cP cS M)(hX:∀k,X k→k<w.heap.size)(h0:0≤cS)(h1:cS≤1000000000)(ao:Option aY)(cap:Nat)(L:List dr)(E:List gm){lr:Nat→Prop}
  (hL:ff w lr L E) (hA:gH w w.heap.size ao L) (hE:∀e∈E,BS e) (hbig:L.length≤1000000):
  aN prog 249 #[.p b,.slice ao L.length cap] w fun e w'=>e=.returned (.i (dU cP M E).1)∧(TR w0 w' b cP (atA cP cS M E) (nC cP M E)∧jC X w' b cP (atA cP cS M E) (nC cP M E))∧cQ (·=b) w w':=by
 obtain⟨lo,mb,T,hlo⟩:=F;refine(T.sF R.max R.fit R.rl h0 h1 ao cap L E hL hA hE hbig).mono ?_;rintro e w' ⟨s9,rfl,T',hk⟩;refine⟨rfl,⟨⟨⟨_,s9,T'⟩,R.bl.trans (hk.below R.bl.size (fun k h=>by have:=R.hb;omega)),R.hb,R.fit.dQ hE,R.rl,R.hm⟩,_,s9,T',fun k h e=>?_⟩,hk⟩;rcases h with h|h
 ·exact hlo k h e
 have:=hX k e;have h:w.heap.size≤k:=h;omega
end
theorem Bt(w:aE)(ok:Int)(op:cO)(oa:Option aY)(on oc:Nat)(ov:Int)(os oe:Bool)(qa:Option aY)(qn qc:Nat)(s n:Int):
  ∃w1,w1=((w.alloc (.cells #[.b ok,.s op,.slice oa on oc,.i ov,.bool os,.bool oe,.slice qa qn qc] 35)).alloc (.cells #[.i s,.u n] 31)).alloc (.cells #[.I,.z,.n,.U,.U,.U,.I,.U,.V,.V,.V,.n,.n] 47)∧cE w w1∧w1.heap.size=w.heap.size+3
   ∧w1.heap[w.heap.size]?=some (.cells #[.b ok,.s op,.slice oa on oc,.i ov,.bool os,.bool oe,.slice qa qn qc] 35 (0,0))∧w1.heap[w.heap.size+1]?=some (.cells #[.i s,.u n] 31 (0,0))∧w1.heap[w.heap.size+2]?=some (.cells #[.I,.z,.n,.U,.U,.U,.I,.U,.V,.V,.V,.n,.n] 47 (0,0)):=by
 refine⟨_,rfl,cT (cT (cT (ag _ w) _) _) _,by simp,?_,?_,?_⟩
 ·exact(aS _ _ (by simp;omega)).trans ((aS _ _ cM).trans (aj w _))
 ·have:=aj (w.alloc (.cells #[.b ok,.s op,.slice oa on oc,.i ov,.bool os,.bool oe,.slice qa qn qc] 35)) (.cells #[.i s,.u n] 31)
  rw[World.size_alloc] at this;exact(aS _ _ cM).trans this
 have:=aj ((w.alloc (.cells #[.b ok,.s op,.slice oa on oc,.i ov,.bool os,.bool oe,.slice qa qn qc] 35)).alloc (.cells #[.i s,.u n] 31)) (.cells #[.I,.z,.n,.U,.U,.U,.I,.U,.V,.V,.V,.n,.n] 47);simpa using this
section
variable{w0 w:World}{b:Nat}{cP:cO}{cS:Int}{M:List (cO×Nd)}
theorem aaX{X:Nat→Prop}(r:di)(o:mH)(dh:eF)(ce:Int)(HC:∀w',cE w w'→aN prog 29 #[r.val] w' (oF w' ce))(hce:ce≠0):
  aN prog 30 #[.p b,r.val,Ce dh] w (Nu X w cP M cS dh ce o):=by
 obtain⟨ok,op,oa,on,oc,ov,os,oe,qa,qn,qc⟩:=r;obtain⟨s,n⟩:=dh;unfold di.val di.cells Ce;unfold di.val di.cells at HC;dsimp only at HC⊢;obtain⟨w1,hw1,dB,hs1,k0,k1,k2⟩:=Bt w ok op oa on oc ov os oe qa qn qc s n;have sG:Hid (cG 35 7):=cD cJ;have mh:Hid (cG 47 13):=cD iH;have za:Hid (cG 31 2):=cD cJ;have H1:=cD (cC dB (cC hs1 (cC k0 (cC k1 (cC k2 hw1)))));have FL:=cD (dJ k0);have Qw:=HC w1 dB;have FW:=cD Qw;have tce:(ce != 0)=true:=by simpa using hce
 have I5:=cD hce;clear HC dB hs1 k0 k1 k2 Qw hce;go_enter func30,ntmps30
 go_wp2_with fail
 rw[←hw1];refine FW.out.mono ?_;rintro e w2 ⟨rfl,B2⟩;have dI:w2.heap[w.heap.size+2]?=some (.cells #[.I,.z,.n,.U,.U,.U,.I,.U,.V,.V,.V,.n,.n] 47 (0,0)):=(B2.block _ (by have:=H1.out.2.1;omega)).trans H1.out.2.2.2.2.1;have ht2:w2.there (w.heap.size+2) 0 13:=eE dI cM;have H2:=cD (cC B2 (cC dI ht2));clear B2 dI ht2;have gG:Hid ((#[.i ce,.z,.n,.U,.U,.U,.I,.U,.V,.V,.V,.n,.n]:Array aD).all (·.oneCell')=true):=cD (by simp[au]);go_wp2_with (refine aM rfl 47 (.tmp 7) (.tmp 22) rfl (w.heap.size+2) 0 #[.i ce,.z,.n,.U,.U,.U,.I,.U,.V,.V,.V,.n,.n] rfl rfl H2.out.2.2 mh.out gG.out ?_)
 refine aK (gE rfl _ _ (w.heap.size+2) 0 [.i ce,.z,.n,.U,.U,.U,.I,.U,.V,.V,.V,.n,.n] _ rfl (an _ _ _ _ H2.out.2.2) underlying47 rfl mh.out) rfl ?_;have K9:cQ (·=w.heap.size+2) w2 (w2.setCells (w.heap.size+2) 0 [.i ce,.z,.n,.U,.U,.U,.I,.U,.V,.V,.V,.n,.n]):=cQ.setCells (S:=(·=w.heap.size+2)) (p:=w.heap.size+2) rfl _ 0 (cQ.refl _ w2);have ue:cE w w2:=H1.out.1.trans (H2.out.1.mono H1.out.1.size);have e1:Ca cP M cS ⟨s,n⟩ ce o=ce:=by unfold Ca;rw[if_pos I5.out]
 have e2:zA cP M cS ⟨s,n⟩ ce o=[]:=by unfold zA;rw[e1,if_pos I5.out]
 have e3:PE cP M cS ⟨s,n⟩ ce o=lX:=by unfold PE;rw[if_neg (fun h=>I5.out h.1)]
 have e4:PC cP M cS ⟨s,n⟩ ce o=[]:=by unfold PC;rw[if_neg (fun h=>I5.out h.1)]
 refine⟨.n,_,rfl,?_,?_,ue.trans (K9.below ue.size (fun k e=>by have e:k=w.heap.size+2:=e;omega)),fun b e=>by simp[aA] at e⟩
 ·rw[e2]
  exact iB.nil _ _
 rw[e1,e3,e4];exact⟨oS,none,0,none,0,rfl,mX _ _,gK.nil _ _ _,jZ.nil _ _ _⟩
end
section
variable{X:Nat→Prop}{w0 w:World}{d b:Nat}{cP:cO}{cS cnt:Int}{M:List (cO×Nd)}{dh:eF}{v:Value}{L:List dr}{E:List gm}
theorem dx.Lh(D:dx X w0 w d b cP cS cnt M dh v L E)(h0:0≤cnt)(h1:cnt≤100000)(hsz:E.length≤900)(NX:nZ M)(PT:iz w)(r:di)(o:fh){lo:Nat→Prop}(hr:fo w lo r o)(hlo:∀k,lo k→v.ownBlock≠some k∧¬X k)(hp:o.cW.length≤900)(hdl:o.data.length≤1000000)(hu:eB o.cW cP=true){x:Int}(hx:gB cP M dh o=x):
  aN prog 255 #[.p d,r.val] w fun e w'=>(x=0∧kV X w0 w d b cP cS (cnt+1) M (qq M cS dh o) dh v (E++jw M cS dh o) ⟨eG M o,xy o.data cS dh o.mV,[]⟩ e w')∨(x≠0∧mD w x e w'):=by
 obtain⟨ok,op,oa,on,oc,ov,os,oe,pa,pn,pc⟩:=r;obtain⟨Ja,Uz,gr,over,sK,sL⟩:=o;obtain⟨ws,wn⟩:=dh;obtain⟨q1,q2,q3,q4,q5,q6,q7,q8⟩:=hr;dsimp only at q1 q2 q3 q4 q5 q6 q7 q8 hp hdl hu;subst q1 q2 q3 q4 q5;unfold di.val di.cells;dsimp only;obtain⟨w1,hw1,dB,hs1,k0,k1,kX⟩:=nA w ok op oa on oc ov os oe pa pn pc;have sG:Hid (cG 35 7):=cD cJ;have mh:Hid (cG 47 13):=cD iH;have D1:=D.below dB;have y1:∀w',cE w1 w'→w'.cell? ⟨w.heap.size,1,none⟩=some (.s op):=fun w' hb=>(hb.cell (p:=⟨w.heap.size,1,none⟩) (by show w.heap.size<w1.heap.size;omega)).trans (kX 1 _ rfl)
 have y4:∀w',cE w1 w'→w'.cell? ⟨w.heap.size,4,none⟩=some (.bool os):=fun w' hb=>(hb.cell (p:=⟨w.heap.size,4,none⟩) (by show w.heap.size<w1.heap.size;omega)).trans (kX 4 _ rfl)
 have y5:∀w',cE w1 w'→w'.cell? ⟨w.heap.size,5,none⟩=some (.bool oe):=fun w' hb=>(hb.cell (p:=⟨w.heap.size,5,none⟩) (by show w.heap.size<w1.heap.size;omega)).trans (kX 5 _ rfl)
 have y2:∀w',cE w1 w'→w'.cell? ⟨w.heap.size,2,none⟩=some (.slice oa on oc):=fun w' hb=>(hb.cell (p:=⟨w.heap.size,2,none⟩) (by show w.heap.size<w1.heap.size;omega)).trans (kX 2 _ rfl)
 have y0:∀w',cE w1 w'→w'.cell? ⟨d,0,none⟩=some (.p b):=fun w' hb=>(hb.cell (p:=⟨d,0,none⟩) D1.lt).trans D1.c0
 have ya:∀w',cE w1 w'→w'.cell? ⟨d,1,none⟩=some (.v cS):=fun w' hb=>(hb.cell (p:=⟨d,1,none⟩) D1.lt).trans D1.c1
 have yw2:∀w',cE w1 w'→w'.cell? ⟨d,2,none⟩=some (.i ws):=fun w' hb=>(hb.cell (p:=⟨d,2,none⟩) D1.lt).trans (aa _ _ 2 _ 158 (0,0) D1.blk)
 have yw3:∀w',cE w1 w'→w'.cell? ⟨d,3,none⟩=some (.u wn):=fun w' hb=>(hb.cell (p:=⟨d,3,none⟩) D1.lt).trans (aa _ _ 3 _ 158 (0,0) D1.blk)
 have HRT:Hid (∀w',cE w1 w'→aN prog 184 #[.p b] w' fun e w''=>e=.returned (.s cP)∧w'=w''):=cD fun w' hb=>by
  obtain⟨lo,mb,T⟩:=(D1.below hb).tree.tree;exact T.Aq.mono fun e w'' ⟨h1,h2⟩=>⟨h1,h2.symm⟩
 have HX:=cD hx;obtain⟨t1,ht1⟩:=cF (decide (op=cP));have te:=(J9 ht1.symm).1;have yZ:=cD ht1;have HD:=cD (cC D (cC D1 (cC h0 (cC h1 (cC hsz (cC NX (cC PT (cC hlo (cC hdl hu)))))))));have HO:=cD (cC q6 (cC q7 q8));have hdl:=D.lt;have HDL:=cD hdl;have HP:=cD hp;have H1:=cD (cC dB (cC hs1 (cC k0 (cC k1 hw1))));clear D D1 hx ht1 h0 h1 hsz NX PT hlo hdl hu q6 q7 q8 dB hs1 k0 k1 hw1 kX;go_enter func255,ntmps255
 go_wp2_with fail
 rw[←H1.out.2.2.2.2];go_cut [] (fun wc=>Hid (cE w1 wc∧(os=false→op≠cP)))
 case first=>
  cases os
  ·refine af (S:=fun w'=>cE w1 w') cJ (ag _ w1).drew (fun hS=>?_)
   generalize w1.drew=wd at hS⊢;refine tI 0 rfl hS ?_;refine tJ 1 rfl hS y4 ?_;refine tI 2 rfl hS ?_;refine tI 3 rfl hS ?_;simp only[cR];refine tJ 4 rfl hS y1 ?_;refine tI 5 rfl hS ?_;refine tI 6 rfl hS ?_;refine tI 7 rfl hS ?_;simp only[cR];refine tJ 8 rfl hS y0 ?_;simp only[cR];refine cI 9 rfl ?_;refine(HRT.out _ hS).mono ?_;rintro e w2 ⟨rfl,rfl⟩;refine⟨hS,?_⟩
   try dsimp only
   simp only[cR];refine tI 10 rfl hS ?_;refine tI 11 rfl hS ?_;simp only[cR];refine cI 12 rfl ?_;refine(iY _ _ _).mono ?_;rintro e w2 ⟨rfl,(⟨ht,rfl⟩|⟨ht,rfl⟩)⟩
   rotate_left
   ·have HF:=cD (cC ht hS)
    clear ht;unfold fR
    try dsimp only
    go_wp2_with fail
    have e3:x=32:=by
     rw[←HX.out];have e1:t1=true:=by simpa using HF.out.1
     have e2:op=cP:=by have:=yZ.out;rw[e1] at this;simpa using this.symm
     unfold gB;rw[if_pos e2];rfl
    subst e3;exact⟨rfl,.inr ⟨by decide,rfl,H1.out.1.trans (HF.out.2.mono H1.out.1.size)⟩⟩
   have hne:op≠cP:=by
    have ht1:t1=false:=by simpa using ht
    have:=yZ.out;rw[ht1] at this;simpa using this.symm
   refine⟨hS,?_⟩
   try dsimp only
   simp only[cR];refine ay cJ ?_ _;have HSH:=cD (cC hS hne);clear hS hne ht;go_wp2_with fail
   go_meet
   case rel=>exact cD ⟨HSH.out.1,fun _=>HSH.out.2⟩
  refine af (S:=fun w'=>cE w1 w') cJ (ag _ w1).drew (fun hS=>?_);generalize w1.drew=wd at hS⊢;refine tI 0 rfl hS ?_;refine tJ 1 rfl hS y4 ?_;refine tI 2 rfl hS ?_;refine tN 3 rfl hS ?_;simp only[cR];refine tN 4 rfl hS ?_;refine tN 5 rfl hS ?_;refine tN 6 rfl hS ?_;refine tN 7 rfl hS ?_;simp only[cR];refine tN 8 rfl hS ?_;refine tN 9 rfl hS ?_;refine tN 10 rfl hS ?_;refine tI 11 rfl hS ?_;simp only[cR];refine cI 12 rfl ?_;refine(iY _ _ _).mono ?_;rintro e w2 ⟨rfl,(⟨ht,rfl⟩|⟨ht,rfl⟩)⟩
  rotate_left
  ·exact absurd ht cL
  clear ht;refine⟨hS,?_⟩
  try dsimp only
  simp only[cR];refine ay cJ ?_ _;have HSH:=cD hS;clear hS;go_wp2_with fail
  go_meet
  case rel=>exact cD ⟨HSH.out,fun h=>by cases h⟩
 case rest=>
 obtain⟨oR,Jb⟩:=hcut.out;have HNR:=cD Jb;clear hcut Jb;go_wp2_with fail
 refine af (S:=fun w'=>cE w1 w') cJ oR.drew (fun hS=>?_);generalize wc.drew=wk at hS⊢;clear oR;refine tI 0 rfl hS ?_;refine tJ 1 rfl hS y1 ?_;refine tI 2 rfl hS ?_;refine tI 3 rfl hS ?_;simp only[cR];refine tI 4 rfl hS ?_;refine tJ 5 rfl hS y0 ?_;simp only[cR];refine cI 6 rfl ?_;refine(HRT.out _ hS).mono ?_;rintro e w2 ⟨rfl,rfl⟩;refine⟨hS,?_⟩
 try dsimp only
 simp only[cR];refine tI 7 rfl hS ?_;simp only[cR];refine cI 8 rfl ?_;refine(iY _ _ _).mono ?_;rintro e w2 ⟨rfl,(⟨ht,rfl⟩|⟨ht,rfl⟩)⟩
 rotate_left
 ·have HF:=cD (cC ht hS)
  clear ht;unfold fR
  try dsimp only
  go_wp2_with fail
  have e3:x=30:=by
   rw[←HX.out];have e1:t1=true:=by simpa using HF.out.1
   have e2:op=cP:=by have:=yZ.out;rw[e1] at this;simpa using this.symm
   have e3:os=true:=by
    cases h:os with
    |true=>rfl
    |false=>exact absurd e2 (HNR.out h)
   unfold gB;rw[if_pos e2];dsimp only;rw[e3];rfl
  subst e3;exact⟨rfl,.inr ⟨by decide,rfl,H1.out.1.trans (HF.out.2.mono H1.out.1.size)⟩⟩
 have ht1:t1=false:=by simpa using ht
 subst ht1;have hne:Hid (op≠cP):=cD (by have:=yZ.out;simpa using this.symm);refine⟨hS,?_⟩
 try dsimp only
 simp only[cR];refine ay cJ ?_ _;clear ht te yZ;have z1:=y1 _ hS;have z4:=y4 _ hS;have HS:=cD hS;clear hS;obtain⟨un,hun⟩:∃un:Nat,(un:Int)=((dL (dm op) M).getD iQ).num.next∧un<4294967296:=GM HD.out.2.2.2.2.2.1 _;have LM:=cD hun;clear hun;obtain⟨P,hP⟩:=cF (eG M ⟨ok,op,gr,ov,os,oe⟩);have I4:Hid (eG M ⟨ok,op,gr,ov,os,oe⟩=P):=cD hP.symm;have YK:Hid (P.length≤1000):=cD (by
  rw[hP];unfold eG;have:=HP.out;split
  ·unfold PG
   dsimp only;rw[←LM.out.1,Int.toNat_natCast];simp;have:=Bu LM.out.2;omega
  dsimp only;omega)
 clear hP;go_upto_if 38 with fail
 go_cut [5] (fun v wc=>v=.s P∧Hid (cE w1 wc))
 case first=>
  cases os
  ·go_wp2_with fail
   go_meet
   case rel=>exact⟨by rw[←I4.out];unfold eG;rw[if_neg cM],HS⟩
  skip
  have HPA:Hid (∀w',cE w1 w'→aN prog 54 #[.s op] w' fun e w''=>e=.returned (.string (bs (dm op)))∧cE w' w''):=cD fun w' hb=>mM w' (HD.out.2.1.below hb).tree.max op (by have:=HP.out;omega) w' (ag _ _)
  have HGP:Hid (∀w',cE w1 w'→aN prog 112 #[.p b,.string (bs (dm op))] w' fun e w''=>∃(r:Raw) (t:Bool),e=.returned (.tuple #[r.val,.bool t])∧r.num.next=(un:Int)∧cE w' w''):=cD fun w' hb=>((HD.out.2.1.below hb).tree.get (dm op) (EH (by have:=HP.out;omega))).mono fun e w'' ⟨r,h1,h2,h3,_⟩=>⟨r,_,h1,by rw[h2.num,LM.out.1],h3⟩
  have abk:Hid (cG 44 9):=cD cJ;go_wp2_with fail
  go_cut [6] (fun v wc=>Nj w1 un v wc)
  case first=>
   refine af (S:=fun w'=>cE w1 w') cJ HS.out.drew (fun hS=>?_);generalize wk.drew=wr at hS⊢;refine tI 0 rfl hS ?_;refine tI 1 rfl hS ?_;refine tI 2 rfl hS ?_;refine tJ 3 rfl hS y0 ?_;simp only[cR];refine tI 4 rfl hS ?_;refine tJ 5 rfl hS y1 ?_;simp only[cR];refine jR 6 11 rfl rfl cJ cN cN _ _ (by go_simp<;>first|rfl|exact⟨rfl,rfl⟩) (.p wr.heap.size) (wr.alloc (.cells #[.n,.U,.U,.U,.I,.U,.V,.V,.V] 44)) (by go_simp<;>first|rfl|exact⟨rfl,rfl⟩) ?_ (hS.alloc hS.size _) ?_
   ·refine(HPA.out _ hS).mono ?_
    rintro e w2 ⟨rfl,B2'⟩;have B2:=hS.trans (B2'.mono hS.size);refine⟨B2,?_⟩
    try dsimp only
    simp only[cR];refine jR 7 11 rfl rfl cJ cN cN _ _ (by go_simp<;>first|rfl|exact⟨rfl,rfl⟩) (.p w2.heap.size) (w2.alloc (.cells #[.n,.U,.U,.U,.I,.U,.V,.V,.V] 44)) (by go_simp<;>first|rfl|exact⟨rfl,rfl⟩) ?_ (B2.alloc B2.size _) ?_
    ·refine(HGP.out _ B2).mono ?_
     rintro e w3 ⟨⟨sa,sn,sc,⟨s1,s2,s3,s4,s5,s6,s7,s8⟩⟩,tb,rfl,hs3,wP⟩;have hs3:s3=(un:Int):=hs3;subst hs3;unfold Raw.val Raw.cells eU.cells
     try dsimp only
     have B3:=B2.trans (wP.mono B2.size);refine⟨B3,?_⟩
     try dsimp only
     simp only[cR];refine tI 8 rfl B3 ?_;refine tI 9 rfl B3 ?_;refine tI 10 rfl B3 ?_;simp only[cR];have B4:=B3.alloc B3.size (.cells #[.n,.U,.U,.U,.I,.U,.V,.V,.V] 44);refine gI 11 rfl (.p w3.heap.size) (w3.alloc (.cells #[.n,.U,.U,.U,.I,.U,.V,.V,.V] 44)) B4 ?_;simp only[cR];have ht:=(eE (aj w3 _) (by simp):(w3.alloc (.cells #[.n,.U,.U,.U,.I,.U,.V,.V,.V] 44)).there w3.heap.size 0 9);have BR:Hid ((#[.slice sa sn sc,.u s1,.u s2,.u (un:Int),.i s4,.u s5,.v s6,.v s7,.v s8]:Array aD).all (·.oneCell')=true):=cD (by simp[au]);have MW:=(EP (sa:=sa) (sn:=sn) (sc:=sc) (s1:=s1) (s2:=s2) (s4:=s4) (s5:=s5) (s6:=s6) (s7:=s7) (s8:=s8) (un:=un) ht B4 B3.size);obtain⟨w9,nH⟩:=cF ((w3.alloc (.cells #[.n,.U,.U,.U,.I,.U,.V,.V,.V] 44)).setCells w3.heap.size 0 [.slice sa sn sc,.u s1,.u s2,.u (un:Int),.i s4,.u s5,.v s6,.v s7,.v s8]);have jP:cE w1 w9:=by rw[nH];exact MW.choose_spec.2.2
     rw[←nH] at MW;refine sI 12 rfl 44 (.tmp 6) (.tmp 48) w3.heap.size 0 #[.slice sa sn sc,.u s1,.u s2,.u (un:Int),.i s4,.u s5,.v s6,.v s7,.v s8] ht abk.out BR.out (by rw[←nH];exact jP) ?_;simp only[cR];rw[←nH];clear nH;refine tI 13 rfl jP ?_;simp only[cR];refine ay cJ ?_ _;go_wp2_with fail
     go_meet
     case rel=>exact MW
    skip
    simp only[cR];refine cI 7 rfl ?_;have B3:=B2.alloc B2.size (.cells #[.n,.U,.U,.U,.I,.U,.V,.V,.V] 44);refine(HGP.out _ B3).mono ?_;rintro e w4 ⟨⟨sa,sn,sc,⟨s1,s2,s3,s4,s5,s6,s7,s8⟩⟩,tb,rfl,hs3,QH⟩;have hs3:s3=(un:Int):=hs3;subst hs3;unfold Raw.val Raw.cells eU.cells
    try dsimp only
    have B4:=B3.trans (QH.mono B3.size);refine⟨B4,?_⟩
    try dsimp only
    simp only[cR];refine tI 8 rfl B4 ?_;refine tI 9 rfl B4 ?_;refine tI 10 rfl B4 ?_;simp only[cR];have ht:=(eE ((QH.block _ cM).trans (aj w2 _)) (by simp):w4.there w2.heap.size 0 9);have BR:Hid ((#[.slice sa sn sc,.u s1,.u s2,.u (un:Int),.i s4,.u s5,.v s6,.v s7,.v s8]:Array aD).all (·.oneCell')=true):=cD (by simp[au]);have MW:=(EP (sa:=sa) (sn:=sn) (sc:=sc) (s1:=s1) (s2:=s2) (s4:=s4) (s5:=s5) (s6:=s6) (s7:=s7) (s8:=s8) (un:=un) ht B4 B2.size);obtain⟨w9,nH⟩:=cF (w4.setCells w2.heap.size 0 [.slice sa sn sc,.u s1,.u s2,.u (un:Int),.i s4,.u s5,.v s6,.v s7,.v s8]);have jP:cE w1 w9:=by rw[nH];exact MW.choose_spec.2.2
    rw[←nH] at MW;refine sI 12 rfl 44 (.tmp 6) (.tmp 48) w2.heap.size 0 #[.slice sa sn sc,.u s1,.u s2,.u (un:Int),.i s4,.u s5,.v s6,.v s7,.v s8] ht abk.out BR.out (by rw[←nH];exact jP) ?_;simp only[cR];rw[←nH];clear nH;refine tI 13 rfl jP ?_;simp only[cR];refine ay cJ ?_ _;go_wp2_with fail
    go_meet
    case rel=>exact MW
   skip
   simp only[cR];refine cI 6 rfl ?_;have B2:=hS.alloc hS.size (.cells #[.n,.U,.U,.U,.I,.U,.V,.V,.V] 44);refine(HPA.out _ B2).mono ?_;rintro e w3 ⟨rfl,wP⟩;have B3:=B2.trans (wP.mono B2.size);refine⟨B3,?_⟩
   try dsimp only
   simp only[cR];refine cI 7 rfl ?_;refine(HGP.out _ B3).mono ?_;rintro e w4 ⟨⟨sa,sn,sc,⟨s1,s2,s3,s4,s5,s6,s7,s8⟩⟩,tb,rfl,hs3,QH⟩;have hs3:s3=(un:Int):=hs3;subst hs3;unfold Raw.val Raw.cells eU.cells
   try dsimp only
   have B4:=B3.trans (QH.mono B3.size);refine⟨B4,?_⟩
   try dsimp only
   simp only[cR];refine tI 8 rfl B4 ?_;refine tI 9 rfl B4 ?_;refine tI 10 rfl B4 ?_;simp only[cR];have ht:=(eE ((QH.block _ (by have:=wP.size;simp at this;omega)).trans ((wP.block _ cM).trans (aj wr _))) (by simp):w4.there wr.heap.size 0 9);have BR:Hid ((#[.slice sa sn sc,.u s1,.u s2,.u (un:Int),.i s4,.u s5,.v s6,.v s7,.v s8]:Array aD).all (·.oneCell')=true):=cD (by simp[au]);have MW:=(EP (sa:=sa) (sn:=sn) (sc:=sc) (s1:=s1) (s2:=s2) (s4:=s4) (s5:=s5) (s6:=s6) (s7:=s7) (s8:=s8) (un:=un) ht B4 hS.size);obtain⟨w9,nH⟩:=cF (w4.setCells wr.heap.size 0 [.slice sa sn sc,.u s1,.u s2,.u (un:Int),.i s4,.u s5,.v s6,.v s7,.v s8]);have jP:cE w1 w9:=by rw[nH];exact MW.choose_spec.2.2
   rw[←nH] at MW;refine sI 12 rfl 44 (.tmp 6) (.tmp 48) wr.heap.size 0 #[.slice sa sn sc,.u s1,.u s2,.u (un:Int),.i s4,.u s5,.v s6,.v s7,.v s8] ht abk.out BR.out (by rw[←nH];exact jP) ?_;simp only[cR];rw[←nH];clear nH;refine tI 13 rfl jP ?_;simp only[cR];refine ay cJ ?_ _;go_wp2_with fail
   go_meet
   case rel=>exact MW
  case rest=>
  obtain⟨nb,rfl,hnb,hbc⟩:=hcut;have tu:∀_:True,IntKind.u64.wrap (un:Int)=(un:Int):=fun _=>by rw[aQ];have:=LM.out.2;omega
  have HFM:=cD (WM un (by have:=LM.out.2;omega) wc (fun _=>jq HD.out.2.2.2.2.2.2.1 (H1.out.1.trans (hbc.mono H1.out.1.size))));have uA:=cD hbc;clear hbc z1 z4;go_wp2_with fail
  refine HFM.out.mono ?_;rintro e wd ⟨rfl,Bd'⟩;have Bd:=uA.out.trans (Bd'.mono uA.out.size);obtain⟨dg,hdg⟩:=cF (Lib.decDigits un);rw[←hdg];have Yc:dg.length≤10:=by rw[hdg];exact Bu LM.out.2
  have t10:∀_:True,IntKind.i64.wrap (10 - ((bs dg).size:Int))=((10 - dg.length:Nat):Int):=fun _=>by rw[fL,IntWalk.i64_in _ cK];omega
  have aj8:=cD (Gq (10 - dg.length) cK wd);have HBD:=cD Bd;have HDG:=cD (cC hdg Yc);clear Bd' Bd hnb tu hdg Yc;go_wp2_with fail
  refine aj8.out.mono ?_;rintro e we ⟨rfl,Be'⟩;have Be:=HBD.out.trans (Be'.mono HBD.out.size);have hP:P=op++(aO (10 - dg.length) 48++dg):=by
   rw[←I4.out];unfold eG PG;rw[if_pos rfl];dsimp only;rw[←LM.out.1,Int.toNat_natCast,←HDG.out.1]
  have hPl:=YK.out;have ha1:=Nf (bs (aO (10 - dg.length) 48)) (bs dg) (aO (10 - dg.length) 48++dg) (TE _ _) (by simp;have:=HDG.out.2;omega);have ha2:=Nf (bs op) (bs (aO (10 - dg.length) 48++dg)) P (by rw[TE,hP]) cK;have HS2:=cD Be;clear Be' Be hP t10 hPl;go_wp2_with fail
  go_meet
  case rel=>exact⟨rfl,HS2⟩
 case rest=>
 obtain⟨rfl,oR⟩:=hcut;obtain⟨w2b,ah0⟩:∃w,w=wc:=⟨_,rfl⟩;subst ah0;have hPl:=YK.out;have FW:=cD (rz w1 HD.out.2.1.tree.max P hPl);clear z1 z4;go_wp2_with fail
 refine(FW.out _ oR.out).mono ?_;rintro e w2 ⟨rfl,B2⟩;obtain⟨t3,Kr⟩:=cF ((dG P).isSome);have tc:(uo P==0)=t3:=by unfold uo;rw[Kr];cases (dG P).isSome<;>rfl
 have LN:=cD (cC Kr B2);clear Kr B2 oR;go_wp2_with fail
 refine(iY _ _ _).mono ?_;rintro e w2' ⟨rfl,(⟨ht,rfl⟩|⟨ht,rfl⟩)⟩
 rotate_left
 ·have HF:=cD (cC ht LN.out.2)
  clear ht;unfold fR
  try dsimp only
  go_wp2_with fail
  have e3:x=30:=by
   rw[←HX.out];unfold gB;rw[if_neg hne.out,I4.out,if_pos (by rw[←LN.out.1];exact HF.out.1)]
  subst e3;exact⟨rfl,.inr ⟨by decide,rfl,H1.out.1.trans (HF.out.2.mono H1.out.1.size)⟩⟩
 have Nq:Hid ((dG P).isSome=true):=cD (LN.out.1.symm.trans ht);have HP1:=cD (AL (M:=M) (o:=⟨ok,op,gr,ov,os,oe⟩) HD.out.2.2.2.2.2.2.2.2.2 hne.out (by rw[I4.out];exact Nq.out));subst ht;clear tc;have HTO:=cD ((HD.out.2.1.below LN.out.2).F2 (HD.out.2.1.below LN.out.2).tree.max P hPl);go_wp2_with fail
 refine HTO.out.mono ?_;rintro e w3 (⟨u,⟨ra,rn,rc,⟨r1,r2,r3,r4,r5,r6,r7,r8⟩⟩,hu,rfl,hrd,wP⟩|⟨ht,rfl,wP⟩)
 rotate_left
 ·have B3:=LN.out.2.trans (wP.mono LN.out.2.size)
  clear wP;have HF:=cD (cC ht B3);clear ht;unfold fR
  try dsimp only
  go_wp2_with fail
  have e3:x=31:=by
   rw[←HX.out];unfold gB;rw[if_neg hne.out,I4.out,if_neg (by rw[Nq.out];simp),HF.out.1]
  subst e3;exact⟨rfl,.inr ⟨by decide,rfl,H1.out.1.trans (HF.out.2.mono H1.out.1.size)⟩⟩
 have B3:=LN.out.2.trans (wP.mono LN.out.2.size);unfold dr.val dr.cells Raw.cells eU.cells;dsimp only[aF,aC];obtain⟨w4,lP⟩:=cF (w3.alloc (.cells #[.string (bs (dm P)),.F,.slice ra rn rc,.u r1,.u r2,.u r3,.i r4,.u r5,.v r6,.v r7,.v r8] 93));have QH:cE w3 w4:=by rw[lP];exact cT (ag _ w3) _
 have k4:w4.heap[w3.heap.size]?=some (.cells #[.string (bs (dm P)),.F,.slice ra rn rc,.u r1,.u r2,.u r3,.i r4,.u r5,.v r6,.v r7,.v r8] 93 (0,0)):=by rw[lP];exact aj w3 _
 have hs4:w4.heap.size=w3.heap.size+1:=by rw[lP];simp
 have B4:=B3.trans (QH.mono B3.size);have x6:w4.cell? ⟨w3.heap.size,6,none⟩=some (.i r4):=aa _ _ 6 _ 93 (0,0) k4;have x7:w4.cell? ⟨w3.heap.size,7,none⟩=some (.u r5):=aa _ _ 7 _ 93 (0,0) k4;have HU:=cD (cC hu (cC hrd (cC wP B3)));have H4:=cD (cC lP (cC QH (cC k4 (cC hs4 B4))));clear hu hrd wP B3 QH k4 hs4 B4 lP;obtain⟨t4,ht4⟩:=cF (iq r4 r5);have q4:=fun W:aE=>Mj r4 r5 W
 rw[←ht4] at q4;have HT4:=cD ht4;clear ht4;go_wp2_with fail
 rw[←H4.out.1];have HUN:Hid (t4=iq u.num.os u.num.on):=cD (by
  have h4:=congrArg eU.os HU.out.2.1.num;have h5:=congrArg eU.on HU.out.2.1.num;have h4:r4=u.num.os:=h4;have h5:r5=u.num.on:=h5;rw[HT4.out,h4,h5])
 refine(iY _ _ _).mono ?_;rintro e w5 ⟨rfl,(⟨ht,rfl⟩|⟨ht,rfl⟩)⟩
 rotate_left
 ·have HF:=cD (cC ht H4.out.2.2.2.2)
  clear ht;unfold fR
  try dsimp only
  go_wp2_with fail
  have e3:x=34:=by
   rw[←HX.out];unfold gB;rw[if_neg hne.out,I4.out,if_neg (by rw[Nq.out];simp),HU.out.1];dsimp only;rw[if_pos (by rw[←HUN.out];exact HF.out.1)]
  subst e3;exact⟨rfl,.inr ⟨by decide,rfl,H1.out.1.trans (HF.out.2.mono H1.out.1.size)⟩⟩
 have HNS:Hid (iq u.num.os u.num.on=true):=cD (HUN.out.symm.trans ht);subst ht;clear q4;have z5:=y5 _ H4.out.2.2.2.2;go_upto_region 11 with fail
 go_cut [] (fun wc=>w4=wc∧Hid (oe=true→iq ws wn=false))
 case first=>
  cases oe
  ·go_wp2_with fail
   refine(iY _ _ _).mono ?_;rintro e w5 ⟨rfl,(⟨ht,rfl⟩|⟨ht,rfl⟩)⟩
   rotate_left
   ·exact absurd ht cL
   clear z5 ht;go_wp2_with fail
   go_meet
   case rel=>exact⟨rfl,cD (fun h=>by cases h)⟩
  obtain⟨t5,Qo⟩:=cF (!iq ws wn);have q5:=fun W:aE=>Mg ws wn W
  rw[←Qo] at q5;have z0:=y0 _ H4.out.2.2.2.2;have z2:=yw2 _ H4.out.2.2.2.2;have z3:=yw3 _ H4.out.2.2.2.2;have Uf:=cD Qo;clear Qo;go_wp2_with fail
  refine(iY _ _ _).mono ?_;rintro e w5 ⟨rfl,(⟨ht,rfl⟩|⟨ht,rfl⟩)⟩
  rotate_left
  ·have HF:=cD (cC ht H4.out.2.2.2.2)
   clear ht;unfold fR
   try dsimp only
   go_wp2_with fail
   have e3:x=63:=by
    rw[←HX.out];unfold gB;rw[if_neg hne.out,I4.out,if_neg (by rw[Nq.out];simp),HU.out.1];dsimp only;rw[if_neg (by rw[HNS.out];simp),if_pos ⟨rfl,by have:=Uf.out;rw[HF.out.1] at this;simpa using this.symm⟩]
   subst e3;exact⟨rfl,.inr ⟨by decide,rfl,H1.out.1.trans (HF.out.2.mono H1.out.1.size)⟩⟩
  have Qi:Hid (iq ws wn=false):=cD (by have:=Uf.out;rw[ht] at this;simpa using this.symm);clear q5 z2 z3 z0 z5;subst ht;go_wp2_with fail
  go_meet
  case rel=>exact⟨rfl,cD (fun _=>Qi.out)⟩
 case rest=>
 obtain⟨rfl,Qi⟩:=hcut;clear z5;have z0:=y0 _ H4.out.2.2.2.2;have HGT:=cD ((HD.out.2.1.below H4.out.2.2.2.2).tree.get P (by unfold maxLen;omega));go_wp2_with fail
 refine HGT.out.mono ?_;rintro e w5 ⟨⟨sa,sn,sc,⟨s1,s2,s3,s4,s5,s6,s7,s8⟩⟩,rfl,_,YV,_⟩;obtain⟨t6,Qn⟩:=cF ((dL P M).isSome);rw[←Qn];have UR:=cD Qn;clear Qn z0;unfold Raw.val Raw.cells eU.cells;dsimp only;obtain⟨w6,mU⟩:=cF (w5.alloc (.cells #[.slice sa sn sc,.u s1,.u s2,.u s3,.i s4,.u s5,.v s6,.v s7,.v s8] 44));have B46:cE w4 w6:=by rw[mU];exact cT YV _
 have B6:=H4.out.2.2.2.2.trans (B46.mono H4.out.2.2.2.2.size);have H6:=cD (cC mU (cC B46 B6));clear mU B46 B6 YV;go_wp2_with fail
 rw[←H6.out.1];refine(iY _ _ _).mono ?_;rintro e w7 ⟨rfl,(⟨ht,rfl⟩|⟨ht,rfl⟩)⟩
 rotate_left
 ·have HF:=cD (cC ht H6.out.2.2)
  clear ht;unfold fR
  try dsimp only
  go_wp2_with fail
  have e3:x=32:=by
   rw[←HX.out];unfold gB;rw[if_neg hne.out,I4.out,if_neg (by rw[Nq.out];simp),HU.out.1];dsimp only;rw[if_neg (by rw[HNS.out];simp),if_neg (fun h=>absurd h.2 (by rw[Qi.out h.1];simp)),if_pos (by rw[←UR.out];simpa using HF.out.1)]
  subst e3;exact⟨rfl,.inr ⟨by decide,rfl,H1.out.1.trans (HF.out.2.mono H1.out.1.size)⟩⟩
 have HNI:Hid ((dL P M).isSome=false):=cD (by
  have h2:t6=false:=by simpa using ht
  rw[←UR.out];exact h2)
 clear ht;have z0:=y0 _ H6.out.2.2;have HPT:=cD ((HD.out.2.1.below H6.out.2.2).tree.paths);obtain⟨ml,hml⟩:=cF M.length;rw[←hml] at HPT;obtain⟨t7,UG⟩:=cF (decide (ml<48));have tm:decide ((ml:Int)<48)=t7:=by rw[UG];by_cases h:ml<48<;>simp[h]<;>omega
 have tm2:decide (ml<48)=t7:=UG.symm;have HT7:=cD (cC UG hml);clear UG hml;go_wp2_with fail
 refine HPT.out.mono ?_;rintro e w7p ⟨ka,kc,rfl,_,B7'⟩;have B7:=H6.out.2.2.trans (B7'.mono H6.out.2.2.size);have B47:=H6.out.2.1.trans (B7'.mono H6.out.2.1.size);have Xv:=cD (cC B47 B7);clear B7' B47 B7 z0;go_wp2_with fail
 refine(iY _ _ _).mono ?_;rintro e w8 ⟨rfl,(⟨ht,rfl⟩|⟨ht,rfl⟩)⟩
 rotate_left
 ·have HF:=cD (cC ht Xv.out.2)
  clear ht;unfold fR
  try dsimp only
  go_wp2_with fail
  have e3:x=36:=by
   rw[←HX.out];unfold gB;rw[if_neg hne.out,I4.out,if_neg (by rw[Nq.out];simp),HU.out.1];dsimp only;have h1:=HT7.out.1;rw[HF.out.1] at h1;have h2:¬ml<48:=by simpa using h1.symm
   have h3:=HT7.out.2;rw[if_neg (by rw[HNS.out];simp),if_neg (fun h=>absurd h.2 (by rw[Qi.out h.1];simp)),if_neg (by rw[HNI.out];simp),if_pos cK]
  subst e3;exact⟨rfl,.inr ⟨by decide,rfl,H1.out.1.trans (HF.out.2.mono H1.out.1.size)⟩⟩
 have hx0:Hid (x=0∧gB cP M ⟨ws,wn⟩ ⟨ok,op,gr,ov,os,oe⟩=0):=cD (by
  have e3:gB cP M ⟨ws,wn⟩ ⟨ok,op,gr,ov,os,oe⟩=0:=by
   unfold gB;rw[if_neg hne.out,I4.out,if_neg (by rw[Nq.out];simp),HU.out.1];dsimp only;have h1:=HT7.out.1;rw[ht] at h1;have h2:ml<48:=by simpa using h1.symm
   have h3:=HT7.out.2;rw[if_neg (by rw[HNS.out];simp),if_neg (fun h=>absurd h.2 (by rw[Qi.out h.1];simp)),if_neg (by rw[HNI.out];simp),if_neg cK]
  exact⟨by rw[←HX.out];exact e3,e3⟩)
 clear ht tm tm2;have z4:=y4 _ Xv.out.2;have ZK:=(Xv.out.1.block w3.heap.size (by have:=H4.out.2.2.2.1;omega)).trans H4.out.2.2.1;have af5:cE w3 w7p:=H4.out.2.1.trans (Xv.out.1.mono H4.out.2.1.size);have Xr:=cD (cC ZK af5);clear ZK af5;go_upto_if 108 with fail
 go_cut [] (fun wc=>Hid (∃kv:Int,(os=true→kv=IntKind.u32.wrap (r3+1))∧(os=false→kv=r3)∧wc.heap[w3.heap.size]?=some (.cells #[.string (bs (dm P)),.F,.slice ra rn rc,.u r1,.u r2,.u kv,.i r4,.u r5,.v r6,.v r7,.v r8] 93 (0,0))∧cE w3 wc∧cE w1 wc∧w4.heap.size≤wc.heap.size))
 case first=>
  cases os
  ·go_wp2_with fail
   go_meet
   case rel=>exact cD ⟨r3,fun h=>(by cases h),fun _=>rfl,Xr.out.1,Xr.out.2,Xv.out.2,Xv.out.1.size⟩
  have ZK:=Xr.out.1;have x5:w7p.cell? ⟨w3.heap.size,5,none⟩=some (.u r3):=aa _ _ 5 _ 93 (0,0) ZK;have f5:w7p.frozen? ⟨w3.heap.size,5,none⟩=false:=by simp[aL,ZK]
  obtain⟨kv,hkv⟩:=cF (IntKind.u32.wrap (r3+1));have tk:∀_:True,IntKind.u32.wrap (r3+1)=kv:=fun _=>hkv.symm
  have YO:=cD hkv;obtain⟨w7,pI⟩:=cF (w7p.setCell ⟨w3.heap.size,5,none⟩ (.u kv));have k7:w7.heap[w3.heap.size]?=some (.cells #[.string (bs (dm P)),.F,.slice ra rn rc,.u r1,.u r2,.u kv,.i r4,.u r5,.v r6,.v r7,.v r8] 93 (0,0)):=by
   rw[pI];simp[aP,aH,ZK]
  have K7:cQ (·=w3.heap.size) w7p w7:=by rw[pI];exact cQ.setCell (S:=(·=w3.heap.size)) (p:=⟨w3.heap.size,5,none⟩) (cQ.refl _ w7p) rfl _
  have H7:=cD (cC k7 K7);have Jj:=cD pI;clear hkv pI ZK K7 k7;go_wp2_with fail
  rw[←Jj.out];go_meet
  case rel=>exact cD ⟨kv,fun _=>YO.out,fun h=>(by cases h),H7.out.1,Xr.out.2.trans (H7.out.2.below Xr.out.2.size (fun k e=>by have e:k=w3.heap.size:=e;omega)),Xv.out.2.trans (H7.out.2.below Xv.out.2.size (fun k e=>by have e:k=w3.heap.size:=e;have:=HU.out.2.2.2.size;omega)),aI Xv.out.1.size H7.out.2.size⟩
 case rest=>
 obtain⟨kv,ad2,ad3,k7,q37,Zs,q47⟩:=hcut.out;obtain⟨w7,pI⟩:∃w,w=wc:=⟨_,rfl⟩;subst pI;have YO:=cD (cC ad2 ad3);have H7:=cD (cC q37 (cC Zs q47));clear ad2 ad3 q37 Zs q47 z4;go_wp2_with fail
 have z5:=y5 _ H7.out.2.1;refine af (S:=Below w1.heap.size w1) cJ H7.out.2.1.drew (fun hS=>?_);refine tI 0 rfl hS ?_;refine tJ 1 rfl hS y2 ?_;refine tI 2 rfl hS ?_;refine tI 3 rfl hS ?_;simp only[cR];refine tI 4 rfl hS ?_;refine tJ 5 rfl hS ya ?_;refine tI 6 rfl hS ?_;refine tI 7 rfl hS ?_;simp only[cR];refine tI 8 rfl hS ?_;refine tJ 9 rfl hS ya ?_;refine tI 10 rfl hS ?_;refine tI 11 rfl hS ?_;simp only[cR];refine tI 12 rfl hS ?_;refine tJ 13 rfl hS ya ?_;refine tI 14 rfl hS ?_;simp only[cR];obtain⟨w8,uC⟩:=cF ((w7.alloc (.cells #[.n,.U,.U,.U,.I,.U,.V,.V,.V] 44)).drew);have B8':cE w7 w8:=by rw[uC];exact(cT (ag _ w7) _).drew
 have B8:cE w1 w8:=H7.out.2.1.trans (B8'.mono H7.out.2.1.size);have k8:w8.heap[w7.heap.size]?=some (.cells #[.n,.U,.U,.U,.I,.U,.V,.V,.V] 44 (0,0)):=by rw[uC];exact aj w7 _
 have MM:w8.heap.size=w7.heap.size+1:=by rw[uC];simp
 have Ee:=cD uC;refine sB 15 rfl cJ cN (.p w7.heap.size) w8 (by rw[Ee.out];go_simp<;>first|rfl|exact⟨rfl,rfl⟩) B8 ?_;clear uC;simp only[cR];have ads:=H7.out.2.1.size;obtain⟨w9,nH⟩:=cF (w8.setCells w7.heap.size 0 [.slice oa on oc,.U,.U,.U,.I,.U,.v cS,.v cS,.v cS]);have K9:cQ (·=w7.heap.size) w8 w9:=by rw[nH];exact cQ.setCells (S:=(·=w7.heap.size)) (p:=w7.heap.size) rfl _ 0 (cQ.refl _ w8)
 have k9:w9.heap[w7.heap.size]?=some (.cells #[.slice oa on oc,.U,.U,.U,.I,.U,.v cS,.v cS,.v cS] 44 (0,0)):=by rw[nH];exact gq k8 rfl
 have B9:cE w1 w9:=B8.trans (K9.below B8.size (fun k e=>by have e:k=w7.heap.size:=e;omega));have fm:Hid (cG 44 9):=cD cJ;have ht8:w8.there w7.heap.size 0 9:=eE k8 cM;have akj:Hid ((#[.slice oa on oc,.U,.U,.U,.I,.U,.v cS,.v cS,.v cS]:Array aD).all (·.oneCell')=true):=cD (by simp[au]);refine sI 16 rfl 44 (.tmp 12) (.tmp 129) w7.heap.size 0 #[.slice oa on oc,.U,.U,.U,.I,.U,.v cS,.v cS,.v cS] ht8 fm.out akj.out (by rw[←nH];exact B9) ?_;simp only[cR];rw[←nH];refine ay cJ ?_ _;have kp9:w9.heap[w3.heap.size]?=some (.cells #[.string (bs (dm P)),.F,.slice ra rn rc,.u r1,.u r2,.u kv,.i r4,.u r5,.v r6,.v r7,.v r8] 93 (0,0)):=(K9.block w3.heap.size (by have:=B8'.size;have:=aB k7;omega) (fun e=>by have e:w3.heap.size=w7.heap.size:=e;have:=aB k7;omega)).trans ((B8'.block w3.heap.size (aB k7)).trans k7);have H9:=cD (cC B9 (cC kp9 (cC B8' (cC MM K9))));have z5:=y5 _ B9;clear nH K9 ht8 B8 B8' k8 MM hS kp9 ads k7;have QF:=cD (cC B9 k9);clear B9 k9;go_upto_if 131 with fail
 go_cut [] (fun wc=>Hid (∃es en:Int,(oe=true→es=ws∧en=wn)∧(oe=false→es=0∧en=0)∧cE w1 wc∧wc.heap[w3.heap.size]?=some (.cells #[.string (bs (dm P)),.F,.slice ra rn rc,.u r1,.u r2,.u kv,.i r4,.u r5,.v r6,.v r7,.v r8] 93 (0,0))∧wc.heap[w7.heap.size]?=some (.cells #[.slice oa on oc,.U,.U,.U,.i es,.u en,.v cS,.v cS,.v cS] 44 (0,0))∧cQ (·=w7.heap.size) w9 wc))
 case first=>
  cases oe
  ·go_wp2_with fail
   go_meet
   case rel=>exact cD ⟨0,0,fun h=>(by cases h),fun _=>⟨rfl,rfl⟩,QF.out.1,H9.out.2.1,QF.out.2,cQ.refl _ _⟩
  have B9:=QF.out.1;have k9:=QF.out.2;have z0:=yw2 _ B9;have z1:=yw3 _ B9;have c4:w9.cell? ⟨w7.heap.size,4,none⟩=some (.I):=aa _ _ 4 _ 44 (0,0) k9;have c5:w9.cell? ⟨w7.heap.size,5,none⟩=some (.U):=aa _ _ 5 _ 44 (0,0) k9;have f4:w9.frozen? ⟨w7.heap.size,4,none⟩=false:=by simp[aL,k9]
  have f5:w9.frozen? ⟨w7.heap.size,5,none⟩=false:=by simp[aL,k9]
  obtain⟨lR,xH⟩:=cF ((w9.setCell ⟨w7.heap.size,4,none⟩ (.i ws)).setCell ⟨w7.heap.size,5,none⟩ (.u wn));have ZL:lR.heap[w7.heap.size]?=some (.cells #[.slice oa on oc,.U,.U,.U,.i ws,.u wn,.v cS,.v cS,.v cS] 44 (0,0)):=by rw[xH];simp[aP,aH,k9]
  have K10:cQ (·=w7.heap.size) w9 lR:=by rw[xH];exact cQ.setCell (S:=(·=w7.heap.size)) (p:=⟨w7.heap.size,5,none⟩) (cQ.setCell (S:=(·=w7.heap.size)) (p:=⟨w7.heap.size,4,none⟩) (cQ.refl _ w9) rfl _) rfl _
  have B10:cE w1 lR:=B9.trans (K10.below B9.size (fun k e=>by have e:k=w7.heap.size:=e;have:=H7.out.2.1.size;omega));have ac0:lR.heap[w3.heap.size]?=some (.cells #[.string (bs (dm P)),.F,.slice ra rn rc,.u r1,.u r2,.u kv,.i r4,.u r5,.v r6,.v r7,.v r8] 93 (0,0)):=(K10.block w3.heap.size (aB H9.out.2.1) (fun e=>by have e:w3.heap.size=w7.heap.size:=e;have:=H7.out.2.2;have:=H4.out.2.2.2.1;omega)).trans H9.out.2.1;have Xj:=cD xH;have I6:=cD (cC B10 (cC ac0 (cC ZL K10)));clear B9 k9 xH ZL K10 B10 ac0;go_wp2_with fail
  rw[←Xj.out];go_meet
  case rel=>exact cD ⟨ws,wn,fun _=>⟨rfl,rfl⟩,fun h=>(by cases h),I6.out⟩
 case rest=>
 obtain⟨es,en,he1,he0,q10⟩:=hcut.out;obtain⟨lR,xH⟩:∃w,w=wc:=⟨_,rfl⟩;subst xH;have HES:=cD (cC he1 he0);have I6:=cD q10;clear he1 he0 q10 z5;have HRP:=cD (dJ I6.out.2.1);have HRN:=cD (dJ I6.out.2.2.1);have Cb:Hid (cG 93 11):=cD cJ;obtain⟨sU,qF⟩:=cF (lR.alloc (.cells #[.string (bs (dm P)),.F,.slice ra rn rc,.u r1,.u r2,.u kv,.i r4,.u r5,.v r6,.v r7,.v r8,.s P,.F,.slice oa on oc,.U,.U,.U,.i es,.u en,.v cS,.v cS,.v cS] 93));have I1:=cD qF;clear qF;go_wp2_with (first
  |(refine aG rfl 93 (.tmp 9) rfl w3.heap.size 0 rfl [.string (bs (dm P)),.F,.slice ra rn rc,.u r1,.u r2,.u kv,.i r4,.u r5,.v r6,.v r7,.v r8] _ HRP.out underlying93 rfl Cb.out ?_)
  |(refine aG rfl 44 (.tmp 12) rfl w7.heap.size 0 rfl [.slice oa on oc,.U,.U,.U,.i es,.u en,.v cS,.v cS,.v cS] _ HRN.out underlying44 rfl fm.out ?_))
 rw[←I1.out];have aaB:cE lR sU:=by rw[I1.out];exact cT (ag _ lR) _
 have B11:cE w1 sU:=I6.out.1.trans (aaB.mono I6.out.1.size);have hs1:=H1.out.2.1;have s12:=LN.out.2.size;have s34:=H4.out.2.2.2.1;have s47:=H7.out.2.2;have s23:=HU.out.2.2.1.size;have B37:cE w3 w7:=H7.out.1;have adD:Reads w7 (fun k=>w2.heap.size≤k∧k<w3.heap.size) ⟨ra,rn,rc,⟨r1,r2,r3,r4,r5,r6,r7,r8⟩⟩ (Cg u cS):=(HU.out.2.1.monoB (fun k h1 h2=>⟨h1,h2⟩)).dZ (cQ.eT (S:=fun _=>False) (B37.mono (aU _))) (fun _ _ _ h=>h);have afe:cQ (fun k=>k=w7.heap.size) w8 lR:=H9.out.2.2.2.2.trans I6.out.2.2.2;have XT:Reads lR (fun k=>w2.heap.size≤k∧k<w3.heap.size) ⟨ra,rn,rc,⟨r1,r2,r3,r4,r5,r6,r7,r8⟩⟩ (Cg u cS):=(adD.below H9.out.2.2.1).dZ afe (fun k h1 _ e=>by have e:k=w7.heap.size:=e;omega);obtain⟨ND,hND⟩:∃ND,ND=if os=true then GO (Cg u cS) else Cg u cS:=⟨_,rfl⟩
 have adj:Reads sU (fun k=>v.ownBlock≠some k∧¬X k) ⟨ra,rn,rc,⟨r1,r2,kv,r4,r5,r6,r7,r8⟩⟩ ND:=by
  have h1:=(XT.below aaB).mono (lo':=fun k=>v.ownBlock≠some k∧¬X k) (fun k hk=>⟨fun e=>by have:=(HD.out.1.row.own.lt k e).2;omega,fun e=>by have:=HD.out.1.old k e;omega⟩);rw[hND];cases hos:os with
  |true=>exact⟨by rw[if_pos rfl,show(GO (Cg u cS)).num={(Cg u cS).num with next:=vM (Cg u cS).num.next} from rfl,←h1.num,YO.out.1 hos];rfl,h1.len,h1.data,h1.nil⟩
  |false=>rw[if_neg cL,YO.out.2 hos];exact h1
 have M1:cE w sU:=H1.out.1.trans (B11.mono H1.out.1.size);have hnew:Reads sU (fun k=>v.ownBlock≠some k∧¬X k) ⟨oa,on,oc,⟨0,0,0,es,en,cS,cS,cS⟩⟩ (xy gr cS ⟨ws,wn⟩ oe):=⟨by unfold xy;cases hoe:oe with|true=>(obtain⟨h1,h2⟩:=HES.out.1 hoe;rw[h1,h2];rfl)|false=>(obtain⟨h1,h2⟩:=HES.out.2 hoe;rw[h1,h2];rfl),HO.out.1,((HO.out.2.1.mono (HD.out.2.2.2.2.2.2.2.1) (aU _)).below M1).mono (fun _ h=>h) M1.size,HO.out.2.2⟩;have Yn:gH sU sU.heap.size (some ⟨lR.heap.size,0,none⟩) [⟨dm P,false,⟨ra,rn,rc,⟨r1,r2,kv,r4,r5,r6,r7,r8⟩⟩⟩,⟨P,false,⟨oa,on,oc,⟨0,0,0,es,en,cS,cS,cS⟩⟩⟩]:=by rw[I1.out];exact It lR ⟨dm P,false,⟨ra,rn,rc,⟨r1,r2,kv,r4,r5,r6,r7,r8⟩⟩⟩ ⟨P,false,⟨oa,on,oc,⟨0,0,0,es,en,cS,cS,cS⟩⟩⟩
 have Yg:jw M cS ⟨ws,wn⟩ ⟨ok,op,gr,ov,os,oe⟩=[⟨dm P,false,ND⟩,⟨P,false,xy gr cS ⟨ws,wn⟩ oe⟩]:=by
  unfold jw mN;rw[I4.out,HU.out.1,hND];rfl
 have Ym:ff sU (fun k=>v.ownBlock≠some k∧¬X k) [⟨dm P,false,⟨ra,rn,rc,⟨r1,r2,kv,r4,r5,r6,r7,r8⟩⟩⟩,⟨P,false,⟨oa,on,oc,⟨0,0,0,es,en,cS,cS,cS⟩⟩⟩] (jw M cS ⟨ws,wn⟩ ⟨ok,op,gr,ov,os,oe⟩):=by
  rw[Yg];exact G4 ⟨rfl,rfl,adj⟩ ⟨rfl,rfl,hnew⟩
 have hfx:=yO (cS:=cS) HD.out.1.inv HD.out.2.2.2.2.2.2.2.2.2 hx0.out.2;have D11:=HD.out.2.1.below B11;obtain⟨LP,hLP⟩:=aR.1 Nq.out;have h64:=ym hLP;have DH:=D11.Fs HD.out.2.2.1 HD.out.2.2.2.1 (gb:=lR.heap.size) (go_:=0) (n:=2) (c:=2) (Lx:=[⟨dm P,false,⟨ra,rn,rc,⟨r1,r2,kv,r4,r5,r6,r7,r8⟩⟩⟩,⟨P,false,⟨oa,on,oc,⟨0,0,0,es,en,cS,cS,cS⟩⟩⟩]) (Ex:=jw M cS ⟨ws,wn⟩ ⟨ok,op,gr,ov,os,oe⟩) rfl Yn (by have h2:=HD.out.1.tree.lt;have h3:=I6.out.1.size;omega) Ym (fun k h=>h)
  (by
   intro y hy;rw[Yg] at hy;simp at hy;rcases hy with rfl|rfl
   ·exact⟨HD.out.1.tree.fit.key HU.out.1,by show ND.data.length≤1000000;rw[show ND.data=u.data by rw[hND];split<;>rfl];exact HD.out.1.tree.fit.node HU.out.1⟩
   exact⟨by show P.length≤1000;omega,HD.out.2.2.2.2.2.2.2.2.1⟩) hfx (by have:=HD.out.1.len;have:=HD.out.2.2.2.2.1;omega)
 have Xs:=cD DH;have Up:=cD (cC B11 M1);clear aaB B37 adD afe XT adj M1 hnew Yn Yg Ym hfx D11 DH B11 hLP h64 s12 s34 s47 s23 hs1;refine Xs.out.mono ?_;rintro e rY ⟨rfl,⟨v12,YU,G12⟩,QA⟩;have jt:b<w.heap.size:=HD.out.1.tree.lt;have hvl:∀k,v.ownBlock=some k→k<w.heap.size:=fun k h=>(HD.out.1.row.own.lt k h).2
 have hnk:∀k,w.heap.size≤k→¬(k=b∨k=d∨v.ownBlock=some k):=fun k hk h=>by
  rcases h with h|h|h
  ·omega
  ·have:=HDL.out;omega
  have:=hvl k h;omega
 have hs1:=H1.out.2.1;have alz:=Up.out.1.size;have k12:=(QA.block (w.heap.size+1) cK (hnk _ (Nat.le_succ _))).trans ((Up.out.1.block (w.heap.size+1) cK).trans H1.out.2.2.2.1);have ajg:P.length≤1000:=hPl;have htl:=YU.si P ajg (nd:=xy gr cS ⟨ws,wn⟩ oe) (by unfold qq;rw[I4.out];exact kR _ _ _);have HTL:=cD htl;have aik:=QA.size;have Jp:=cD (cC YU (cC QA (cC k12 (cC hnk G12))));clear htl YU QA k12 hnk G12 jt hvl;go_wp2_with fail
 refine HTL.out.mono ?_;rintro e w13 ⟨⟨sa,sn,sc,⟨s1,s2,s3,s4,s5,s6,s7,s8⟩⟩,rfl,Sw,YW,Fe⟩;unfold eL Raw.cells eU.cells;dsimp only[aF,aC];have ado:w13.there (w.heap.size+1) 0 13:=eE ((YW.block _ cK).trans Jp.out.2.2.1) cM;have H13:=cD (cC ado (cC Sw YW));clear ado Sw YW Fe;have gG:Hid ((#[.I,.s P,.slice sa sn sc,.u s1,.u s2,.u s3,.i s4,.u s5,.v s6,.v s7,.v s8,.n,.n]:Array aD).all (·.oneCell')=true):=cD (by simp[au]);go_wp2_with (refine aM rfl 47 (.tmp 4) (.tmp 146) rfl (w.heap.size+1) 0 #[.I,.s P,.slice sa sn sc,.u s1,.u s2,.u s3,.i s4,.u s5,.v s6,.v s7,.v s8,.n,.n] rfl rfl H13.out.1 mh.out gG.out ?_)
 refine aK (dz rfl _ _ (w.heap.size+1) 0 [.I,.s P,.slice sa sn sc,.u s1,.u s2,.u s3,.i s4,.u s5,.v s6,.v s7,.v s8,.n,.n] _ rfl (an _ _ _ _ H13.out.1) underlying47 rfl mh.out) rfl ?_;obtain⟨_,g2,g3⟩:=H13.out;have K9:cQ (·=w.heap.size+1) w13 (w13.setCells (w.heap.size+1) 0 [.I,.s P,.slice sa sn sc,.u s1,.u s2,.u s3,.i s4,.u s5,.v s6,.v s7,.v s8,.n,.n]):=cQ.setCells (S:=(·=w.heap.size+1)) (p:=w.heap.size+1) rfl _ 0 (cQ.refl _ w13);have UO:=(g3.block (w.heap.size+1) cK).trans Jp.out.2.2.1;have D9:=(Jp.out.1.below g3).iN UO kL cL cL cL (by have:=HD.out.1.tree.bl.size;omega) K9;have q8:cQ (fun k=>k=b∨k=d∨v.ownBlock=some k) w rY:=(cQ.eT Up.out.2).trans Jp.out.2.1;have alx:=Up.out.2.size;rw[I4.out];refine .inl ⟨hx0.out.1,⟨v12,_,⟨sa,sn,sc,⟨s1,s2,s3,s4,s5,s6,s7,s8⟩⟩,none,0,rfl,D9,?_,?_,gK.nil _ _ _⟩,?_⟩
 ·intro k hk
  rcases Jp.out.2.2.2.2 k hk with h|h
  ·exact .inl h
  exact .inr cK
 ·refine(g2.cells (fun k hk e=>by have hk:rY.heap.size≤k:=hk;omega) _).mono (fun k hk=>?_)
  have hk:rY.heap.size≤k:=hk;refine⟨by omega,fun e=>?_⟩;have:=(Jp.out.1.row.own.lt k e).2;omega
 exact(q8.trans (cQ.eT g3)).GQ K9 cK
theorem dx.GW(D:dx X w0 w d b cP cS cnt M dh v L E)(h0:0≤cnt)(h1:cnt≤100000)(hsz:E.length≤900)(NX:nZ M)(PT:iz w)(r:di)(o:fh){lo:Nat→Prop}(hr:fo w lo r o)(hlo:∀k,lo k→v.ownBlock≠some k∧¬X k)(hp:o.cW.length≤900)(hdl:o.data.length≤1000000)(hu:eB o.cW cP=true)(hk:o.kind=1):
  aN prog 255 #[.p d,r.val] w (lQ X w0 w d b cP cS cnt M dh v E o):=by
 have hE:=xo (M:=M) (dh:=dh) hu;rw[if_pos hk] at hE;have main:∀e w',((gB cP M dh o=0∧kV X w0 w d b cP cS (cnt+1) M (qq M cS dh o) dh v (E++jw M cS dh o) ⟨eG M o,xy o.data cS dh o.mV,[]⟩ e w')∨(gB cP M dh o≠0∧mD w (gB cP M dh o) e w'))→lQ X w0 w d b cP cS cnt M dh v E o e w':=by
  intro e w' h;rcases h with ⟨hx,h⟩|⟨hx,h⟩
  ·have h0':mj cP M dh o=0:=by rw[hE,hx]
   have e1:oP cP M cS dh o=qq M cS dh o:=by
    unfold oP;rw[if_neg (by simpa using h0'),if_pos hk]
   have e2:jW cP M cS dh o=jw M cS dh o:=by
    unfold jW VD;rw[if_neg (by simpa using h0'),if_pos hk]
   have e3:Co cP M cS dh o=⟨eG M o,xy o.data cS dh o.mV,[]⟩:=by
    unfold Co;rw[if_pos hk]
   refine .inl ⟨h0',cnt+1,by omega,by omega,?_⟩;rw[e1,e2,e3];exact h
  exact pz hE hx h
 exact(D.Lh h0 h1 hsz NX PT r o hr hlo hp hdl hu rfl).mono main
theorem call6{f:Nat}(h:f∈[255,256,257,258,259,260]):∀args w,(callFunc f args).run prog w=.ok (.enter f args) w:=by
 simp at h;rcases h with rfl|rfl|rfl|rfl|rfl|rfl<;>(intro args w;simp[go_sem])
theorem dx.GF(D:dx X w0 w d b cP cS cnt M dh v L E)(h0:0≤cnt)(h1:cnt≤100000)(hsz:E.length≤900)(NX:nZ M)(PT:iz w)(r:di)(o:fh){lo:Nat→Prop}(hr:fo w lo r o)(hlo:∀k,lo k→v.ownBlock≠some k∧¬X k)(hl:yW o):
  aN prog 74 #[.p d,r.val] w (BO X w0 w d b cP cS cnt M dh v E o):=by
 obtain⟨k1,k6,hp,hdl⟩:=hl;have MO:=hr.kind;have hcases:o.kind=1∨o.kind=2∨o.kind=3∨o.kind=4∨o.kind=5∨o.kind=6:=by omega
 rcases hcases with hk|hk|hk|hk|hk|hk
 ·exact D.su r o hr cK 255 (by rw[MO,hk];decide) cK (call6 cM) (fun hu w' hb=>(D.below hb).GW h0 h1 hsz NX (jq PT hb) r o (hr.below hb) hlo hp hdl hu hk)
 ·exact D.su r o hr cK 256 (by rw[MO,hk];decide) cK (call6 cM) (fun hu w' hb=>(D.below hb).GV h0 h1 hsz r o (hr.below hb) cK hu hk)
 ·exact D.su r o hr cK 257 (by rw[MO,hk];decide) cK (call6 cM) (fun hu w' hb=>(D.below hb).RS h0 h1 hsz r o (hr.below hb) hlo cK hdl hu hk)
 ·exact D.su r o hr cK 258 (by rw[MO,hk];decide) cK (call6 cM) (fun hu w' hb=>(D.below hb).Ka r o (hr.below hb) cK hu hk)
 ·exact D.su r o hr cK 259 (by rw[MO,hk];decide) cK (call6 cM) (fun hu w' hb=>(D.below hb).RT r o (hr.below hb) cK hu hk)
 exact D.su r o hr cK 260 (by rw[MO,hk];decide) cK (call6 cM) (fun hu w' hb=>(D.below hb).OE r o (hr.below hb) cK hu hk)
end
theorem wC{w0 w w':aE}{b:Nat}{cP:cO}{cS:Int}{M:List (cO×Nd)}(R:TR w0 w b cP cS M)(hb:cE w w'):TR w0 w' b cP cS M:=R.below hb
theorem AU{w:aE}{p:aY}{B o:Nat}{cs:List aD}{u:aD}(hn:p.block≠B)(h:w.cell? p=some u):(w.setCells B o cs).cell? p=some u:=
 (cQ.cell (S:=(·=B)) (cQ.setCells (S:=(·=B)) (p:=B) rfl _ o (cQ.refl _ w)) (World.block_lt_of_cell? _ _ h) hn).trans h
theorem IA{X:Nat→Prop}{w0 w w3:aE}{b2:Nat}{cP:cO}{cS:Int}{M:List (cO×Nd)}(RC:TR w0 w3 b2 cP cS M)(FC:jC X w3 b2 cP cS M)(hX:∀k,X k→k<w3.heap.size)(gQ:cE w w3)(hb:w.heap.size≤b2)(hm:dM w)(I:Inv cP M)(a s n:Int):
  dx X w (w3.alloc (.cells #[.p b2,.v a,.i s,.u n,.n] 158)) w3.heap.size b2 cP a cS M ⟨s,n⟩ (.n) [] []:=by
 have B4:cE w3 (w3.alloc (.cells #[.p b2,.v a,.i s,.u n,.n] 158)):=cT (ag _ w3) _;obtain⟨lo,mb,T,hlo⟩:=FC;have T2:=(T.both (lo':=fun k=>lo k∧k<w3.heap.size) (fun k h1 h2=>⟨h1,h2⟩)).below B4;exact⟨⟨⟨_,_,T2⟩,gQ.trans (B4.mono gQ.size),hb,RC.fit,RC.rl,hm⟩,aj w3 _,La _ _,gQ.size,I,⟨rfl,fun k r e h=>by simp at h⟩,fun k h=>aJ (hX k h) B4.size,_,_,T2,fun k hk=>⟨⟨by simp[aA],by have hk:k<w3.heap.size:=hk.2;omega⟩,hlo k hk.1⟩⟩
theorem Tv{cP:cO}{M:List (cO×Nd)}{cS:Int}{dh:eF}{o:mH}(hk:o.leaf.kind≠7):
  Ca cP M cS dh 0 o=mj cP M dh o.leaf∧zA cP M cS dh 0 o=jW cP M (cS+1) dh o.leaf∧PE cP M cS dh 0 o=(Oh cP M (cS+1) dh o.leaf).a∧PC cP M cS dh 0 o=[]:=by
 have h1:o.seq=[o.leaf]:=by unfold mH.seq;rw[if_neg hk]
 have h2:Ca cP M cS dh 0 o=mj cP M dh o.leaf:=by
  unfold Ca;rw[if_neg cM,h1];unfold o6;by_cases h:mj cP M dh o.leaf=0
  ·rw[if_pos h,h];rfl
  rw[if_neg h]
 refine⟨h2,?_,?_,?_⟩
 ·unfold zA
  rw[h2,h1];unfold mK;by_cases h:mj cP M dh o.leaf=0
  ·rw[if_neg (by simpa using h),if_pos h]
   simp[mK]
  rw[if_pos h];unfold jW;rw[if_pos h]
 ·unfold PE
  rw[if_pos ⟨rfl,hk⟩]
 unfold PC;rw[if_neg (fun h=>hk h.2)]
section
variable{w0 w:World}{b:Nat}{cP:cO}{cS:Int}{M:List (cO×Nd)}
theorem WX{X:Nat→Prop}(UQ:∀k,X k→k<w.heap.size)(F:jC X w b cP cS M)(R:TR w0 w b cP cS M)(I:Inv cP M)(hm:dM w)(h0:0≤cS)(h1:cS≤90000)(NX:nZ M)(PT:iz w)(r:di)(o:mH)(dh:eF)(hr:fo w (fun k=>k<w.heap.size∧¬X k) r o.leaf)(HC:∀w',cE w w'→aN prog 29 #[r.val] w' (oF w' 0))(hg:o.leaf.kind≠7∧r.pn=0∧yW o.leaf):
  aN prog 30 #[.p b,r.val,Ce dh] w (Nu X w cP M cS dh 0 o):=by
 obtain⟨ok,op,oa,on,oc,ov,os,oe,qa,qn,qc⟩:=r;obtain⟨s,n⟩:=dh;obtain⟨⟨lk,lp,ld,lv,ls,le⟩,ps⟩:=o;obtain⟨q1,q2,q3,q4,q5,q6,q7,q8⟩:=hr;have hr:fo w (fun k=>k<w.heap.size∧¬X k) ⟨ok,op,oa,on,oc,ov,os,oe,qa,qn,qc⟩ ⟨lk,lp,ld,lv,ls,le⟩:=⟨q1,q2,q3,q4,q5,q6,q7,q8⟩;clear q3 q4 q5 q6 q7 q8;dsimp only at q1 q2;subst q1 q2;unfold di.val di.cells Ce;unfold di.val di.cells at HC;dsimp only at HC⊢;obtain⟨w1,hw1,dB,hs1,k0,k1,k2⟩:=Bt w ok op oa on oc ov os oe qa qn qc s n;have sG:Hid (cG 35 7):=cD cJ;have mh:Hid (cG 47 13):=cD iH;have za:Hid (cG 31 2):=cD cJ;have H1:=cD (cC dB (cC hs1 (cC k0 (cC k1 (cC k2 hw1)))));have FL:=cD (dJ k0);have Qw:=HC w1 dB;have FW:=cD Qw;have HI:=cD (cC R (cC I (cC hm (cC h0 (cC h1 (cC NX PT))))));have HG:=cD (cC hr hg);have HF:=cD (cC F UQ);clear F UQ;have tw:∀_:True,IntKind.u64.wrap (cS+1)=cS+1:=fun _=>by rw[aQ];omega
 clear HC dB hs1 k0 k1 k2 Qw R I hm h0 h1 NX PT hr hg;go_enter func30,ntmps30
 go_wp2_with fail
 rw[←hw1];clear hw1;refine FW.out.mono ?_;rintro e w2 ⟨rfl,B2⟩;have Xx:cE w w2:=H1.out.1.trans (B2.mono H1.out.1.size);have CN:Hid (w2.drew.rangeAt (w.heap.size+1) 0 [.i s,.u n]):=cD (dJ (w:=w2.drew) ((B2.block (w.heap.size+1) (by have:=H1.out.2.1;omega)).trans H1.out.2.2.2.1));have pT:=cD (jC.clone (wC HI.out.1 Xx.drew) (HF.out.1.below Xx.drew));have H2:=cD (cC B2 Xx);clear B2 Xx;go_wp2_with fail
 refine af (S:=fun w'=>ah w' (w.heap.size+1) 0 [.i s,.u n]) cJ CN.out (fun hS=>?_);refine tI 0 rfl hS ?_;refine tI 2 rfl hS ?_;refine tL 5 rfl hS 31 (.tmp 5) (w.heap.size+1) 0 [.i s,.u n] (fun _ h=>h) underlying31 za.out ?_;simp only[cR];refine cI 1 rfl ?_;refine pT.out.mono ?_;rintro e w3 ⟨b2,rfl,⟨RC,FC⟩,dI,wP⟩;have HFC:=cD FC;clear FC;have B3:cE w2 w3:=(ag _ w2).drew.trans wP;have ek:ah w3 (w.heap.size+1) 0 [.i s,.u n]:=dR CN.out wP (by have:=H1.out.2.1;have:=H2.out.1.size;show w.heap.size+1<w2.heap.size;omega);have B03:cE w w3:=H2.out.2.trans (B3.mono H2.out.2.size);have Jo:=cD (wC HI.out.1 B03).FA;have SO:w2.heap.size≤b2:=dI;have H3:=cD (cC RC (cC SO (cC B3 B03)));clear RC dI SO wP B3 B03 hS;refine⟨ek,?_⟩
 try dsimp only
 simp only[cR];refine cI 3 rfl ?_;refine Jo.out.mono ?_;rintro e w3' ⟨rfl,rfl⟩;refine⟨ek,?_⟩
 try dsimp only
 simp only[cR];refine tI 4 rfl ek ?_;refine tI 6 rfl ek ?_;simp only[cR];obtain⟨w4,lP⟩:=cF (w3.alloc (.cells #[.p b2,.v (cS+1),.i s,.u n,.n] 158));have D4:dx X w w4 w3.heap.size b2 cP (cS+1) cS M ⟨s,n⟩ (.n) [] []:=by rw[lP];exact IA H3.out.1 HFC.out (fun k h=>aJ (HF.out.2 k h) H3.out.2.2.2.size) H3.out.2.2.2 (aI H2.out.2.size H3.out.2.1) HI.out.2.2.1 HI.out.2.1 _ _ _
 have B4:cE w3 w4:=by rw[lP];exact cT (ag _ w3) _
 have hs4:w4.heap.size=w3.heap.size+1:=by rw[lP];simp
 have eV:ah w4 (w.heap.size+1) 0 [.i s,.u n]:=dR ek B4 (by have:=H1.out.2.1;have:=H2.out.1.size;have:=H3.out.2.2.1.size;omega);have Jk:=cD lP;have H4:=cD (cC D4 (cC B4 hs4));clear D4 B4 hs4;refine sB 7 rfl cJ cN (.p w3.heap.size) w4 (by rw[Jk.out];go_simp<;>first|rfl|exact⟨rfl,rfl⟩) eV ?_;clear lP ek;simp only[cR];refine tI 8 rfl eV ?_;simp only[cR];refine ay cJ ?_ _;clear eV;obtain⟨w5,nI⟩:=cF (w4.alloc (.cells #[.I,.z,.n,.U,.U,.U,.I,.U,.V,.V,.V,.n,.n] 47));have B5:cE w4 w5:=by rw[nI];exact cT (ag _ w4) _
 have hs5:w5.heap.size=w4.heap.size+1:=by rw[nI];simp
 have k5:w5.heap[w4.heap.size]?=some (.cells #[.I,.z,.n,.U,.U,.U,.I,.U,.V,.V,.V,.n,.n] 47 (0,0)):=by rw[nI];exact aj w4 _
 have Uu:cE w1 w5:=H2.out.1.trans ((H3.out.2.2.1.trans ((H4.out.2.1.trans (B5.mono H4.out.2.1.size)).mono H3.out.2.2.1.size)).mono H2.out.1.size);have LZ:cE w w5:=H1.out.1.trans (Uu.mono H1.out.1.size);have V5:w5.heap[w.heap.size]?=some (.cells #[.b ok,.s op,.slice oa on oc,.i ov,.bool os,.bool oe,.slice qa qn qc] 35 (0,0)):=(Uu.block _ (by have:=H1.out.2.1;omega)).trans H1.out.2.2.1;have Sa:w5.heap[w.heap.size+2]?=some (.cells #[.I,.z,.n,.U,.U,.U,.I,.U,.V,.V,.V,.n,.n] 47 (0,0)):=(Uu.block _ (by have:=H1.out.2.1;omega)).trans H1.out.2.2.2.2.1;have Xi:=cD nI;have HR5:=cD (dJ V5);have z0:w5.cell? ⟨w.heap.size,0,none⟩=some (.b ok):=aa _ _ 0 _ 35 (0,0) V5;have H5:=cD (cC (H4.out.1.below B5) (cC hs5 (cC k5 (cC Uu (cC LZ (cC V5 (cC Sa (cC H4.out.2.2 (by have:=H1.out.2.1;have:=H2.out.1.size;have:=H3.out.2.2.1.size;omega:w.heap.size+3≤w3.heap.size)))))))));clear nI B5 hs5 k5 Uu LZ V5 Sa;have hq0:qn=0:=HG.out.2.2.1;subst hq0;have t7:(ok != 7)=true:=by simpa using HG.out.2.1
 have hon:=H5.out.1.GF HI.out.2.2.2.1 (aT HI.out.2.2.2.2.1 cL) cM HI.out.2.2.2.2.2.1 (jq HI.out.2.2.2.2.2.2 H5.out.2.2.2.2.1) ⟨ok,op,oa,on,oc,ov,os,oe,qa,0,qc⟩ ⟨ok,op,ld,lv,ls,le⟩ (HG.out.1.below H5.out.2.2.2.2.1) (fun k h=>⟨by simp[aA],h.2⟩) HG.out.2.2.2;unfold di.val di.cells at hon;dsimp only at hon;have abo:=cD hon;clear hon;go_upto_region 8 with fail
 rw[←Xi.out];go_wp2_with (refine aG rfl 35 (.tmp 4) rfl w.heap.size 0 rfl [.b ok,.s op,.slice oa on oc,.i ov,.bool os,.bool oe,.slice qa 0 qc] _ HR5.out underlying35 rfl sG.out ?_)
 refine abo.out.mono ?_;rintro e w6 h6;have tq:∀_:True,(0:Nat)=0:=fun _=>rfl
 rcases h6 with ⟨hE0,cnt2,_,_,⟨⟨v6,L6,⟨ra,rn,rc,⟨r1,r2,r3,r4,r5,r6,r7,r8⟩⟩,ka,kc,rfl,D6,G6,hrd,Fa⟩,K6⟩⟩|⟨hE,rfl,B6⟩
 ·obtain⟨px,hpx⟩:=cF ((Co cP M (cS+1) ⟨s,n⟩ ⟨ok,op,ld,lv,ls,le⟩).cW)
  obtain⟨kn,hkn⟩:=cF ((Co cP M (cS+1) ⟨s,n⟩ ⟨ok,op,ld,lv,ls,le⟩).kids.length);rw[←hpx,←hkn];unfold eL Raw.cells eU.cells;dsimp only[aF,aC];have hOD:kV X w w5 w3.heap.size b2 cP (cS+1) cnt2 M (oP cP M (cS+1) ⟨s,n⟩ ⟨ok,op,ld,lv,ls,le⟩) ⟨s,n⟩ (.n) ([]++jW cP M (cS+1) ⟨s,n⟩ ⟨ok,op,ld,lv,ls,le⟩) (Co cP M (cS+1) ⟨s,n⟩ ⟨ok,op,ld,lv,ls,le⟩) (.returned (.agg (eL 0 px ⟨ra,rn,rc,⟨r1,r2,r3,r4,r5,r6,r7,r8⟩⟩ ka kn kc none 0 0).toArray)) w6:=⟨⟨v6,L6,⟨ra,rn,rc,⟨r1,r2,r3,r4,r5,r6,r7,r8⟩⟩,ka,kc,by rw[hpx,hkn],D6,G6,hrd,Fa⟩,K6⟩;have dI:b2<w3.heap.size:=H3.out.1.lt;have aay:w.heap.size+3≤b2:=by have:=H3.out.2.1;have:=H1.out.2.1;have:=H2.out.1.size;omega
  have hnk:∀k,k≠b2→k≠w3.heap.size→¬(k=b2∨k=w3.heap.size∨(aq none 0 0).ownBlock=some k):=fun k h1 h2 h=>by
   rcases h with h|h|h
   ·exact h1 h
   ·exact h2 h
   simp[aA] at h
  have hs4:=H5.out.2.2.2.2.2.2.2.1;have hs5:=H5.out.2.1;have h3w:=H5.out.2.2.2.2.2.2.2.2;have k6:=(K6.block w4.heap.size cK (hnk _ cK cK)).trans H5.out.2.2.1;have kr6:=(K6.block (w.heap.size+2) cK (hnk _ cK cK)).trans H5.out.2.2.2.2.2.2.1;have ko6:=(K6.block w.heap.size cK (hnk _ cK cK)).trans H5.out.2.2.2.2.2.1;have Qn:w6.there w4.heap.size 0 13:=eE k6 cM;obtain⟨w7,pI⟩:=cF (w6.setCells w4.heap.size 0 [.I,.s px,.slice ra rn rc,.u r1,.u r2,.u r3,.i r4,.u r5,.v r6,.v r7,.v r8,.slice ka kn kc,.n]);have K7:cQ (·=w4.heap.size) w6 w7:=by rw[pI];exact cQ.setCells (S:=(·=w4.heap.size)) (p:=w4.heap.size) rfl _ 0 (cQ.refl _ w6)
  have k7:w7.heap[w4.heap.size]?=some (.cells #[.I,.s px,.slice ra rn rc,.u r1,.u r2,.u r3,.i r4,.u r5,.v r6,.v r7,.v r8,.slice ka kn kc,.n] 47 (0,0)):=by rw[pI];exact gq k6 rfl
  have MN:=K6.size;have Wl:=K7.size;have ZH:=(K7.block (w.heap.size+2) cK (fun e=>by have e:w.heap.size+2=w4.heap.size:=e;omega)).trans kr6;have ko7:=(K7.block w.heap.size cK (fun e=>by have e:w.heap.size=w4.heap.size:=e;omega)).trans ko6;have D7:=D6.iN k6 kL cL cL cL cK K7;have z6:w7.cell? ⟨w.heap.size,6,none⟩=some (.slice qa 0 qc):=aa _ _ 6 _ 35 (0,0) ko7;have z10:w7.cell? ⟨w4.heap.size,0,none⟩=some (.I):=aa _ _ 0 _ 47 (0,0) k7;have zv:w7.cell? ⟨w3.heap.size,4,none⟩=some v6:=aa _ _ 4 _ 158 (0,0) D7.blk;have UG:w7.there (w.heap.size+2) 0 13:=eE ZH cM;have Jj:=cD pI;have H7:=cD (cC Qn (cC k7 (cC ZH (cC UG (cC D7 (cC K7 (cC K6 (cC hrd (cC Fa (cC hpx (cC hkn (cC hE0 (cC dI aay)))))))))))));have abt:Hid (ah w7.drew w4.heap.size 0 [.I,.s px,.slice ra rn rc,.u r1,.u r2,.u r3,.i r4,.u r5,.v r6,.v r7,.v r8,.slice ka kn kc,.n]∧w7.drew.cell? ⟨w3.heap.size,4,none⟩=some v6):=cD ⟨dJ k7,zv⟩;have gG:Hid ((#[.I,.s px,.slice ra rn rc,.u r1,.u r2,.u r3,.i r4,.u r5,.v r6,.v r7,.v r8,.slice ka kn kc,.n]:Array aD).all (·.oneCell')=true):=cD (by simp[au]);clear hOD Qn k7 ZH UG D7 K7 K6 D6 G6 hrd Fa hpx hkn hE0 dI aay hnk k6 kr6 ko6 ko7 pI zv hs4 hs5 h3w MN Wl
  try unfold eL Raw.cells eU.cells
  try dsimp only[aF,aC]
  go_upto_region 10 with (refine aM rfl 47 (.tmp 10) (.tmp 37) rfl w4.heap.size 0 #[.I,.s px,.slice ra rn rc,.u r1,.u r2,.u r3,.i r4,.u r5,.v r6,.v r7,.v r8,.slice ka kn kc,.n] rfl rfl H7.out.1 mh.out gG.out ?_)
  rw[←Jj.out];go_wp2_with fail
  go_loopw [41] (fun ci wr=>ci=.I∧wr=w7) (fun _ _=>0)
  case atStart=>exact⟨rfl,rfl⟩
  obtain⟨rfl,rfl⟩:=hrel;go_wp2_with fail
  refine af (S:=fun w'=>ah w' w4.heap.size 0 [.I,.s px,.slice ra rn rc,.u r1,.u r2,.u r3,.i r4,.u r5,.v r6,.v r7,.v r8,.slice ka kn kc,.n]∧w'.cell? ⟨w3.heap.size,4,none⟩=some v6) cJ abt.out (fun hS=>?_);have yv:∀w',(ah w' w4.heap.size 0 [.I,.s px,.slice ra rn rc,.u r1,.u r2,.u r3,.i r4,.u r5,.v r6,.v r7,.v r8,.slice ka kn kc,.n]∧w'.cell? ⟨w3.heap.size,4,none⟩=some v6)→w'.cell? ⟨w3.heap.size,4,none⟩=some v6:=fun w' h=>h.2
  refine tI 0 rfl hS ?_;refine tI 1 rfl hS ?_;refine tI 2 rfl hS ?_;refine tJ 3 rfl hS yv ?_;simp only[cR];refine tL 4 rfl hS 47 (.tmp 10) w4.heap.size 0 [.I,.s px,.slice ra rn rc,.u r1,.u r2,.u r3,.i r4,.u r5,.v r6,.v r7,.v r8,.slice ka kn kc,.n] (fun _ h=>h.1) underlying47 mh.out ?_;refine tI 5 rfl hS ?_;simp only[cR];refine sI 6 rfl 47 (.tmp 7) (.tmp 69) (w.heap.size+2) 0 #[.I,.s px,.slice ra rn rc,.u r1,.u r2,.u r3,.i r4,.u r5,.v r6,.v r7,.v r8,.slice ka kn kc,.n] H7.out.2.2.2.1 mh.out gG.out ⟨mR hS.1 (by have:=H5.out.2.2.2.2.2.2.2;omega),(AU (by have:=H5.out.2.2.2.2.2.2.2;show w3.heap.size≠w.heap.size+2;omega) hS.2)⟩ ?_;simp only[cR];refine ay cJ ?_ _;go_wp2_with fail
  refine aK (gE rfl _ _ (w.heap.size+2) 0 [.I,.s px,.slice ra rn rc,.u r1,.u r2,.u r3,.i r4,.u r5,.v r6,.v r7,.v r8,.slice ka kn kc,.n] _ rfl (an _ _ _ _ H7.out.2.2.2.1) underlying47 rfl mh.out) rfl ?_;obtain⟨dB,hs1,k0,k1,k2,_⟩:=H1.out;obtain⟨h61,h62,h63,h64,D7,K7,K6,hrd,Fa,hpx,hkn,hE0,dI,aay⟩:=H7.out;have hs4:=H5.out.2.2.2.2.2.2.2.1;have hs5:=H5.out.2.1;have h3w:=H5.out.2.2.2.2.2.2.2.2;have LZ:=H5.out.2.2.2.2.1;have K9:cQ (·=w.heap.size+2) wr.drew (wr.drew.setCells (w.heap.size+2) 0 [.I,.s px,.slice ra rn rc,.u r1,.u r2,.u r3,.i r4,.u r5,.v r6,.v r7,.v r8,.slice ka kn kc,.n]):=cQ.setCells (S:=(·=w.heap.size+2)) (p:=w.heap.size+2) rfl _ 0 (cQ.refl _ wr.drew);have K7d:cQ (·=w4.heap.size) w6 wr.drew:=K7.drew;have D9:=(D7.below (ag _ wr).drew).iN (w:=wr.drew) h63 kL cL cL cL cK K9;obtain⟨e1,e2,e3,e4⟩:=Tv (cP:=cP) (M:=M) (cS:=cS) (dh:=⟨s,n⟩) (o:=⟨⟨ok,op,ld,lv,ls,le⟩,ps⟩) HG.out.2.1;have eR:(Oh cP M (cS+1) ⟨s,n⟩ ⟨ok,op,ld,lv,ls,le⟩).a=Co cP M (cS+1) ⟨s,n⟩ ⟨ok,op,ld,lv,ls,le⟩:=by unfold Oh;rw[if_neg (by simpa using hE0)]
  have B09:cE w (wr.drew.setCells (w.heap.size+2) 0 [.I,.s px,.slice ra rn rc,.u r1,.u r2,.u r3,.i r4,.u r5,.v r6,.v r7,.v r8,.slice ka kn kc,.n]):=LZ.trans (((K6.below LZ.size (fun k h=>by
   rcases h with h|h|h
   ·omega
   ·omega
   simp[aA] at h)).trans ((K7d.below (aI LZ.size K6.size) (fun k e=>by have e:k=w4.heap.size:=e;omega)).trans (K9.below (by have:=K6.size;have:=K7d.size;have:=LZ.size;omega) (fun k e=>by have e:k=w.heap.size+2:=e;omega)))))
  refine⟨_,_,rfl,?_,?_,⟨B09,fun b e=>(D9.row.own.lt b e).1⟩⟩
  ·rw[e2]
   have q:=D9.row.out D9.Ar;rw[aC] at q;exact q
  rw[e1,e3,e4,eR,hE0];refine⟨⟨ra,rn,rc,⟨r1,r2,r3,r4,r5,r6,r7,r8⟩⟩,ka,kc,none,0,by rw[hpx,hkn];rfl,?_,?_,jZ.nil _ _ _⟩
  ·have q1:=(hrd.dZ K7d (fun k h1 _ e=>by have e:k=w4.heap.size:=e;have:=h1.1;omega)).dZ K9 (fun k h1 _ e=>by have e:k=w.heap.size+2:=e;have:=h1.1;omega)
   exact q1.mono (fun k h1=>by have:=h1.1;have:=LZ.size;show w.heap.size≤k;omega)
  have q1:=(Fa.dZ K7d (fun k h1 _ e=>by have e:k=w4.heap.size:=e;have:=h1.1;omega)).dZ K9 (fun k h1 _ e=>by have e:k=w.heap.size+2:=e;have:=h1.1;omega);exact q1.mono (fun k h1 _=>by have:=h1.1;have:=LZ.size;show w.heap.size≤k;omega)
 obtain⟨x,hx⟩:=cF (mj cP M ⟨s,n⟩ ⟨ok,op,ld,lv,ls,le⟩);rw[←hx];have hs4:=H5.out.2.2.2.2.2.2.2.1;have hs5:=H5.out.2.1;have h3w:=H5.out.2.2.2.2.2.2.2.2;have k6:=(B6.block w4.heap.size cK).trans H5.out.2.2.1;have kr6:=(B6.block (w.heap.size+2) cK).trans H5.out.2.2.2.2.2.2.1;have ko6:=(B6.block w.heap.size cK).trans H5.out.2.2.2.2.2.1;have Qn:w6.there w4.heap.size 0 13:=eE k6 cM;obtain⟨w7,pI⟩:=cF (w6.setCells w4.heap.size 0 [.i x,.z,.n,.U,.U,.U,.I,.U,.V,.V,.V,.n,.n]);have K7:cQ (·=w4.heap.size) w6 w7:=by rw[pI];exact cQ.setCells (S:=(·=w4.heap.size)) (p:=w4.heap.size) rfl _ 0 (cQ.refl _ w6)
 have k7:w7.heap[w4.heap.size]?=some (.cells #[.i x,.z,.n,.U,.U,.U,.I,.U,.V,.V,.V,.n,.n] 47 (0,0)):=by rw[pI];exact gq k6 rfl
 have MN:=B6.size;have Wl:=K7.size;have ZH:=(K7.block (w.heap.size+2) cK (fun e=>by have e:w.heap.size+2=w4.heap.size:=e;omega)).trans kr6;have ko7:=(K7.block w.heap.size cK (fun e=>by have e:w.heap.size=w4.heap.size:=e;omega)).trans ko6;have z6:w7.cell? ⟨w.heap.size,6,none⟩=some (.slice qa 0 qc):=aa _ _ 6 _ 35 (0,0) ko7;have z10:w7.cell? ⟨w4.heap.size,0,none⟩=some (.i x):=aa _ _ 0 _ 47 (0,0) k7;have UG:w7.there (w.heap.size+2) 0 13:=eE ZH cM;have tx:(x != 0)=true:=by rw[hx];simpa using hE
 have Jj:=cD pI;have H7:=cD (cC Qn (cC k7 (cC ZH (cC UG (cC K7 (cC B6 (cC hx hE)))))));have abt:Hid (ah w7.drew w4.heap.size 0 [.i x,.z,.n,.U,.U,.U,.I,.U,.V,.V,.V,.n,.n]):=cD (dJ (w:=w7.drew) k7);have gG:Hid ((#[.i x,.z,.n,.U,.U,.U,.I,.U,.V,.V,.V,.n,.n]:Array aD).all (·.oneCell')=true):=cD (by simp[au]);clear Qn k7 ZH UG K7 B6 hx hE k6 kr6 ko6 ko7 pI hs4 hs5 h3w MN Wl
 try unfold eL oS Raw.cells L1 eU.cells
 try dsimp only[aF,aC]
 go_upto_region 10 with (refine aM rfl 47 (.tmp 10) (.tmp 37) rfl w4.heap.size 0 #[.i x,.z,.n,.U,.U,.U,.I,.U,.V,.V,.V,.n,.n] rfl rfl H7.out.1 mh.out gG.out ?_)
 rw[←Jj.out];go_wp2_with fail
 go_loopw [41] (fun ci wr=>ci=.I∧wr=w7) (fun _ _=>0)
 case atStart=>exact⟨rfl,rfl⟩
 obtain⟨rfl,rfl⟩:=hrel;go_wp2_with fail
 refine af (S:=fun w'=>ah w' w4.heap.size 0 [.i x,.z,.n,.U,.U,.U,.I,.U,.V,.V,.V,.n,.n]) cJ abt.out (fun hS=>?_);refine tL 0 rfl hS 47 (.tmp 10) w4.heap.size 0 [.i x,.z,.n,.U,.U,.U,.I,.U,.V,.V,.V,.n,.n] (fun _ h=>h) underlying47 mh.out ?_;refine tI 1 rfl hS ?_;simp only[cR];refine sI 2 rfl 47 (.tmp 7) (.tmp 64) (w.heap.size+2) 0 #[.i x,.z,.n,.U,.U,.U,.I,.U,.V,.V,.V,.n,.n] H7.out.2.2.2.1 mh.out gG.out (mR hS (by have:=H5.out.2.2.2.2.2.2.2;omega)) ?_;simp only[cR];refine ay cJ ?_ _;go_wp2_with fail
 refine aK (gE rfl _ _ (w.heap.size+2) 0 [.i x,.z,.n,.U,.U,.U,.I,.U,.V,.V,.V,.n,.n] _ rfl (an _ _ _ _ H7.out.2.2.2.1) underlying47 rfl mh.out) rfl ?_;obtain⟨h61,h62,h63,h64,K7,B6,hx,hE⟩:=H7.out;have hs4:=H5.out.2.2.2.2.2.2.2.1;have hs5:=H5.out.2.1;have h3w:=H5.out.2.2.2.2.2.2.2.2;have LZ:=H5.out.2.2.2.2.1;have K9:cQ (·=w.heap.size+2) wr.drew (wr.drew.setCells (w.heap.size+2) 0 [.i x,.z,.n,.U,.U,.U,.I,.U,.V,.V,.V,.n,.n]):=cQ.setCells (S:=(·=w.heap.size+2)) (p:=w.heap.size+2) rfl _ 0 (cQ.refl _ wr.drew);have K7d:cQ (·=w4.heap.size) w6 wr.drew:=K7.drew;obtain⟨e1,e2,e3,e4⟩:=Tv (cP:=cP) (M:=M) (cS:=cS) (dh:=⟨s,n⟩) (o:=⟨⟨ok,op,ld,lv,ls,le⟩,ps⟩) HG.out.2.1;have eR:(Oh cP M (cS+1) ⟨s,n⟩ ⟨ok,op,ld,lv,ls,le⟩).a=lX:=by unfold Oh;rw[if_pos (by simpa using hE)]
 have eX:jW cP M (cS+1) ⟨s,n⟩ ⟨ok,op,ld,lv,ls,le⟩=[]:=by unfold jW;rw[if_pos (by simpa using hE)]
 have B06:cE w w6:=LZ.trans (B6.mono LZ.size);have B09:cE w (wr.drew.setCells (w.heap.size+2) 0 [.i x,.z,.n,.U,.U,.U,.I,.U,.V,.V,.V,.n,.n]):=B06.trans ((K7d.below B06.size (fun k e=>by have e:k=w4.heap.size:=e;omega)).trans (K9.below (by have:=K7d.size;have:=B06.size;omega) (fun k e=>by have e:k=w.heap.size+2:=e;omega)));refine⟨.n,_,rfl,?_,?_,⟨B09,fun b e=>by simp[aA] at e⟩⟩
 ·rw[e2,eX]
  exact iB.nil _ _
 rw[e1,e3,e4,eR,←hx];exact⟨oS,none,0,none,0,rfl,mX _ _,gK.nil _ _ _,jZ.nil _ _ _⟩
end
theorem Mq{cP:cO}{M:List (cO×Nd)}{cS:Int}{dh:eF}{o:fh}(h:Fit M)(hl:yW o):∀e∈jW cP M cS dh o,BS e:=by
 obtain⟨_,_,hp,hd⟩:=hl;have XX:∀p,((dL p M).getD iQ).data.length≤1000000:=fun p=>by
  cases hg:dL p M with
  |none=>simp[iQ]
  |some nd=>exact h.node hg
 intro e he;unfold jW at he;split at he
 ·simp at he
 rename_i h0
 have h0:mj cP M dh o=0:=by simpa using h0
 unfold VD at he;split at he
 ·rename_i hk
  obtain⟨_,hok,⟨u,hu,_⟩,_⟩:=qp (tW hk h0).2;obtain⟨LP,hLP⟩:=aR.1 hok;have h64:=ym hLP;simp[jw] at he;rcases he with rfl|rfl
  ·refine⟨kD _ cK,?_⟩
   show(mN M cS o).data.length≤1000000;have:=XX (dm (eG M o));unfold mN;split<;>exact this
  exact⟨by show(eG M o).length≤1000;omega,hd⟩
 split at he
 ·simp[jO] at he
  rcases he with rfl|rfl
  ·exact⟨by show o.cW.length≤1000;omega,by simp[iQ]⟩
  exact⟨kD _ cK,XX _⟩
 split at he
 ·simp[zi] at he
  subst he;exact⟨by show o.cW.length≤1000;omega,hd⟩
 simp at he
theorem Fit.op{cP:cO}{M:List (cO×Nd)}{cS:Int}{dh:eF}{o:fh}(h:Fit M)(I:Inv cP M)(hl:yW o):Fit (oP cP M cS dh o):=by
 have:=h.all (Mq (cP:=cP) (cS:=cS) (dh:=dh) h hl) (cP:=cP);rw[zK I o] at this;exact this
theorem Gn{cP:cO}{cS:Int}{dh:eF}:∀(l:List fh) {M:List (cO×Nd)},Fit M→Inv cP M→(∀o∈l,yW o)→∀e∈mK cP cS dh M l,BS e
 |[],M,h,I,hl=>fun e he=>by simp[mK] at he
 |o::l,M,h,I,hl=>fun e he=>by
  unfold mK at he;split at he
  ·rcases List.mem_append.1 he with he|he
   ·exact Mq h (hl o (aV ..)) e he
   ·exact Gn l (h.op I (hl o (aV ..))) (I.op o) (fun x hx=>hl x (List.mem_cons_of_mem _ hx)) e he
  ·simp at he
def mH.Tf(o:mH):Prop:=∀p∈o.seq,yW p
theorem WY{cP:cO}{M:List (cO×Nd)}{cS:Int}{dh:eF}{ce:Int}{o:mH}(h:Fit M)(I:Inv cP M)(hl:ce=0→o.Tf):∀e∈zA cP M cS dh ce o,BS e:=by
 unfold zA;split
 ·intro e he;simp at he
 rename_i h0
 have hc:ce=0:=by
  by_cases hc:ce=0
  ·exact hc
  exfalso
  apply h0;unfold Ca;rw[if_pos hc];exact hc
 exact Gn _ h I (hl hc)
end
def ae0(n:Int):cO:=(List.range 10).map fun i=>Lib.dg n.toNat (9 - i)
def nD(M:List (cO×Nd))(o:fh):cO:=if o.seq then o.cW++ae0 ((dL (oz o.cW) M).getD iQ).num.next else o.cW
def TA(cP:cO)(M:List (cO×Nd))(dh:eF)(o:fh):Int:=
 if o.cW=cP then (if o.seq then 30 else 32)
 else if (EG (nD M o)).isSome=false then 30
 else match dL (oz (nD M o)) M with
 |none=>31
 |some u=>if iq u.num.os u.num.on=false then 34 else if o.mV=true∧iq dh.dy dh.n=true then 63 else if (dL (nD M o) M).isSome=true then 32 else if 48≤M.length then 36 else 0
def Ty(M:List (cO×Nd))(cS:Int)(o:fh):Nd:=if o.seq then GO (Cg ((dL (oz (nD M o)) M).getD iQ) cS) else Cg ((dL (oz (nD M o)) M).getD iQ) cS
def Tz(M:List (cO×Nd))(cS:Int)(dh:eF)(o:fh):List (cO×Nd):=iL (nD M o) (xy o.data cS dh o.mV) (iL (oz (nD M o)) (Ty M cS o) M)
def Ro(cP:cO)(M:List (cO×Nd))(o:fh):Int:=if o.cW=cP then 30 else if mI M o≠0 then mI M o else if (M.any fun x=>ahO cP o.cW x.1)=true then 33 else 0
def Rn(M:List (cO×Nd))(cS:Int)(o:fh):List (cO×Nd):=iL (oz o.cW) (Cg ((dL (oz o.cW) M).getD iQ) cS) (oO o.cW M)
def ahH(cP:cO)(M:List (cO×Nd))(dh:eF)(o:fh):Int:=
 if Y3 o.cW cP=false then 30
 else if o.kind=1 then TA cP M dh o
 else if o.kind=2 then Ro cP M o
 else if o.kind=3∨o.kind=4 then mI M o
 else if (dL o.cW M).isSome=false then 31 else 0
def VE(cP:cO)(M:List (cO×Nd))(cS:Int)(dh:eF)(o:fh):List (cO×Nd):=
 if ahH cP M dh o≠0 then M else if o.kind=1 then Tz M cS dh o else if o.kind=2 then Rn M cS o else if o.kind=3 then JM M cS o else M
theorem vD{M:List (cO×Nd)}{p:cO}{d:Nd}(h:nZ M)(hd:0≤d.num.next∧d.num.next<4294967296):nZ (iL p d M):=fun x hx=>by
 rcases qX hx with rfl|hx
 ·exact hd
 ·exact h x hx
theorem xx{M:List (cO×Nd)}(h:nZ M)(p:cO):0≤((dL p M).getD iQ).num.next∧((dL p M).getD iQ).num.next<4294967296:=by
 obtain⟨un,h1,h2⟩:=GM h p;omega
theorem vL(n:Int):0≤vM n∧vM n<4294967296:=by
 unfold vM;rw[IntKind.wrap_u32];omega
theorem nZ.op{cP:cO}{M:List (cO×Nd)}{cS:Int}{dh:eF}(h:nZ M)(o:fh):nZ (oP cP M cS dh o):=by
 unfold oP;split
 ·exact h
 split
 ·refine vD (vD h ?_) ⟨by show(0:Int)≤0;omega,by show(0:Int)<4294967296;omega⟩
  unfold mN;split
  ·exact vL _
  exact xx h _
 split
 ·exact vD (fun x hx=>h x (nM.subset hx)) (xx h _)
 split
 ·exact vD h (xx h _)
 exact h
section
open Go.RowKit Go.Shelf Go.MapKept Go.ChangeMaps Go.Maps Go.Sort
structure St(w0 w:aE)(b:Nat)(cP:cO)(cS:Int)(M:List (cO×Nd)):Prop where
 tr:TR w0 w b cP cS M
 inv:Inv cP M
 nice:nZ M
 tab:iz w0
 lo:0≤cS
section
variable{w0 w:World}{b:Nat}{cP:cO}{cS:Int}{M:List (cO×Nd)}
theorem St.pow(S:St w0 w b cP cS M):iz w:=jq S.tab S.tr.bl
theorem Ry{cP:cO}{M:List (cO×Nd)}{cS:Int}{dh:eF}{o:fh}:(jW cP M cS dh o).length≤2:=by
 unfold jW VD;split
 ·simp
 split
 ·simp[jw]
 split
 ·simp[jO]
 split
 ·simp[zi]
 simp
end
section
variable{cP:cO}{cS:Int}{dh:eF}
theorem vh:∀(l:List fh) (M:List (cO×Nd)),(mK cP cS dh M l).length≤2*l.length
 |[],M=>by simp[mK]
 |o::l,M=>by
  unfold mK;split
  ·rw[aW,List.length_cons]
   have h1:=Ry (cP:=cP) (M:=M) (cS:=cS) (dh:=dh) (o:=o);have h2:=vh l (oP cP M cS dh o);omega
  ·simp
theorem nZ.run:∀(l:List fh) {M:List (cO×Nd)},nZ M→nZ (runM cP cS dh M l)
 |[],M,h=>h
 |o::l,M,h=>by
  unfold runM;split
  ·exact nZ.run l (h.op o)
  ·exact h
end
theorem Vu(x:Int)(a:Option aY)(n c:Nat):∀y∈(#[.i x,.z,.n,.U,.U,.U,.I,.U,.V,.V,.V,.n,.slice a n c]:Array aD).toList,∀m,y≠.b m:=by
 intro y hy m
 change y∈[.i x,.z,.n,.U,.U,.U,.I,.U,.V,.V,.V,.n,.slice a n c] at hy
 simp only[List.mem_cons,List.not_mem_nil,or_false] at hy;rcases hy with rfl|rfl|rfl|rfl|rfl|rfl|rfl|rfl|rfl|rfl|rfl|rfl|rfl<;>(intro e;cases e)
theorem EI{w:aE}{base size n:Nat}{e:TypeId}{v:aD}{xs:List aD}(h:w.ownsRow base e size v n xs){g:Nat}(hg:v.ownBlock=some g):∃cur,w.heap[g]?=some (.cells cur e (0,0)):=by
 rcases h.2 with ⟨e1,_⟩|⟨g',cap,cur,e1,_,h2,_⟩
 ·rw[e1] at hg;cases hg
 rw[e1] at hg;have:g'=g:=by cases hg;rfl
 subst this;exact⟨cur,h2⟩
section
variable{X:Nat→Prop}{w0 w:World}{d b:Nat}{cP:cO}{cS cnt:Int}{M:List (cO×Nd)}{dh:eF}{v:Value}{L:List dr}{E:List gm}
def acB(x:Int):kg:=⟨x,[],oS,none,0,0⟩
structure aa7(X:Nat→Prop)(w0 w:aE)(d b:Nat)(cP:cO)(cS cnt:Int)(M:List (cO×Nd))(dh:eF)(v:aD)(E:List gm)(o:fh)(e:Ending)(w':aE):Prop where
 ret:∃(rr:kg) (v':aD) (L':List dr) (xQ:Int),e=.returned (.agg rr.cells.toArray)∧rr.e=mj cP M dh o∧kT w' (Xy w.heap.size v') rr (Oh cP M cS dh o)∧dx X w0 w' d b cP cS xQ (oP cP M cS dh o) dh v' L' (E++jW cP M cS dh o)∧cnt≤xQ∧xQ≤cnt+1∧(∀k,v'.ownBlock=some k→v.ownBlock=some k∨w.heap.size≤k)
 kept:cQ (fun k=>k=b∨k=d∨v.ownBlock=some k) w w'
theorem BO.uni(D:dx X w0 w d b cP cS cnt M dh v L E){o:fh}{e:Ending}{w':aE}(h:BO X w0 w d b cP cS cnt M dh v E o e w'):aa7 X w0 w d b cP cS cnt M dh v E o e w':=by
 rcases h with ⟨h0,xQ,c1,c2,⟨⟨v',L',r,ka,kc,he,D',G,hr,hk⟩,K⟩⟩|⟨hx,he,hb⟩
 ·refine⟨⟨⟨0,(Co cP M cS dh o).cW,r,ka,(Co cP M cS dh o).kids.length,kc⟩,v',L',xQ,he,h0.symm,?_,D',c1,c2,G⟩,K⟩
  unfold Oh;rw[if_neg (by simpa using h0)];exact⟨rfl,rfl,hr,rfl,hk⟩
 have hM:oP cP M cS dh o=M:=by unfold oP;rw[if_pos hx]
 have hXs:jW cP M cS dh o=[]:=by unfold jW;rw[if_pos hx]
 refine⟨⟨acB (mj cP M dh o),v,L,cnt,he,rfl,?_,?_,Int.le_refl _,by omega,fun k h=>.inl h⟩,cQ.eT hb⟩
 ·unfold Oh
  rw[if_pos hx];exact⟨rfl,rfl,mX _ _,rfl,gK.nil _ _ _⟩
 rw[hM,hXs,List.append_nil];exact D.below hb
theorem dx.QY(D:dx X w0 w d b cP cS cnt M dh v L E){S X':Nat→Prop}(hS:∀g,S g→X g∧w0.heap.size≤g∧∃cs,w.heap[g]?=some (.cells cs 47 (0,0))){w':aE}(hk:cQ S w w')(h1:∀k,X' k→X k∨w.heap.size≤k)(h2:∀k,X' k→k<w'.heap.size):dx X' w0 w' d b cP cS cnt M dh v L E:=by
 obtain⟨lo,mb,T,hlo⟩:=D.mG;have DF:¬S b:=fun e=>by
  obtain⟨_,_,cs,hg⟩:=hS b e;have:=T.blk;rw[hg] at this;cases this
 have hgd:¬S d:=fun e=>by
  obtain⟨_,_,cs,hg⟩:=hS d e;have:=D.blk;rw[hg] at this;cases this
 have hgm:¬S mb:=fun e=>by
  obtain⟨_,_,cs,hg⟩:=hS mb e;exact T.ET hg rfl
 have hgv:∀g,v.ownBlock=some g→¬S g:=fun g h e=>by
  obtain⟨_,_,cs,hg⟩:=hS g e;exact iX D.row.own hg cL h
 have T2:=T.both (lo':=fun k=>lo k∧k<w.heap.size) (fun k h3 h4=>⟨h3,h4⟩);have T':=T2.dZ hk (fun k h3 e=>(hlo k h3.1).2 (hS k e).1) DF hgm;have r1:=(D.Ar.both (lo':=fun k=>(v.ownBlock≠some k∧¬X k)∧k<w.heap.size) (fun k h3 h4=>⟨h3,h4⟩)).dZ hk (fun k h3 e=>h3.1.2 (hS k e).1);refine⟨⟨⟨_,_,T'⟩,D.tree.bl.trans (hk.below D.tree.bl.size (fun k e=>(hS k e).2.1)),D.tree.hb,D.tree.fit,D.tree.rl,D.tree.hm⟩,(hk.block d D.lt hgd).trans D.blk,⟨fA D.row.own hk hgv,r1.both (fun k h _=>h.1.1)⟩,D.hd,D.inv,r1.both (fun k h _=>⟨h.1.1,fun hX=>?_⟩),h2,_,mb,T',fun k hk=>⟨(hlo k hk.1).1,fun hX=>?_⟩⟩
 ·rcases h1 k hX with h3|h3
  ·exact h.1.2 h3
  have:=h.2;omega
 rcases h1 k hX with h3|h3
 ·exact(hlo k hk.1).2 h3
 have:=hk.2;omega
theorem dx.free(D:dx X w0 w d b cP cS cnt M dh v L E){X':Nat→Prop}(h1:∀k,X' k→X k):dx X' w0 w d b cP cS cnt M dh v L E:=by
 obtain⟨lo,mb,T,hlo⟩:=D.mG;exact⟨D.tree,D.blk,D.row,D.hd,D.inv,D.Ar.both (fun k h _=>⟨h.1,fun e=>h.2 (h1 k e)⟩),fun k h=>D.old k (h1 k h),lo,mb,T,fun k hk=>⟨(hlo k hk).1,fun e=>(hlo k hk).2 (h1 k e)⟩⟩
def Qc(X:Nat→Prop)(u:aD)(j:Nat):Prop:=u.ownBlock=some j∨X j
def BP(w:aE)(d b B:Nat)(v:aD)(j:Nat):Prop:=w.heap.size+3≤j∧j≠b∧j≠d∧j≠B∧v.ownBlock≠some j
structure IZ(X:Nat→Prop)(w:aE)(d b B:Nat)(cP:cO)(cS Ll:Int)(M:List (cO×Nd))(dh:eF)(ps:List fh)(k:Nat)(wr:aE):Prop where
 run:o6 cP cS dh M (ps.take k)=0
 bl:cE w wr
 res:wr.heap[w.heap.size+2]?=some (.cells #[.I,.z,.n,.U,.U,.U,.I,.U,.V,.V,.V,.n,.n] 47 (0,0))
 st:∃(v:aD) (L:List dr) (cnt:Int) (ra:Option aY) (rc:Nat) (LR:List kg),dx (Qc X (.slice ra k rc)) w wr d b cP cS cnt (runM cP cS dh M (ps.take k)) dh v L (mK cP cS dh M (ps.take k))∧Ll≤cnt∧cnt≤Ll+k∧LR.length=k
  ∧jD wr (w.heap.size+3) (BP w d b B v) (.slice ra k rc) LR (pZ cP cS dh M (ps.take k))
  ∧wr.heap[B]?=some (.cells #[.I,.z,.n,.U,.U,.U,.I,.U,.V,.V,.V,.n,.slice ra k rc] 47 (0,0))
  ∧(∀j,(aq ra k rc).ownBlock=some j→j≠B)
theorem RQ{X:Nat→Prop}{w wr w6 w7 w9 lR rY:aE}{d b B:Nat}{cP:cO}{cS cnt IF:Int}{Mk Mk':List (cO×Nd)}{dh:eF}{v v7:aD}{L L7:List dr}{Ek E7:List gm}{ra ra':Option aY}{rc rc' k:Nat}{LR:List kg}{XR:List wU}{rr:kg}{y:wU}
  (hd:w.heap.size+3≤d∧w.heap.size+3≤b∧w.heap.size+3≤B) (bl:cE w wr) (res:wr.heap[w.heap.size+2]?=some (.cells #[.I,.z,.n,.U,.U,.U,.I,.U,.V,.V,.V,.n,.n] 47 (0,0)))
  (D:dx (Qc X (.slice ra k rc)) w wr d b cP cS cnt Mk dh v L Ek) (hlr:LR.length=k)
  (RR:jD wr (w.heap.size+3) (BP w d b B v) (.slice ra k rc) LR XR)
  (kB:wr.heap[B]?=some (.cells #[.I,.z,.n,.U,.U,.U,.I,.U,.V,.V,.V,.n,.slice ra k rc] 47 (0,0))) (hgB:∀j,(aq ra k rc).ownBlock=some j→j≠B)
  (B6:cE wr w6) (hrd:kT w7 (Xy w6.heap.size v7) rr y)
  (D7:dx (Qc X (.slice ra k rc)) w w7 d b cP cS IF Mk' dh v7 L7 E7)
  (G7:∀j,v7.ownBlock=some j→v.ownBlock=some j∨w6.heap.size≤j)
  (K7:cQ (fun j=>j=b∨j=d∨v.ownBlock=some j) w6 w7) (B9:cE w7 w9):
  (w7.ownsRow (w.heap.size+3) 47 13 (.slice ra k rc) k (LR.flatMap kg.cells)∧w7.heap[B]?=some (.cells #[.I,.z,.n,.U,.U,.U,.I,.U,.V,.V,.V,.n,.slice ra k rc] 47 (0,0))∧w7.heap[w.heap.size+2]?=some (.cells #[.I,.z,.n,.U,.U,.U,.I,.U,.V,.V,.V,.n,.n] 47 (0,0))∧w.heap.size+3≤w7.heap.size∧B<w7.heap.size∧(∀j,(aq ra k rc).ownBlock=some j→j<wr.heap.size)∧wr.heap.size≤w6.heap.size∧w6.heap.size≤w7.heap.size)
  ∧(lR.ownsRow (w.heap.size+3) 47 13 (.slice ra' (k+1) rc') (k+1) (LR.flatMap kg.cells++rr.cells)→w9.grownBy lR (aq ra k rc).ownBlock→
   (∀j,(aq ra' (k+1) rc').ownBlock=some j→(aq ra k rc).ownBlock=some j∨w9.heap.size≤j)→cQ (·=B) lR rY→
   dx (Qc X (.slice ra' (k+1) rc')) w rY d b cP cS IF Mk' dh v7 L7 E7
   ∧jD rY (w.heap.size+3) (BP w d b B v7) (.slice ra' (k+1) rc') (LR++[rr]) (XR++[y])
   ∧cE w rY∧rY.heap[w.heap.size+2]?=some (.cells #[.I,.z,.n,.U,.U,.U,.I,.U,.V,.V,.V,.n,.n] 47 (0,0))∧(∀j,(aq ra' (k+1) rc').ownBlock=some j→j≠B)):=by
 have hdl:=D.lt;have gQ:=D.tree.lt;have hBl:B<wr.heap.size:=aB kB;have jt:∃cs,wr.heap[b]?=some (.cells cs 122 (0,0)):=by
  obtain⟨lo,mb,T,_⟩:=D.mG;exact⟨_,T.blk⟩
 have hdB:d≠B:=fun e=>by
  subst e;have:=D.blk;rw[kB] at this;cases this
 have hbB:b≠B:=fun e=>by
  subst e;obtain⟨cs,h⟩:=jt;rw[kB] at h;cases h
 have hvB:v.ownBlock≠some B:=iX D.row.own kB cL;have qg:v.ownBlock≠some (w.heap.size+2):=iX D.row.own res cL;have MN:=B6.size;have Wl:=K7.size;have hs9:=B9.size;have kB6:=(B6.block B hBl).trans kB;have kB7:=(K7.block B cK (fun h=>by
  rcases h with h|h|h
  ·exact hbB h.symm
  ·exact hdB h.symm
  exact hvB h)).trans kB6
 have kB9:=(B9.block B cK).trans kB7;have r6:=(B6.block _ (aB res)).trans res;have r7:=(K7.block (w.heap.size+2) (aB r6) (fun h=>by
  rcases h with h|h|h
  ·omega
  ·omega
  exact qg h)).trans r6
 have r9:=(B9.block _ (aB r7)).trans r7;have hro:∀j,(aq ra k rc).ownBlock=some j→w.heap.size+3≤j∧j<wr.heap.size∧j≠b∧j≠d∧v.ownBlock≠some j:=fun j h=>by
  obtain⟨h1,h2⟩:=RR.own.lt j h;obtain⟨cs,hcs⟩:=EI RR.own h;refine⟨h1,h2,fun e=>?_,fun e=>?_,iX D.row.own hcs cL⟩
  ·subst e
   obtain⟨cs',h⟩:=jt;rw[hcs] at h;cases h
  subst e;have:=D.blk;rw[hcs] at this;cases this
 have RRa:=RR.mono (lo':=fun j=>BP w d b B v j∧j<wr.heap.size) (fun j h1 h2=>⟨h1,h2⟩);have RRb:=RRa.dZ (cQ.eT (S:=fun _=>False) B6) (fun _ _ _ h=>h) (fun _ _ h=>h);have RRc:=RRb.dZ K7 (fun j hj _ h=>by
  rcases h with h|h|h
  ·exact hj.1.2.1 h
  ·exact hj.1.2.2.1 h
  ·exact hj.1.2.2.2.2 h) (fun j hj h=>by
  obtain⟨_,_,q1,q2,q3⟩:=hro j hj;rcases h with h|h|h
  ·exact q1 h
  ·exact q2 h
  exact q3 h)
 have RRd:=RRc.mono (lo':=BP w d b B v7) (fun j hj _=>⟨hj.1.1,hj.1.2.1,hj.1.2.2.1,hj.1.2.2.2.1,fun e=>by
  rcases G7 j e with h|h
  ·exact hj.1.2.2.2.2 h
  have:=hj.2;omega⟩)
 refine⟨⟨by rw[←hlr];exact(congrArg (fun n=>w7.ownsRow (w.heap.size+3) 47 13 (.slice ra n rc) LR.length (LR.flatMap kg.cells)) hlr).mpr RRd.own,kB7,r7,by omega,by omega,fun j h=>(hro j h).2.1,MN,Wl⟩,fun hown hg hw QA=>?_⟩;have KG:=gz hg;have aoC:=KG.size;have OX:=(KG.block B cK (fun h=>hgB B h rfl)).trans kB9;have r10:=(KG.block (w.heap.size+2) (aB r9) (fun h=>by have:=(hro _ h).1;omega)).trans r9;have hnB:∀j,(aq ra' (k+1) rc').ownBlock=some j→j≠B:=fun j h=>by
  rcases hw j h with h1|h1
  ·exact hgB j h1
  omega
 have hr':kT w7 (fun j=>BP w d b B v7 j∧(aq ra k rc).ownBlock≠some j) rr y:=hrd.mono (fun j hj hlt=>by
  obtain⟨h1,h2⟩:=hj;exact⟨⟨by omega,by omega,by omega,by omega,h2⟩,fun e=>by have:=(hro j e).2.1;omega⟩)
 have RRe:=RRd.more B9 hr' (by rw[hlr];exact hown) hg hw;have RRf:=RRe.dZ QA (fun j hj _ e=>hj.2.2.2.1 e) (fun j hj e=>hnB j hj e);have D9:=D7.below B9;have D10:=D9.QY (S:=fun j=>(aq ra k rc).ownBlock=some j) (X':=Qc X (.slice ra' (k+1) rc')) (fun g hg'=>⟨.inl hg',by have:=(hro g hg').1;omega,EI (lE RRd.own B9) hg'⟩) KG (fun j h=>h.elim (fun h=>(hw j h).imp .inl id) (fun h=>.inl (.inr h))) (fun j h=>h.elim (fun h=>(hown.lt j h).2) (fun h=>aJ (D9.old j (.inr h)) KG.size));have YU:=D10.iN OX (Vu _ _ _ _) cL cL cL cK QA;have b6:cE w w6:=bl.trans (B6.mono bl.size);have b7:cE w w7:=b6.trans (K7.below b6.size (fun j h=>by
  rcases h with h|h|h
  ·omega
  ·omega
  exact(D.row.own.lt j h).1))
 have b9:cE w w9:=b7.trans (B9.mono b7.size);have b10:cE w lR:=b9.trans (KG.below b9.size (fun j h=>by have:=(hro j h).1;omega));have Na:cE w rY:=b10.trans (QA.below b10.size (fun j h=>by have h:j=B:=h;omega));exact⟨YU,RRf,Na,(QA.block _ (aB r10) (fun e=>by have e:w.heap.size+2=B:=e;omega)).trans r10,hnB⟩
theorem IZ.next{X:Nat→Prop}{w wr rY:aE}{d b B:Nat}{cP:cO}{cS Ll IF:Int}{M:List (cO×Nd)}{dh:eF}{ps:List fh}{k:Nat}{v7:aD}{L7:List dr}{ra':Option aY}{rc':Nat}{LR:List kg}{rr:kg}{p:fh}(h:IZ X w d b B cP cS Ll M dh ps k wr)(hp:ps[k]?=some p)(hlr:LR.length=k)
  (h0:mj cP (runM cP cS dh M (ps.take k)) dh p=0) (c1:Ll≤IF) (c2:IF≤Ll+(k:Int)+1)
  (YU:dx (Qc X (.slice ra' (k+1) rc')) w rY d b cP cS IF (oP cP (runM cP cS dh M (ps.take k)) cS dh p) dh v7 L7 (mK cP cS dh M (ps.take k)++jW cP (runM cP cS dh M (ps.take k)) cS dh p))
  (RR:jD rY (w.heap.size+3) (BP w d b B v7) (.slice ra' (k+1) rc') (LR++[rr]) (pZ cP cS dh M (ps.take k)++[Oh cP (runM cP cS dh M (ps.take k)) cS dh p]))
  (Na:cE w rY) (r12:rY.heap[w.heap.size+2]?=some (.cells #[.I,.z,.n,.U,.U,.U,.I,.U,.V,.V,.V,.n,.n] 47 (0,0))) (hn:∀j,(aq ra' (k+1) rc').ownBlock=some j→j≠B)
  (kB:rY.heap[B]?=some (.cells #[.I,.z,.n,.U,.U,.U,.I,.U,.V,.V,.V,.n,.slice ra' (k+1) rc'] 47 (0,0))):IZ X w d b B cP cS Ll M dh ps (k+1) rY:=by
 have ht:ps.take (k+1)=ps.take k++[p]:=by rw[aX,hp];rfl
 obtain⟨e1,e2,e3,e4⟩:=Ao (cP:=cP) (cS:=cS) (dh:=dh) p (ps.take k) M h.run;refine⟨by rw[ht,e1,h0],Na,r12,v7,L7,IF,ra',rc',LR++[rr],?_,c1,by omega,by rw[aW,hlr];rfl,?_,kB,hn⟩
 ·rw[ht,e2,e3]
  exact YU
 rw[ht,e4];exact RR
theorem ZE{cP:cO}{cS:Int}{M:List (cO×Nd)}{dh:eF}{l:fh}{ps:List fh}(h7:l.kind=7)(h:o6 cP (cS+1) dh M ps=0):
  Ca cP M cS dh 0 ⟨l,ps⟩=0∧zA cP M cS dh 0 ⟨l,ps⟩=mK cP (cS+1) dh M ps∧PE cP M cS dh 0 ⟨l,ps⟩=lX∧PC cP M cS dh 0 ⟨l,ps⟩=pZ cP (cS+1) dh M ps:=by
 have hs:(⟨l,ps⟩:mH).seq=ps:=by unfold mH.seq;rw[if_pos h7]
 have hE:Ca cP M cS dh 0 ⟨l,ps⟩=0:=by unfold Ca;rw[if_neg cM,hs];exact h
 refine⟨hE,?_,?_,?_⟩
 ·unfold zA
  rw[hE,if_neg cM,hs]
 ·unfold PE
  rw[if_neg (fun h2=>h2.2 h7)]
 unfold PC;rw[if_pos ⟨rfl,h7⟩]
theorem VR{cP:cO}{cS:Int}{M:List (cO×Nd)}{dh:eF}{l p:fh}{ps:List fh}{k:Nat}(h7:l.kind=7)(hp:ps[k]?=some p)(h:o6 cP (cS+1) dh M (ps.take k)=0)(hx:mj cP (runM cP (cS+1) dh M (ps.take k)) dh p≠0):
  Ca cP M cS dh 0 ⟨l,ps⟩=mj cP (runM cP (cS+1) dh M (ps.take k)) dh p∧zA cP M cS dh 0 ⟨l,ps⟩=[]∧PE cP M cS dh 0 ⟨l,ps⟩=lX∧PC cP M cS dh 0 ⟨l,ps⟩=pZ cP (cS+1) dh M (ps.take k)++[Oh cP (runM cP (cS+1) dh M (ps.take k)) (cS+1) dh p]:=by
 have hs:(⟨l,ps⟩:mH).seq=ps:=by unfold mH.seq;rw[if_pos h7]
 have ht:ps.take (k+1)=ps.take k++[p]:=by rw[aX,hp];rfl
 obtain⟨e1,e2,e3,e4⟩:=Ao (cP:=cP) (cS:=cS+1) (dh:=dh) p (ps.take k) M h;have hps:ps=(ps.take k++[p])++ps.drop (k+1):=by rw[←ht,List.take_append_drop]
 obtain⟨s1,s2⟩:=Gl (cP:=cP) (cS:=cS+1) (dh:=dh) (ps.drop (k+1)) (ps.take k++[p]) M (by rw[e1];exact hx);rw[←hps] at s1 s2;have hE:Ca cP M cS dh 0 ⟨l,ps⟩=mj cP (runM cP (cS+1) dh M (ps.take k)) dh p:=by unfold Ca;rw[if_neg cM,hs,s1,e1]
 refine⟨hE,?_,?_,?_⟩
 ·unfold zA
  rw[hE,if_pos hx]
 ·unfold PE
  rw[if_neg (fun h2=>h2.2 h7)]
 unfold PC;rw[if_pos ⟨rfl,h7⟩];show pZ cP (cS+1) dh M ps=_;rw[s2,e4]
end
section
variable{w0 w:World}{b:Nat}{cP:cO}{cS:Int}{M:List (cO×Nd)}
theorem Tw{X:Nat→Prop}(UQ:∀k,X k→k<w.heap.size)(F:jC X w b cP cS M)(R:TR w0 w b cP cS M)(I:Inv cP M)(hm:dM w)(h0:0≤cS)(h1:cS≤90000)(NX:nZ M)(PT:iz w)(r:di)(o:mH)(dh:eF)(hr:fo w (fun k=>k<w.heap.size∧¬X k) r o.leaf)(HC:∀w',cE w w'→aN prog 29 #[r.val] w' (oF w' 0))(hg:o.leaf.kind=7∧r.pn=o.parts.length∧o.parts.length≤6∧wF X w r.pa o.parts):
  aN prog 30 #[.p b,r.val,Ce dh] w (Nu X w cP M cS dh 0 o):=by
 obtain⟨ok,op,oa,on,oc,ov,os,oe,qa,qn,qc⟩:=r;obtain⟨s,n⟩:=dh;obtain⟨⟨lk,lp,ld,lv,ls,le⟩,ps⟩:=o;obtain⟨q1,q2,q3,q4,q5,q6,q7,q8⟩:=hr;have hr:fo w (fun k=>k<w.heap.size∧¬X k) ⟨ok,op,oa,on,oc,ov,os,oe,qa,qn,qc⟩ ⟨lk,lp,ld,lv,ls,le⟩:=⟨q1,q2,q3,q4,q5,q6,q7,q8⟩;clear q3 q4 q5 q6 q7 q8;dsimp only at q1 q2;subst q1 q2;unfold di.val di.cells Ce;unfold di.val di.cells at HC;dsimp only at HC⊢;obtain⟨w1,hw1,dB,hs1,k0,k1,k2⟩:=Bt w ok op oa on oc ov os oe qa qn qc s n;have sG:Hid (cG 35 7):=cD cJ;have mh:Hid (cG 47 13):=cD iH;have za:Hid (cG 31 2):=cD cJ;have H1:=cD (cC dB (cC hs1 (cC k0 (cC k1 (cC k2 hw1)))));have FL:=cD (dJ k0);have Qw:=HC w1 dB;have FW:=cD Qw;have HI:=cD (cC R (cC I (cC hm (cC h0 (cC h1 (cC NX PT))))));have HG:=cD (cC hr hg);have HF:=cD (cC F UQ);clear F UQ;have tw:∀_:True,IntKind.u64.wrap (cS+1)=cS+1:=fun _=>by rw[aQ];omega
 clear HC dB hs1 k0 k1 k2 Qw R I hm h0 h1 NX PT hr hg;go_enter func30,ntmps30
 go_wp2_with fail
 rw[←hw1];clear hw1;refine FW.out.mono ?_;rintro e w2 ⟨rfl,B2⟩;have Xx:cE w w2:=H1.out.1.trans (B2.mono H1.out.1.size);have CN:Hid (w2.drew.rangeAt (w.heap.size+1) 0 [.i s,.u n]):=cD (dJ (w:=w2.drew) ((B2.block (w.heap.size+1) (by have:=H1.out.2.1;omega)).trans H1.out.2.2.2.1));have pT:=cD (jC.clone (wC HI.out.1 Xx.drew) (HF.out.1.below Xx.drew));have H2:=cD (cC B2 Xx);clear B2 Xx;go_wp2_with fail
 refine af (S:=fun w'=>ah w' (w.heap.size+1) 0 [.i s,.u n]) cJ CN.out (fun hS=>?_);refine tI 0 rfl hS ?_;refine tI 2 rfl hS ?_;refine tL 5 rfl hS 31 (.tmp 5) (w.heap.size+1) 0 [.i s,.u n] (fun _ h=>h) underlying31 za.out ?_;simp only[cR];refine cI 1 rfl ?_;refine pT.out.mono ?_;rintro e w3 ⟨b2,rfl,⟨RC,FC⟩,dI,wP⟩;have HFC:=cD FC;clear FC;have B3:cE w2 w3:=(ag _ w2).drew.trans wP;have ek:ah w3 (w.heap.size+1) 0 [.i s,.u n]:=dR CN.out wP (by have:=H1.out.2.1;have:=H2.out.1.size;show w.heap.size+1<w2.heap.size;omega);have B03:cE w w3:=H2.out.2.trans (B3.mono H2.out.2.size);have Jo:=cD (wC HI.out.1 B03).FA;have SO:w2.heap.size≤b2:=dI;have H3:=cD (cC RC (cC SO (cC B3 B03)));clear RC dI SO wP B3 B03 hS;refine⟨ek,?_⟩
 try dsimp only
 simp only[cR];refine cI 3 rfl ?_;refine Jo.out.mono ?_;rintro e w3' ⟨rfl,rfl⟩;refine⟨ek,?_⟩
 try dsimp only
 simp only[cR];refine tI 4 rfl ek ?_;refine tI 6 rfl ek ?_;simp only[cR];obtain⟨w4,lP⟩:=cF (w3.alloc (.cells #[.p b2,.v (cS+1),.i s,.u n,.n] 158));have D4:dx X w w4 w3.heap.size b2 cP (cS+1) cS M ⟨s,n⟩ (.n) [] []:=by rw[lP];exact IA H3.out.1 HFC.out (fun k h=>aJ (HF.out.2 k h) H3.out.2.2.2.size) H3.out.2.2.2 (aI H2.out.2.size H3.out.2.1) HI.out.2.2.1 HI.out.2.1 _ _ _
 have B4:cE w3 w4:=by rw[lP];exact cT (ag _ w3) _
 have hs4:w4.heap.size=w3.heap.size+1:=by rw[lP];simp
 have eV:ah w4 (w.heap.size+1) 0 [.i s,.u n]:=dR ek B4 (by have:=H1.out.2.1;have:=H2.out.1.size;have:=H3.out.2.2.1.size;omega);have Jk:=cD lP;have H4:=cD (cC D4 (cC B4 hs4));clear D4 B4 hs4;refine sB 7 rfl cJ cN (.p w3.heap.size) w4 (by rw[Jk.out];go_simp<;>first|rfl|exact⟨rfl,rfl⟩) eV ?_;clear lP ek;simp only[cR];refine tI 8 rfl eV ?_;simp only[cR];refine ay cJ ?_ _;clear eV;obtain⟨w5,nI⟩:=cF (w4.alloc (.cells #[.I,.z,.n,.U,.U,.U,.I,.U,.V,.V,.V,.n,.n] 47));have B5:cE w4 w5:=by rw[nI];exact cT (ag _ w4) _
 have hs5:w5.heap.size=w4.heap.size+1:=by rw[nI];simp
 have k5:w5.heap[w4.heap.size]?=some (.cells #[.I,.z,.n,.U,.U,.U,.I,.U,.V,.V,.V,.n,.n] 47 (0,0)):=by rw[nI];exact aj w4 _
 have Uu:cE w1 w5:=H2.out.1.trans ((H3.out.2.2.1.trans ((H4.out.2.1.trans (B5.mono H4.out.2.1.size)).mono H3.out.2.2.1.size)).mono H2.out.1.size);have LZ:cE w w5:=H1.out.1.trans (Uu.mono H1.out.1.size);have V5:w5.heap[w.heap.size]?=some (.cells #[.b ok,.s op,.slice oa on oc,.i ov,.bool os,.bool oe,.slice qa qn qc] 35 (0,0)):=(Uu.block _ (by have:=H1.out.2.1;omega)).trans H1.out.2.2.1;have Sa:w5.heap[w.heap.size+2]?=some (.cells #[.I,.z,.n,.U,.U,.U,.I,.U,.V,.V,.V,.n,.n] 47 (0,0)):=(Uu.block _ (by have:=H1.out.2.1;omega)).trans H1.out.2.2.2.2.1;have Xi:=cD nI;have HR5:=cD (dJ V5);have z0:w5.cell? ⟨w.heap.size,0,none⟩=some (.b ok):=aa _ _ 0 _ 35 (0,0) V5;have H5:=cD (cC (H4.out.1.below B5) (cC hs5 (cC k5 (cC Uu (cC LZ (cC V5 (cC Sa (cC H4.out.2.2 (by have:=H1.out.2.1;have:=H2.out.1.size;have:=H3.out.2.2.1.size;omega:w.heap.size+3≤w3.heap.size)))))))));clear nI B5 hs5 k5 Uu LZ V5 Sa;have hk7:ok=7:=HG.out.2.1;have t7:(ok != 7)=false:=by rw[hk7];rfl
 have hqn:qn≤6:=by have h1:=HG.out.2.2.1;have h2:=HG.out.2.2.2.1;omega
 obtain⟨i0,wS,hz0,hz1,hz2⟩:=info_parts O2;go_upto_region 8 with fail
 rw[←Xi.out];have z6:w5.cell? ⟨w.heap.size,6,none⟩=some (.slice qa qn qc):=aa _ _ 6 _ 35 (0,0) H5.out.2.2.2.2.2.1;have Ui:Hid (IZ X w w3.heap.size b2 w4.heap.size cP (cS+1) cS M ⟨s,n⟩ ps 0 w5):=cD ⟨rfl,H5.out.2.2.2.2.1,H5.out.2.2.2.2.2.2.1,_,_,cS,none,0,[],H5.out.1.free (fun k h=>h.elim (fun h=>by simp[aA] at h) id),Int.le_refl _,by omega,rfl,JS _ _ _,H5.out.2.2.1,fun j h=>by simp[aA] at h⟩;clear hk7;go_wp2_with fail
 go_loopw [41] (fun ci wr=>∃k:Nat,k≤qn∧ci=.i k∧Hid (IZ X w w3.heap.size b2 w4.heap.size cP (cS+1) cS M ⟨s,n⟩ ps k wr)) (fun ci _=>qn - (intOf ci).toNat)
 case atStart=>exact⟨0,by omega,rfl,Ui⟩
 obtain⟨k,hk,rfl,HS⟩:=hrel;by_cases hlt:k<qn
 ·obtain⟨p,hp⟩:∃p,ps[k]?=some p:=⟨_,List.getElem?_eq_getElem (by have:=HG.out.2.2.1;omega)⟩
  obtain⟨g,off,⟨pk,pp,da,dn,dc,pv,Zt,Zu,fa,fn,fc⟩,hqa,SG,fS,hlf,hly⟩:=HG.out.2.2.2.2 k p hp;subst hqa;obtain⟨v,L,cnt,ra,rc,LR,D,c1,c2,hlr,RR,kB,hgB⟩:=HS.out.st;have gQ:=HS.out.bl;have adz:wr.rangeAt g (off+k*7) [.b pk,.s pp,.slice da dn dc,.i pv,.bool Zt,.bool Zu,.slice fa fn fc]:=dR fS gQ SG;obtain⟨w6,mU⟩:=cF (wr.alloc (.cells #[.b pk,.s pp,.slice da dn dc,.i pv,.bool Zt,.bool Zu,.slice fa fn fc] 35));have B6:cE wr w6:=by rw[mU];exact cT (ag _ wr) _
  have hx6:w6.rangeAt wr.heap.size 0 [.b pk,.s pp,.slice da dn dc,.i pv,.bool Zt,.bool Zu,.slice fa fn fc]:=dJ (t:=35) (fr:=(0,0)) (by rw[mU];exact aj wr _);have D6:=D.below B6;have hl1:(mK cP (cS+1) ⟨s,n⟩ M (ps.take k)).length≤900:=aI (vh _ _) (by rw[List.length_take];omega);have hon:=D6.GF (aT HI.out.2.2.2.1 c1) (by have:=HI.out.2.2.2.2.1;omega) hl1 (HI.out.2.2.2.2.2.1.run _) (jq HI.out.2.2.2.2.2.2 (gQ.trans (B6.mono gQ.size))) ⟨pk,pp,da,dn,dc,pv,Zt,Zu,fa,fn,fc⟩ p (hlf.below (gQ.trans (B6.mono gQ.size))) (fun j hj=>⟨fun e=>by have h1:=(D.row.own.lt j e).1;have hj:j<w.heap.size:=hj.1;omega,fun e=>e.elim (fun e=>by have h1:=(RR.own.lt j e).1;have hj:j<w.heap.size:=hj.1;omega) hj.2⟩) hly;unfold di.val di.cells at hon;dsimp only at hon;have abo:=cD hon;have nT:=cD adz;have HX6:=cD hx6;have Ef:=cD mU;have HP:=cD hp;have YL:=cD (cC hlr (cC hgB (cC c1 c2)));have HD6:=cD (cC D (cC RR (cC kB (cC B6 D6))));have HLT:=cD hlt;clear hon adz hx6 mU hp hlr hgB D RR kB B6 D6 hl1 fS hlf hly gQ c1 c2 SG;go_wp2_with (first
   |(refine aG rfl 35 (.tmp 43) rfl g (off+k*7) rfl [.b pk,.s pp,.slice da dn dc,.i pv,.bool Zt,.bool Zu,.slice fa fn fc] _ nT.out underlying35 rfl sG.out ?_)
   |(rw[←Ef.out];refine aG rfl 35 (.tmp 12) rfl wr.heap.size 0 rfl [.b pk,.s pp,.slice da dn dc,.i pv,.bool Zt,.bool Zu,.slice fa fn fc] _ HX6.out underlying35 rfl sG.out ?_))
  refine abo.out.mono ?_;rintro e w7 h7;obtain⟨⟨⟨x,px,⟨ba,bn,bc,⟨b1,Yx,b3,b4,b5,b6,b7,b8⟩⟩,ka,kn,kc⟩,v7,L7,IF,rfl,hx,hrd,D7,c3,c4,G7⟩,K7⟩:=BO.uni HD6.out.2.2.2.2 h7;unfold kg.cells eL Raw.cells eU.cells;dsimp only[aF,aC];dsimp only at hx;obtain⟨w8,uC⟩:=cF (w7.alloc (.cells #[.i x,.s px,.slice ba bn bc,.u b1,.u Yx,.u b3,.i b4,.u b5,.v b6,.v b7,.v b8,.slice ka kn kc,.n] 47));have B8:cE w7 w8:=by rw[uC];exact cT (ag _ w7) _
  have MM:w8.heap.size=w7.heap.size+1:=by rw[uC];simp
  have k8:w8.heap[w7.heap.size]?=some (.cells #[.i x,.s px,.slice ba bn bc,.u b1,.u Yx,.u b3,.i b4,.u b5,.v b6,.v b7,.v b8,.slice ka kn kc,.n] 47 (0,0)):=by rw[uC];exact aj w7 _
  obtain⟨w9,nH⟩:=cF (w8.alloc (.cells #[.i x,.s px,.slice ba bn bc,.u b1,.u Yx,.u b3,.i b4,.u b5,.v b6,.v b7,.v b8,.slice ka kn kc,.n] 47));have B89:cE w8 w9:=by rw[nH];exact cT (ag _ w8) _
  have hs9:w9.heap.size=w8.heap.size+1:=by rw[nH];simp
  have k9:w9.heap[w8.heap.size]?=some (.cells #[.i x,.s px,.slice ba bn bc,.u b1,.u Yx,.u b3,.i b4,.u b5,.v b6,.v b7,.v b8,.slice ka kn kc,.n] 47 (0,0)):=by rw[nH];exact aj w8 _
  have B9:cE w7 w9:=B8.trans (B89.mono B8.size);have hst:=fun lR rY ra' rc'=>RQ (lR:=lR) (rY:=rY) (ra':=ra') (rc':=rc') (by have h3w:=H5.out.2.2.2.2.2.2.2.2;have hs4:=H5.out.2.2.2.2.2.2.2.1;have:=H3.out.2.1;have:=H1.out.2.1;have:=H2.out.1.size;exact⟨by omega,by omega,by omega⟩:w.heap.size+3≤w3.heap.size∧w.heap.size+3≤b2∧w.heap.size+3≤w4.heap.size) HS.out.bl HS.out.res HD6.out.1 YL.out.1 HD6.out.2.1 HD6.out.2.2.1 YL.out.2.1 HD6.out.2.2.2.1 hrd D7 G7 K7 B9
  have xL:=(hst w9 w9 none 0).1;have Jl:=cD hst;have kB8:=(B8.block _ xL.2.2.2.2.1).trans xL.2.1;have ajc:=xL.2.2.2.2.2;have acT:=lE xL.1 B9;have kB9:=(B9.block _ xL.2.2.2.2.1).trans xL.2.1;have SN:w.heap.size+3≤w9.heap.size:=by have:=xL.2.2.2.1;omega
  have hBlt:w4.heap.size<w7.heap.size:=xL.2.2.2.2.1;have qG:∀j,(aq ra k rc).ownBlock=some j→j≠w7.heap.size:=fun j h=>by have:=xL.2.2.2.2.2.1 j h;omega
  have Lz:w8.cell? ⟨w4.heap.size,12,none⟩=some (.slice ra k rc):=aa _ _ 12 _ 47 (0,0) kB8;have HR8:=cD (dJ k8);have hC9:∀j u,([.i x,.s px,.slice ba bn bc,.u b1,.u Yx,.u b3,.i b4,.u b5,.v b6,.v b7,.v b8,.slice ka kn kc,.n]:List aD)[j]?=some u→w9.cell? ((⟨w8.heap.size,0,none⟩:aY).add j)=some u:=fun j u hu=>by
   rw[Addr.add_lit,Nat.zero_add];have:=dJ k9 j u hu;rw[Nat.zero_add] at this;exact this
  have hpl:∀u∈([.i x,.s px,.slice ba bn bc,.u b1,.u Yx,.u b3,.i b4,.u b5,.v b6,.v b7,.v b8,.slice ka kn kc,.n]:List aD),u.oneCell'=true:=by intro u hu;simp only[List.mem_cons,List.not_mem_nil,or_false] at hu;rcases hu with rfl|rfl|rfl|rfl|rfl|rfl|rfl|rfl|rfl|rfl|rfl|rfl|rfl<;>rfl
  have zx:k+1≤maxLen:=by unfold maxLen;omega
  have hm2:(k+1)*152≤140737488355328:=by omega
  have HA:=cD (cC acT (cC hC9 (cC hpl (cC zx (cC hm2 SN)))));have H8:=cD (cC k8 (cC MM (cC hs9 (cC B89 (cC kB9 (cC hBlt (cC qG (cC hx (cC c3 c4)))))))));have Ee:=cD uC;have Uc:=cD nH;have hgB:=YL.out.2.1;clear hrd D7 G7 K7 B9 hst xL kB8 ajc acT kB9 SN hBlt qG hC9 hpl zx hm2 k8 MM hs9 k9 B8 B89 hx c3 c4 h7 uC nH;go_upto_region 14 with fail
  rw[←Ee.out];go_upto_region 15 with (first
   |(refine aG rfl 47 (.tmp 13) rfl w7.heap.size 0 rfl [.i x,.s px,.slice ba bn bc,.u b1,.u Yx,.u b3,.i b4,.u b5,.v b6,.v b7,.v b8,.slice ka kn kc,.n] _ HR8.out underlying47 rfl mh.out ?_)
   |(at_builtin;rw[←Uc.out];refine eD rfl (.tmp 49) (.tmp 51) 45 rfl (w.heap.size+3) 47 i0 (.agg #[.I,.z,.n,.U,.U,.U,.I,.U,.V,.V,.V,.n,.n]) 13 152 underlying45 wS hz0 hz1 hz2 rfl cL (.slice ra k rc) k (LR.flatMap kg.cells) rfl HA.out.1 ⟨w8.heap.size,0,none⟩ 1 1 [.i x,.s px,.slice ba bn bc,.u b1,.u Yx,.u b3,.i b4,.u b5,.v b6,.v b7,.v b8,.slice ka kn kc,.n] rfl rfl HA.out.2.1 HA.out.2.2.1 HA.out.2.2.2.1 HA.out.2.2.2.2.1 HA.out.2.2.2.2.2 ?_;intro v10 lR hown10 hgrow10 hwh10;have OX:=(hgrow10.block w4.heap.size (by have:=H8.out.2.2.2.2.2.1;have:=H8.out.2.1;have:=H8.out.2.2.1;omega) (fun e=>hgB _ e.symm rfl)).trans H8.out.2.2.2.2.1;have ZL:=(hgrow10.block w7.heap.size (by have:=H8.out.2.1;have:=H8.out.2.2.1;omega) (fun e=>H8.out.2.2.2.2.2.2.1 _ e.symm rfl)).trans ((H8.out.2.2.2.1.block w7.heap.size (by have:=H8.out.2.1;omega)).trans H8.out.1);have q12:lR.cell? ⟨w4.heap.size,12,none⟩=some (.slice ra k rc):=aa _ _ 12 _ 47 (0,0) OX;have f12:lR.frozen? ⟨w4.heap.size,12,none⟩=false:=(by simp[aL,OX]);obtain⟨ra',rc',qg⟩:=iE hown10;subst qg;have I6:=cD (cC hown10 (cC hgrow10 (cC hwh10 (cC OX ZL))));clear hown10 hgrow10 hwh10 OX ZL))
  obtain⟨sU,qF⟩:=cF (lR.setCell ⟨w4.heap.size,12,none⟩ (.slice ra' (k+1) rc'));rw[←qF];have YH:cQ (·=w4.heap.size) lR sU:=by rw[qF];exact cQ.setCell (S:=(·=w4.heap.size)) (p:=⟨w4.heap.size,12,none⟩) (cQ.refl _ lR) rfl _
  have Wa:sU.heap[w4.heap.size]?=some (.cells #[.I,.z,.n,.U,.U,.U,.I,.U,.V,.V,.V,.n,.slice ra' (k+1) rc'] 47 (0,0)):=by rw[qF];simp[aP,aH,I6.out.2.2.2.1]
  have aiz:w7.heap.size≠w4.heap.size:=by have:=H8.out.2.2.2.2.2.1;omega
  have k11:=(YH.block w7.heap.size (aB I6.out.2.2.2.2) aiz).trans I6.out.2.2.2.2;have y0:sU.cell? ⟨w7.heap.size,0,none⟩=some (.i x):=aa _ _ 0 _ 47 (0,0) k11;have q0:sU.cell? ⟨w4.heap.size,0,none⟩=some (.I):=aa _ _ 0 _ 47 (0,0) Wa;have f0:sU.frozen? ⟨w4.heap.size,0,none⟩=false:=by simp[aL,Wa]
  have Up:=cD (cC YH Wa);clear YH Wa k11 qF;go_upto_region 16 with fail
  obtain⟨rY,Wk⟩:=cF (sU.setCell ⟨w4.heap.size,0,none⟩ (.i x));rw[←Wk];have QA:cQ (·=w4.heap.size) lR rY:=by rw[Wk];exact cQ.setCell (S:=(·=w4.heap.size)) (p:=⟨w4.heap.size,0,none⟩) Up.out.1 rfl _
  have ZJ:rY.heap[w4.heap.size]?=some (.cells #[.i x,.z,.n,.U,.U,.U,.I,.U,.V,.V,.V,.n,.slice ra' (k+1) rc'] 47 (0,0)):=by rw[Wk];simp[aP,aH,Up.out.2]
  have z0:rY.cell? ⟨w4.heap.size,0,none⟩=some (.i x):=aa _ _ 0 _ 47 (0,0) ZJ;have zz:=(Jl.out lR rY ra' rc').2 I6.out.1 I6.out.2.1 I6.out.2.2.1 QA;have Jp:=cD (cC zz ZJ);clear zz QA ZJ Wk q0 f0 y0;by_cases hx0:x=0
  ·have tx:(x != 0)=false:=by rw[hx0];rfl
   have h0:mj cP (runM cP (cS+1) ⟨s,n⟩ M (ps.take k)) ⟨s,n⟩ p=0:=by rw[←H8.out.2.2.2.2.2.2.2.1,hx0]
   have qG:=HS.out.next HP.out YL.out.1 h0 (aT YL.out.2.2.1 H8.out.2.2.2.2.2.2.2.2.1) (by have:=H8.out.2.2.2.2.2.2.2.2.2;have:=YL.out.2.2.2;omega) Jp.out.1.1 Jp.out.1.2.1 Jp.out.1.2.2.1 Jp.out.1.2.2.2.1 Jp.out.1.2.2.2.2 (by have h:=Jp.out.2;rw[hx0] at h;exact h);have Cc:=cD qG;have hlt:=HLT.out;clear qG h0 hx0;go_wp2_with fail
   go_roundw
   case rel=>exact⟨k+1,by omega,by go_num,Cc⟩
   case measure=>simp[intOf];omega
  have tx:(x != 0)=true:=by simpa using hx0
  have FJ:=cD hx0;have ZI:=Jp.out.1.2.2.2.1;have adp:rY.there (w.heap.size+2) 0 13:=eE ZI cM;have afl:=cD (cC adp ZI);have YO:=cD (dJ (w:=rY.drew) Jp.out.2);have gG:Hid ((#[.i x,.z,.n,.U,.U,.U,.I,.U,.V,.V,.V,.n,.slice ra' (k+1) rc']:Array aD).all (·.oneCell')=true):=cD (by simp[au]);clear hx0 ZI adp;go_wp2_with fail
  refine af (S:=fun w'=>ah w' w4.heap.size 0 [.i x,.z,.n,.U,.U,.U,.I,.U,.V,.V,.V,.n,.slice ra' (k+1) rc']) cJ YO.out (fun hS=>?_);refine tL 0 rfl hS 47 (.tmp 10) w4.heap.size 0 [.i x,.z,.n,.U,.U,.U,.I,.U,.V,.V,.V,.n,.slice ra' (k+1) rc'] (fun _ h=>h) underlying47 mh.out ?_;refine tI 1 rfl hS ?_;simp only[cR];refine sI 2 rfl 47 (.tmp 7) (.tmp 64) (w.heap.size+2) 0 #[.i x,.z,.n,.U,.U,.U,.I,.U,.V,.V,.V,.n,.slice ra' (k+1) rc'] afl.out.1 mh.out gG.out (mR hS (by have:=H5.out.2.2.2.2.2.2.2;omega)) ?_;simp only[cR];refine ay cJ ?_ _;go_wp2_with fail
  refine aK (gE rfl _ _ (w.heap.size+2) 0 [.i x,.z,.n,.U,.U,.U,.I,.U,.V,.V,.V,.n,.slice ra' (k+1) rc'] _ rfl (an _ _ _ _ afl.out.1) underlying47 rfl mh.out) rfl ?_;obtain⟨YU,afb,Na,r12,aoM⟩:=Jp.out.1;have K9:cQ (·=w.heap.size+2) rY.drew (rY.drew.setCells (w.heap.size+2) 0 [.i x,.z,.n,.U,.U,.U,.I,.U,.V,.V,.V,.n,.slice ra' (k+1) rc']):=cQ.setCells (S:=(·=w.heap.size+2)) (p:=w.heap.size+2) rfl _ 0 (cQ.refl _ rY.drew);have B09:cE w (rY.drew.setCells (w.heap.size+2) 0 [.i x,.z,.n,.U,.U,.U,.I,.U,.V,.V,.V,.n,.slice ra' (k+1) rc']):=Na.drew.trans (K9.below Na.size (fun j e=>by have e:j=w.heap.size+2:=e;omega));have hEx:=H8.out.2.2.2.2.2.2.2.1;obtain⟨e1,e2,e3,e4⟩:=VR (cP:=cP) (cS:=cS) (M:=M) (dh:=⟨s,n⟩) (l:=⟨ok,op,ld,lv,ls,le⟩) (ps:=ps) HG.out.2.1 HP.out HS.out.run (by rw[←hEx];exact FJ.out);rw[←hEx] at e1;have RR9:=(afb.dZ (cQ.eT (S:=fun _=>False) (ag _ rY).drew) (fun _ _ _ h=>h) (fun _ _ h=>h)).dZ K9 (fun j hj _ e=>by have e:j=w.heap.size+2:=e;have:=hj.1;omega) (fun j hj e=>by have e:j=w.heap.size+2:=e;have:=(afb.own.lt j hj).1;omega);obtain⟨pa,pc,hv,Kw⟩:=RR9.VU (lo':=fU w.heap.size) (fun j hj _=>by have:=hj.1;show w.heap.size≤j;omega) (fun j hj=>by show w.heap.size≤j;omega);refine⟨.n,_,rfl,?_,?_,⟨B09,fun b e=>by simp[aA] at e⟩⟩
  ·rw[e2]
   exact iB.nil _ _
  rw[e1,e3,e4];refine⟨oS,none,0,pa,pc,?_,mX _ _,gK.nil _ _ _,Kw⟩;rw[hv];rfl
 obtain rfl:qn=k:=by omega
 have hfull:ps.take qn=ps:=List.take_of_length_le (by have:=HG.out.2.2.1;omega);have hrun:=HS.out.run;have hst:=HS.out.st;rw[hfull] at hrun hst;obtain⟨v,L,cnt,ra,rc,LR,D,c1,c2,hlr,RR,kB,hgB⟩:=hst;have z0:wr.cell? ⟨w4.heap.size,0,none⟩=some (.I):=aa _ _ 0 _ 47 (0,0) kB;have zv:wr.cell? ⟨w3.heap.size,4,none⟩=some v:=aa _ _ 4 _ 158 (0,0) D.blk;have YO:Hid (ah wr.drew w4.heap.size 0 [.I,.z,.n,.U,.U,.U,.I,.U,.V,.V,.V,.n,.slice ra qn rc]∧wr.drew.cell? ⟨w3.heap.size,4,none⟩=some v):=cD ⟨dJ kB,zv⟩;have kr:=HS.out.res;have ht:wr.there (w.heap.size+2) 0 13:=eE kr cM;have HT:=cD (cC ht kr);have gG:Hid ((#[.I,.z,.n,.U,.U,.U,.I,.U,.V,.V,.V,.n,.slice ra qn rc]:Array aD).all (·.oneCell')=true):=cD (by simp[au]);have HE:=cD (cC hrun (cC D (cC RR hlr)));clear hfull hrun D RR kB hgB kr ht zv hlr c1 c2 hlt hk;go_wp2_with fail
 refine af (S:=fun w'=>ah w' w4.heap.size 0 [.I,.z,.n,.U,.U,.U,.I,.U,.V,.V,.V,.n,.slice ra qn rc]∧w'.cell? ⟨w3.heap.size,4,none⟩=some v) cJ YO.out (fun hS=>?_);have yv:∀w',(ah w' w4.heap.size 0 [.I,.z,.n,.U,.U,.U,.I,.U,.V,.V,.V,.n,.slice ra qn rc]∧w'.cell? ⟨w3.heap.size,4,none⟩=some v)→w'.cell? ⟨w3.heap.size,4,none⟩=some v:=fun w' h=>h.2
 refine tI 0 rfl hS ?_;refine tI 1 rfl hS ?_;refine tI 2 rfl hS ?_;refine tJ 3 rfl hS yv ?_;simp only[cR];refine tL 4 rfl hS 47 (.tmp 10) w4.heap.size 0 [.I,.z,.n,.U,.U,.U,.I,.U,.V,.V,.V,.n,.slice ra qn rc] (fun _ h=>h.1) underlying47 mh.out ?_;refine tI 5 rfl hS ?_;simp only[cR];refine sI 6 rfl 47 (.tmp 7) (.tmp 69) (w.heap.size+2) 0 #[.I,.z,.n,.U,.U,.U,.I,.U,.V,.V,.V,.n,.slice ra qn rc] HT.out.1 mh.out gG.out ⟨mR hS.1 (by have:=H5.out.2.2.2.2.2.2.2;omega),(AU (by have:=H5.out.2.2.2.2.2.2.2;show w3.heap.size≠w.heap.size+2;omega) hS.2)⟩ ?_;simp only[cR];refine ay cJ ?_ _;go_wp2_with fail
 refine aK (gE rfl _ _ (w.heap.size+2) 0 [.I,.z,.n,.U,.U,.U,.I,.U,.V,.V,.V,.n,.slice ra qn rc] _ rfl (an _ _ _ _ HT.out.1) underlying47 rfl mh.out) rfl ?_;obtain⟨hrun,D,RR,hlr⟩:=HE.out;have h3w:=H5.out.2.2.2.2.2.2.2.2;have Na:=HS.out.bl;have K9:cQ (·=w.heap.size+2) wr.drew (wr.drew.setCells (w.heap.size+2) 0 [.I,.z,.n,.U,.U,.U,.I,.U,.V,.V,.V,.n,.slice ra qn rc]):=cQ.setCells (S:=(·=w.heap.size+2)) (p:=w.heap.size+2) rfl _ 0 (cQ.refl _ wr.drew);have B09:cE w (wr.drew.setCells (w.heap.size+2) 0 [.I,.z,.n,.U,.U,.U,.I,.U,.V,.V,.V,.n,.slice ra qn rc]):=Na.drew.trans (K9.below Na.size (fun j e=>by have e:j=w.heap.size+2:=e;omega));obtain⟨e1,e2,e3,e4⟩:=ZE (cP:=cP) (cS:=cS) (M:=M) (dh:=⟨s,n⟩) (l:=⟨ok,op,ld,lv,ls,le⟩) (ps:=ps) HG.out.2.1 hrun;have D9:=(D.below (ag _ wr).drew).iN (w:=wr.drew) HT.out.2 kL cL cL cL cK K9;have RR9:=(RR.dZ (cQ.eT (S:=fun _=>False) (ag _ wr).drew) (fun _ _ _ h=>h) (fun _ _ h=>h)).dZ K9 (fun j hj _ e=>by have e:j=w.heap.size+2:=e;have:=hj.1;omega) (fun j hj e=>by have e:j=w.heap.size+2:=e;have:=(RR.own.lt j hj).1;omega);obtain⟨pa,pc,hv,Kw⟩:=RR9.VU (lo':=fU w.heap.size) (fun j hj _=>by have:=hj.1;show w.heap.size≤j;omega) (fun j hj=>by show w.heap.size≤j;omega);refine⟨_,_,rfl,?_,?_,⟨B09,fun b e=>(D9.row.own.lt b e).1⟩⟩
 ·rw[e2]
  exact(D9.row.out D9.Ar).weak (fun _ h=>.inr h)
 rw[e1,e3,e4];refine⟨oS,none,0,pa,pc,?_,mX _ _,gK.nil _ _ _,Kw⟩;rw[hv];rfl
end
end
