/- Part 38. -/
import Derived.Test.YtdpaejbaoefdjaaGreatDoorG37
open List renaming getElem?_eq_some_iff → aa,getElem?_eq_getElem → ag,setIfInBounds_toArray → au,length_append → ay,mem_of_getElem? → aC,set_cons_zero → aI,set_cons_succ → aJ,length_cons → aM,eq_nil_of_length_eq_zero → aP,length_nil → aR,length_map → aS,getElem?_map → aU,size_toArray → bg,length_take → bq,take_left' → bz,mem_map → bL,toList_toArray → bT,append_toArray → bU,filter_append → bW,take_add_one → bX,push_toArray → bY,flatMap_cons → bZ,append_assoc → cj
open Nat renaming le_trans → af,zero_add → aD,le_refl → aW,zero_le → bS
open Go.RowKit.Below renaming refl → ah
open Go renaming undef → aj,World → an,callsIn_wide → aA,lt_of_block → aB,Value → aE,wpAnyH_done → aF,cell_of_row → aG,wpList_load_mid → aL,heap_alloc_new → aN,Calls → aT,run_takeDeferred → bC,getD_set_ne → bG
open Go.Value renaming oneCell' → aq,slice → aO
open Go.World renaming putObj_heap_other → aH,putObj → aY,size_alloc → bh,frozen? → bF
open Option renaming map_eq_some_iff → aK
open Ne renaming symm → aQ
open Go.Proofs renaming enters_of → aV
open Int renaming toNat_natCast → aX
open Array renaming length_toList → aZ,getElem?_eq_some_iff → bA,replicate_zero → bM,replicate_succ → bN
open Bool renaming and_eq_true → bu
open Go.Region renaming wanted → bB,ready → bH,binds → bJ
open Go.Oper renaming wpIn → bK
open Go.Act renaming put → bP
open Go.Result renaming andThen_ok → bQ
namespace Go.Proofs.YtdpaejbaoefdjaaGreatDoor
open Go.Proofs.Tryz
set_option maxRecDepth 100000
set_option maxHeartbeats 64000000
set_option linter.unusedVariables false
set_option linter.unusedSimpArgs false
section
open Go.RowKit Go.Shelf Go.MapKept Go.ChangeMaps
section
variable{w:World}{lo:Nat→Prop}{y:fV}{o:di}{L:List di}{i:ei}{Ei:List dr}{fa:Option Addr}
theorem yc.cS(h:yc w lo y o L i Ei fa)(hy:mE y):BN w 2 o.pa (y.parts.map fun p=>⟨p.kind,p.data.length,0⟩):=fun k j hk=>by
 simp only[aU,aK] at hk;obtain⟨p,hp,rfl⟩:=hk;have hkl:=(aa.1 hp).1;obtain⟨q,hq⟩:∃q,L[k]?=some q:=⟨_,ag (by rw[h.like.1];exact hkl)⟩;obtain⟨g,e1,_,e3,e4⟩:=h.row k q hq;obtain⟨hl,e5,e6,e7⟩:=h.like.2 k q p hq hp;have hps:=hy.parts p (aC hp);exact⟨g,0,q,[],e1,e3,by rw[aD];exact e4,by rw[hl.kind,hl.len,e6],by rw[e6];rfl,by rw[hl.len];unfold maxLen;have:=hps.data;omega,fun k i hk=>by simp at hk⟩
theorem yc.ahG{F:Nat→Prop}(hF:∀b,lo b→¬F b)(h:yc w lo y o L i Ei fa)(hy:mE y):zE F w o ⟨y.op,y.parts⟩ (cV.uq y):=by
 have hpl:y.parts.length=L.length:=h.like.1.symm;have MQ:o.pn=y.parts.length:=by rw[h.pn,hpl]
 refine⟨h.leaf.both (fun b hl hb=>⟨hb,hF b hl⟩),fun w' hb=>?_,fun h0=>?_⟩
 ·have:=xR 2 w' o (y.parts.map fun p=>⟨p.kind,p.data.length,0⟩) (by rw[aS];exact MQ) ((h.cS hy).below hb) (by rw[h.leaf.len];unfold maxLen;have:=hy.op.data;omega)
  rw[h.leaf.kind,h.leaf.len] at this;exact this
 unfold cV.uq gF at h0;split at h0
 ·cases h0
 rename_i h1
 split at h0
 ·cases h0
 rename_i h2
 rw[aS] at h1;by_cases h7:y.op.kind=7
 ·refine .inr ⟨h7,MQ,hy.pl,fun k p hk=>?_⟩
  have hkl:=(aa.1 hk).1;obtain⟨q,hq⟩:∃q,L[k]?=some q:=⟨_,ag (by rw[h.like.1];exact hkl)⟩;obtain⟨g,e1,_,e3,e4⟩:=h.row k q hq;obtain⟨hl,e5,e6,e7⟩:=h.like.2 k q p hq hk;have hps:=hy.parts p (aC hk);have hmem:(⟨p.kind,p.data.length,0⟩:fG)∈y.parts.map fun p=>(⟨p.kind,p.data.length,0⟩:fG):=List.mem_map_of_mem (aC hk)
  have qh:fG.bad ⟨p.kind,p.data.length,0⟩=false:=by
   cases hb:fG.bad ⟨p.kind,p.data.length,0⟩ with
   |false=>rfl
   |true=>exact absurd (List.any_eq_true.2 ⟨_,hmem,hb⟩) h2
  unfold fG.bad at qh;simp at qh;exact⟨g,0,q,e1,e3,by rw[aD];exact e4,hl.both (fun b hl hb=>⟨hb,hF b hl⟩),by omega,by omega,by have:=hps.cW;omega,by have:=hps.data;omega⟩
 refine .inl ⟨h7,?_,?_,?_,?_,?_⟩
 ·have hc:¬(decide (y.op.kind=7)≠decide (0<y.parts.length)):=fun e=>h1 (.inr (.inr (.inr e)))
  rw[decide_eq_false h7] at hc;have:¬(0<y.parts.length):=fun e=>hc (by rw[decide_eq_true e];decide)
  omega
 ·show 1≤y.op.kind
  omega
 ·show y.op.kind≤6
  omega
 ·show y.op.cW.length≤900
  have:=hy.op.cW;omega
 show y.op.data.length≤1000000;have:=hy.op.data;omega
theorem yc.rg(h:yc w lo y o L i Ei fa):qD w w.heap.size o.pa (y.parts.map (·.cW)):=fun k p hk=>by
 simp only[aU,aK] at hk;obtain⟨p',hp,rfl⟩:=hk;have hkl:=(aa.1 hp).1;obtain⟨q,hq⟩:∃q,L[k]?=some q:=⟨_,ag (by rw[h.like.1];exact hkl)⟩;obtain⟨g,e1,_,e3,e4⟩:=h.row k q hq;obtain⟨hl,_⟩:=h.like.2 k q p' hq hp;refine⟨g,0,⟨q.kind,q.da,q.dn,q.dc,q.gW,q.seq,q.mV,q.pa,q.pn,q.pc⟩,e1,e3,?_⟩;rw[aD,←hl.cW];exact e4
end
theorem Bo{P:Program}{oi:Oper}{a:Act}{w:an}{op:BinOp}{ty Y5:TypeId}{x y:Operand}(ho:oi.op=.binOp op ty x y Y5){u v r:aE}(hx:a.eval x=u)(hy:a.eval y=v)(hg:(eqGuard op ty x y u v).run P w=.ok () w)(hr:(binOp op ty u v).run P w=.ok r w):(execOp a.eval oi).run P w=.ok (.value r) w:=by
 unfold execOp;simp only[ho,hx,hy,Sem.run_bind,hg,hr,bQ,Sem.run_pure]
section
variable{B:Nat}{w0 w:World}{A:MA}{m:cV}{N db:Nat}{y:fV}{E:List Value}
theorem iC.from{w1:an}{x:cV×kH}{e:Ending}{w':an}(h:iC B w0 w1 A db E x e w')(hk:cQ (fun b=>A.Z b∨b=db) w w1):iC B w0 w A db E x e w':=⟨h.ret,by
 obtain⟨va,vc,ov,C,hm,ho⟩:=h.st;exact⟨va,vc,ov,C,hm,fun b e=>(ho b e).imp id (fun e2=>af hk.size e2)⟩,hk.trans h.kept⟩
theorem cZ.dP(h:cZ w0 w A m):gZ w w.heap.size A.ra m.dP:=h.data.dP.sl
theorem Gf(h:BT B w0 w A m N db y E)(hN:N≤80000):aT prog 171 #[.p A.mb,.p db] w (iC B w0 w A db E (m.write y)):=by
 obtain⟨o,L,i,Ei,fa,fc,hE,hD⟩:=h.cells;have hm:=h.gu;have hle:E.length=23:=h.Bz.le;have hone:(E.toArray:Array aE).all (·.oneCell')=true:=by rw[hE];simp[fV.cells,iA,aq]
 have No:Hid (w.rangeAt db 0 E):=cD (fun j u hu=>by
  rw[aD];exact(h.Bz.tE j (by have:=(aa.1 hu).1;omega)).trans hu)
 obtain⟨w1,hw1⟩:=cF (w.alloc (.cells #[.B,.U,.U,.I,.U,.B,.z,.n,.I,.F,.F,.n,.I,.V,.I,.V,.n,.n,.U,.I,.I,.V,.n] 42));have dB:cE w w1:=by rw[hw1];exact cT (ah _ w) _
 have k1:w1.heap[w.heap.size]?=some (.cells #[.B,.U,.U,.I,.U,.B,.z,.n,.I,.F,.F,.n,.I,.V,.I,.V,.n,.n,.U,.I,.I,.V,.n] 42 (0,0)):=by rw[hw1];exact aN w _
 obtain⟨w2,fH⟩:=cF (w1.setCells w.heap.size 0 E);have k2:w2.heap[w.heap.size]?=some (.cells E.toArray 42 (0,0)):=by rw[fH];exact gq k1 hle
 have dI:cE w w2:=by rw[fH];exact jc (w1:=w) dB 0 E (aW _)
 have hxl:w.heap.size<w2.heap.size:=aB k2;have hsz:E.toArray.size=23:=by simpa using hle
 have yY:Hid (w1.there w.heap.size 0 E.toArray.size):=cD (by rw[hsz];exact ey k1 0 23 cM);have Cb:Hid (cG 42 E.toArray.size):=cD (by rw[hsz];exact cH);have I3:Hid (cG 42 E.length):=cD (by rw[hle];exact cH);have sG:Hid (cG 35 7):=cD cJ;have za:Hid (cG 31 2):=cD cJ;have gG:=cD hone;have HW:=cD (cC hw1 fH);obtain⟨UA,op,oa,on,oc,ov,os,oe,qa,qn,qc⟩:=o;have yx:∀w',cE w2 w'→w'.rangeAt w.heap.size 0 E:=fun w' hb=>dJ ((hb.block _ hxl).trans k2)
 have yo:∀w',cE w2 w'→w'.rangeAt w.heap.size 5 [.b UA,.s op,.slice oa on oc,.i ov,.bool os,.bool oe,.slice qa qn qc]:=fun w' hb j u hu=>by
  have:=yx w' hb (5+j) u (by
   rw[hE];have hj:=(aa.1 hu).1;simp only[aM,aR] at hj;rcases(show j=0∨j=1∨j=2∨j=3∨j=4∨j=5∨j=6 by omega) with rfl|rfl|rfl|rfl|rfl|rfl|rfl<;>exact hu)
  rwa [aD] at this
 have ys:∀w',cE w2 w'→w'.rangeAt w.heap.size 3 [.i y.os,.u (y.on:Int)]:=fun w' hb j u hu=>by
  have:=yx w' hb (3+j) u (by
   rw[hE];have hj:=(aa.1 hu).1;simp only[aM,aR] at hj;rcases(show j=0∨j=1 by omega) with rfl|rfl<;>exact hu)
  rwa [aD] at this
 have hin:=hD.ahG (F:=A.F) (fun b hb e=>by have:=h.fB b e;have:=hb.1;omega) h.Tn;have FW:=cD (hin.chk w2 dI);unfold di.val di.cells at FW;dsimp only at FW;obtain⟨ce,hce⟩:=cF (cV.uq y);rw[←hce] at FW;have HH:=cD (cC h (cC hN (cC dI (cC hce (cC hD (cC hin hxl))))));clear h hN hm hle hone hw1 dB k1 fH k2 hxl hsz dI hE hD hin hce;go_enter func171,ntmps171
 go_wp2_with (first
  |(refine aL rfl 42 (.tmp 11) rfl db 0 rfl E _ No.out underlying42 rfl I3.out ?_)
  |(rw[←HW.out.1];refine wpList_store_mid rfl 42 (.tmp 5) (.tmp 12) rfl w.heap.size 0 E.toArray rfl rfl yY.out Cb.out gG.out ?_;rw[bT,←HW.out.2])
  |(refine aL rfl 35 (.tmp 13) rfl w.heap.size 5 rfl [.b UA,.s op,.slice oa on oc,.i ov,.bool os,.bool oe,.slice qa qn qc] _ (yo w2 (ah _ _)) underlying35 rfl sG.out ?_)
  |fail)
 refine FW.out.mono ?_;rintro e w3 ⟨rfl,eO⟩;have Cw:=eO;have H3:=cD eO;clear eO;by_cases hc0:ce=0
 ·subst hc0
  have AV:cZ w0 w3 A m:=HH.out.1.gu.below (HH.out.2.2.1.trans (H3.out.mono HH.out.2.2.1.size));obtain⟨ns,oQ⟩:∃n,n=m.dy:=⟨_,rfl⟩;have f0:∀w',cE w3 w'→w'.cell? ⟨A.mb,0,none⟩=some (.i (ns:Int)):=fun w' hb=>(AV.below hb).cells.1.trans (by rw[oQ])
  obtain⟨nr,Jb⟩:∃n,n=m.dP.length:=⟨_,rfl⟩;have HNR:=cD Jb;have f1:∀w',cE w3 w'→w'.cell? ⟨A.mb,1,none⟩=some (.slice A.ra nr A.rc):=fun w' hb=>(AV.below hb).cells.2.1.trans (by rw[Jb])
  clear Jb;have f4:∀w',cE w3 w'→w'.cell? ⟨A.mb,4,none⟩=some (.p A.sb):=fun w' hb=>(AV.below hb).cells.2.2.2.2.1
  have nJ:∀w',cE w3 w'→cE w2 w':=fun w' hb=>H3.out.trans (hb.mono H3.out.size)
  have g3:∀w',cE w3 w'→w'.cell? ⟨w.heap.size,3,none⟩=some (.i y.os):=fun w' hb=>ys w' (nJ w' hb) 0 _ rfl
  have g4:∀w',cE w3 w'→w'.cell? ⟨w.heap.size,4,none⟩=some (.u (y.on:Int)):=fun w' hb=>ys w' (nJ w' hb) 1 _ rfl
  obtain⟨b5,jz⟩:∃b,b=(!iq y.os y.on&&(y.os != (ns:Int)||!m.live y.on)):=⟨_,rfl⟩;have Uo:=cD jz;have LQ:=cD (cC AV oQ);have hne:∀W,cE w3 W→_:=fun W _=>Mg y.os y.on W
  have HLV:Hid (∀W,cE w3 W→aT prog 246 #[.p A.sb,.u (y.on:Int)] W fun e w'=>e=.returned (.bool (m.live y.on))∧∃k,w'=W.drewN k):=cD (fun W hW=>AP A.sb A.gb m.dy m.last y.on m.gone W (AV.below hW).xk (by have:=HH.out.1.ok.dy;have:=HH.out.1.ok.vl;exact⟨by omega,by omega⟩) (by have:=HH.out.1.Tn.on;exact⟨by omega,by omega⟩));obtain⟨lv,hlv⟩:∃b,b=m.live y.on:=⟨_,rfl⟩;rw[←hlv] at HLV jz;have aqF:=cD hlv;clear AV oQ hlv Cw FW;go_wp2_with fail
  go_cut [43] (fun v wc=>v=.bool b5∧cE w3 wc)
  case first=>
   refine rB fun wd hS=>?_
   refine tI 0 rfl hS ?_;refine tL 1 rfl hS 31 (.tmp 19) w.heap.size 3 [.i y.os,.u (y.on:Int)] (fun w' h=>ys w' (nJ w' h)) underlying31 za.out ?_;simp only[cR];cases oQ:iq y.os y.on with
   |true=>
    rw[oQ] at hne jz;simp only[Bool.not_true,Bool.false_and] at jz hne;subst jz;refine tI 2 rfl hS ?_;simp only[cR];refine jd 3 rfl cJ cJ cJ cN hS (fun w' hS'=>Bo rfl rfl rfl (by go_simp<;>rfl) (hne w' hS')) (fun _ _ _ h=>h) ?_;simp only[cR];refine tI 4 rfl hS ?_;refine tN 5 rfl hS ?_;refine tN 6 rfl hS ?_;refine tN 7 rfl hS ?_;simp only[cR];refine tN 8 rfl hS ?_;refine tN 9 rfl hS ?_;refine tN 10 rfl hS ?_;refine tN 11 rfl hS ?_;simp only[cR];refine tN 12 rfl hS ?_;refine tN 13 rfl hS ?_;refine tN 14 rfl hS ?_;refine tN 15 rfl hS ?_;simp only[cR];refine tN 16 rfl hS ?_;refine tN 17 rfl hS ?_;refine tN 18 rfl hS ?_;refine tN 19 rfl hS ?_;simp only[cR];refine tN 20 rfl hS ?_;refine tN 21 rfl hS ?_;refine tN 22 rfl hS ?_;refine tN 23 rfl hS ?_;simp only[cR];refine tI 24 rfl hS ?_;simp only[cR];refine aF cJ ?_ _;go_wp2_with fail
    go_meet
    case rel=>exact⟨rfl,hS⟩
   |false=>
   rw[oQ] at hne jz;simp only[Bool.not_false,Bool.true_and] at jz hne;by_cases ho:y.os=(ns:Int)
   ·have t12:(y.os != (ns:Int))=false:=by simp[ho]
    rw[t12] at jz;simp only[Bool.false_or] at jz;subst jz;clear ho;refine tI 2 rfl hS ?_;simp only[cR];refine jd 3 rfl cJ cJ cJ cN hS (fun w' hS'=>Bo rfl rfl rfl (by go_simp<;>rfl) (hne w' hS')) (fun _ _ _ h=>h) ?_;simp only[cR];refine tI 4 rfl hS ?_;refine tI 5 rfl hS ?_;refine tI 6 rfl hS ?_;refine tJ 7 rfl hS g3 ?_;simp only[cR];refine tI 8 rfl hS ?_;refine tI 9 rfl hS ?_;refine tI 10 rfl hS ?_;refine tJ 11 rfl hS f0 ?_;simp only[cR];refine tI 12 rfl hS ?_;refine tI 13 rfl hS ?_;refine tI 14 rfl hS ?_;refine tI 15 rfl hS ?_;simp only[cR];refine tI 16 rfl hS ?_;refine tJ 17 rfl hS f4 ?_;refine tI 18 rfl hS ?_;refine tI 19 rfl hS ?_;simp only[cR];refine tJ 20 rfl hS g4 ?_;simp only[cR];refine cI 21 rfl ?_;refine(HLV.out wd hS).mono ?_;rintro e w4 ⟨rfl,k,rfl⟩;have eV:=below_drewN hS k;refine⟨eV,?_⟩;simp only[cR];refine tI 22 rfl eV ?_;refine tI 23 rfl eV ?_;refine tI 24 rfl eV ?_;simp only[cR];refine aF cJ ?_ _;go_wp2_with fail
    go_meet
    case rel=>exact⟨rfl,eV⟩
   have t12:(y.os != (ns:Int))=true:=by simpa using ho
   rw[t12] at jz;simp only[Bool.true_or] at jz;subst jz;clear ho;refine tI 2 rfl hS ?_;simp only[cR];refine jd 3 rfl cJ cJ cJ cN hS (fun w' hS'=>Bo rfl rfl rfl (by go_simp<;>rfl) (hne w' hS')) (fun _ _ _ h=>h) ?_;simp only[cR];refine tI 4 rfl hS ?_;refine tI 5 rfl hS ?_;refine tI 6 rfl hS ?_;refine tJ 7 rfl hS g3 ?_;simp only[cR];refine tI 8 rfl hS ?_;refine tI 9 rfl hS ?_;refine tI 10 rfl hS ?_;refine tJ 11 rfl hS f0 ?_;simp only[cR];refine tI 12 rfl hS ?_;refine tI 13 rfl hS ?_;refine tN 14 rfl hS ?_;refine tN 15 rfl hS ?_;simp only[cR];refine tN 16 rfl hS ?_;refine tN 17 rfl hS ?_;refine tN 18 rfl hS ?_;refine tN 19 rfl hS ?_;simp only[cR];refine tN 20 rfl hS ?_;refine tN 21 rfl hS ?_;refine tN 22 rfl hS ?_;refine tI 23 rfl hS ?_;simp only[cR];refine tI 24 rfl hS ?_;simp only[cR];refine aF cJ ?_ _;go_wp2_with fail
   go_meet
   case rel=>exact⟨rfl,hS⟩
  case rest=>
  obtain⟨rfl,hbc⟩:=hcut;have uA:=cD hbc;clear jz hne;cases b5 with
  |true=>
   clear hbc;go_wp2
   go_ret
   obtain⟨h,hN,dI,hce,hD,hin,hxl⟩:=HH.out;have hb:=(dI.trans (H3.out.mono dI.size)).trans (uA.out.mono (af dI.size H3.out.size));have hw:m.write y=(m,oI 63):=by
    have h1:=Uo.out.symm;rw[LQ.out.2] at h1;unfold cV.write;rw[if_neg (by rw[←hce];simp),if_pos];cases hq:iq y.os y.on with
    |true=>rw[hq] at h1;simp at h1
    |false=>
    rw[hq] at h1;refine⟨rfl,?_⟩;by_cases ho:y.os=(m.dy:Int)
    ·right
     simpa [ho] using h1
    exact .inl ho
   rw[hw];exact gM (h.gu.below hb) (h.Bz.below hb) 63 (dA hb)
  |false=>
  obtain⟨h,hN,dI,hce,hD,hin,hxl⟩:=HH.out;obtain⟨AV,oQ⟩:=LQ.out;have eO:=dI.trans (H3.out.mono dI.size);obtain⟨R,hR⟩:=cF (uu m.dP y.op.cW (y.parts.map (·.cW)));have HAL:Hid (∀W,cE w3 W→aT prog 28 #[.slice A.ra nr A.rc,.agg #[.b UA,.s op,.slice oa on oc,.i ov,.bool os,.bool oe,.slice qa qn qc]] W fun e w'=>e=.returned (.tuple #[.i R.1,.i R.2])∧cE W w'):=cD (by
   have hq:qn=(y.parts.map (·.cW)).length:=by rw[aS,←hD.like.1];exact hD.pn
   have hp:op=y.op.cW:=hD.leaf.cW;rw[hq,hp,hR,HNR.out];exact IQ AV.max A.ra A.rc m.dP (by have:=h.ok.rl;omega) (fun r hr=>by have:=h.ok.dP r hr;omega) AV.dP _ _ _ _ _ qa qc y.op.cW (y.parts.map (·.cW)) (by have:=h.Tn.op.cW;omega) (by rw[aS];have:=h.Tn.pl;omega) (fun r hr=>by
    obtain⟨p,hp,rfl⟩:=bL.1 hr;have:=(h.Tn.parts p hp).cW;omega) ((hD.rg).later eO))
  have HRR:=cD hR;have hnw:¬(iq y.os y.on=false∧(y.os≠(m.dy:Int)∨m.live y.on=false)):=by
   have h1:=Uo.out.symm;rw[oQ] at h1;rintro⟨h2,h3⟩;rw[h2] at h1;rcases h3 with h3|h3
   ·simp[h3] at h1
   simp[h3] at h1
  have HNW:=cD hnw;clear h hN dI hce hD hin hxl AV oQ eO hR hnw hbc;have hS:cE w3 wc.drew:=uA.out.drew;go_wp2_with fail
  refine(wpIn_wide (n:=0)).1 (fB (S:=fun w'=>cE w3 w') (c:=11) ?_);refine fJ 0 hS ?_;simp only[cR];refine fJ 1 hS ?_;simp only[cR];refine fJ 2 hS ?_;simp only[cR];refine fI 3 rfl hS (fun w' hS'=>by have:=f1 w' hS';go_simp<;>rfl) ?_;simp only[cR];refine fJ 4 hS ?_;simp only[cR];refine fI 5 rfl hS (fun w' hS'=>pE 35 (.tmp 49) rfl w.heap.size 5 rfl _ _ (yo w' (nJ w' hS')) underlying35 rfl sG.out) ?_;simp only[cR];refine fK 6 rfl fun K' gv=>?_
  gi_wp2_with fail
  refine⟨trivial,rfl,(aA.2 (HAL.out wc.drew hS)).mono ?_⟩;rintro e w5 ⟨rfl,jz⟩;have oM:=hS.trans (jz.mono hS.size);have QD:=cD oM;clear jz hS;refine gv _ _ oM ?_;clear gv;refine fJ 7 oM ?_;simp only[cR];refine fJ 8 oM ?_;simp only[cR];refine fJ 9 oM ?_;simp only[cR];refine fJ 10 oM ?_;simp only[cR];refine fC 11 rfl fun K' gv=>?_
  gi_wp2
  refine fD ?_ cJ _;obtain⟨R1,R2⟩:=R;dsimp only;by_cases Jf:R2=0
  ·subst Jf
   obtain⟨h,hN,dI,hce,hD,hin,hxl⟩:=HH.out;have hb:=(dI.trans (H3.out.mono dI.size)).trans (QD.out.mono (af dI.size H3.out.size));have hr2:(jJ m.dP (if y.parts.map (·.cW)=[] then [y.op.cW] else y.parts.map (·.cW))).2=0:=by
    have:(uu m.dP y.op.cW (y.parts.map (·.cW))).2=0:=by rw[←HRR.out]
    exact this
   have kP:R1=(jJ m.dP (if y.parts.map (·.cW)=[] then [y.op.cW] else y.parts.map (·.cW))).1:=by
    have:(uu m.dP y.op.cW (y.parts.map (·.cW))).1=R1:=by rw[←HRR.out]
    exact this.symm
   obtain⟨q1,q2⟩:=cV.Ec hr2;rw[←kP] at q1 q2;obtain⟨r,rfl⟩:∃r:Nat,R1=r:=⟨R1.toNat,by omega⟩;have hw:m.write y=m.asked r ⟨y.op,y.parts⟩ ⟨y.os,y.on⟩:=by
    have e1:uu m.dP y.op.cW (y.parts.map (·.cW))=((r:Int),0):=HRR.out.symm;unfold cV.write;rw[if_neg (by rw[←hce];simp),if_neg HNW.out,e1,if_neg cM];rfl
   have HAS:=cD ((Eb (h.gu.below hb) h.ok hN (r:=r) cK (by have:=hin.below hb;rw[←hce] at this;exact this) (cV.DV h.Tn hce.symm) (dh:=⟨y.os,y.on⟩) ⟨h.Tn.os,by have:=h.Tn.on;exact⟨by show(0:Int)≤(y.on:Int);omega,by show(y.on:Int)<_;omega⟩⟩ (h.Bz.below hb) h.X (af h.hB hb.size)).mono fun _ _ h=>h.1);unfold di.val di.cells Ce at HAS;dsimp only at HAS;have HKB:Hid (cQ (fun b=>A.Z b∨b=db) w w5):=cD (dA hb);have HWQ:=cD hw;have yo5:=yo w5 (nJ w5 QD.out);have ys5:=ys w5 (nJ w5 QD.out);have HY5:=cD (cC yo5 ys5);clear h hN dI hce hD hin hxl hb hr2 kP q1 q2 hw oM yo5 ys5;go_wp2_with (first
    |(refine aL rfl 35 (.tmp 60) rfl w.heap.size 5 rfl [.b UA,.s op,.slice oa on oc,.i ov,.bool os,.bool oe,.slice qa qn qc] _ HY5.out.1 underlying35 rfl sG.out ?_)
    |(refine aL rfl 31 (.tmp 62) rfl w.heap.size 3 rfl [.i y.os,.u (y.on:Int)] _ HY5.out.2 underlying31 rfl za.out ?_)
    |fail)
   refine HAS.out.mono ?_;rintro e w6 he;have ain:=he.ret;obtain⟨c,e0,Rq,rq,Lq,rfl,_⟩:=ain;have HE:=cD he;clear he;go_wp2
   go_ret
   rw[HWQ.out];exact HE.out.from HKB.out
  have t55:(R2 != 0)=true:=by simpa using Jf
  have HR2:=cD Jf;clear Jf;go_wp2
  go_ret
  obtain⟨h,hN,dI,hce,hD,hin,hxl⟩:=HH.out;have hb:=(dI.trans (H3.out.mono dI.size)).trans (QD.out.mono (af dI.size H3.out.size));have hw:m.write y=(m,oI R2):=by
   have hr:(uu m.dP y.op.cW (y.parts.map (·.cW))).2=R2:=by rw[←HRR.out]
   unfold cV.write;rw[if_neg (by rw[←hce];simp),if_neg HNW.out,if_pos (by rw[hr];exact HR2.out),hr]
  rw[hw];exact gM (h.gu.below hb) (h.Bz.below hb) R2 (dA hb)
 have t6:(ce != 0)=true:=by simpa using hc0
 have HC0:=cD hc0;clear hc0 Cw;go_wp2
 go_ret
 obtain⟨h,hN,dI,hce,hD,hin,hxl⟩:=HH.out;have hw:m.write y=(m,oI ce):=by unfold cV.write;rw[if_pos (by rw[←hce];exact HC0.out),←hce]
 rw[hw];have hb:=dI.trans (H3.out.mono dI.size);exact gM (h.gu.below hb) (h.Bz.below hb) ce (dA hb)
end
theorem aa0(x:fW)(s n:Nat):Yv x s n=!cV.mA x s n:=by
 have e:∀a b:Bool,(a==b)=!(a != b):=by decide
 have h1:decide (x.ew<0)=!decide (0≤x.ew):=by by_cases h:x.ew<0<;>simp[h]<;>omega
 have h2:decide ((s:Int)≤x.ew)=!decide (x.ew<(s:Int)):=by by_cases h:x.ew<(s:Int)<;>simp[h]<;>omega
 have h3:decide (x.seq<1)=!decide (1≤x.seq):=by by_cases h:x.seq<1<;>simp[h]<;>omega
 have h4:decide ((x.de.length:Int)≠(s:Int))=!decide (x.de.length=s):=by by_cases h:x.de.length=s<;>simp[h]<;>omega
 have h5:decide (x.de.getD x.ew.toNat 0≠x.seq - 1)=!decide (x.de.getD x.ew.toNat 0=x.seq - 1):=by simp
 unfold Yv cV.mA;rw[h1,h2,h3,h4,h5,e];have h6:(wrB x n != clB x)=((decide (0≤x.dO)&&decide (x.dO<(n:Int))&&decide (0<x.ep)&&decide (x.cl=0)&&decide (x.dF≠[])) != (decide (x.dO=-1)&&decide (x.ep=0)&&decide (0<x.cl)&&decide (x.dF=[]))):=by
  have e1:decide (x.dF≠[])=decide (0<x.dF.length):=by cases x.dF<;>simp
  have e2:decide (x.dF=[])=decide (x.dF.length=0):=by cases x.dF<;>simp
  rw[e1,e2];rfl
 rw[h6];generalize ((decide (0≤x.dO)&&decide (x.dO<(n:Int))&&decide (0<x.ep)&&decide (x.cl=0)&&decide (x.dF≠[])) != (decide (x.dO=-1)&&decide (x.ep=0)&&decide (0<x.cl)&&decide (x.dF=[])))=q6;generalize decide (0≤x.ew)=q1;generalize decide (x.ew<(s:Int))=q2;generalize decide (1≤x.seq)=q3;generalize decide (x.de.length=s)=q4;generalize decide (x.de.getD x.ew.toNat 0=x.seq - 1)=q5
 revert q1 q2 q3 q4 q5 q6
 decide
theorem Kk{x:fW}{s n:Nat}(h:cV.mA x s n=true)(hc:x.cl=0):0≤x.dO∧x.dO<(n:Int):=by
 unfold cV.mA at h;simp only[bu] at h;have h4:=h.2;rw[decide_eq_false (show¬(0<x.cl) by omega)] at h4;simp only[Bool.and_false,Bool.false_and,Bool.bne_false,bu,decide_eq_true_eq] at h4;exact⟨h4.1.1.1.1,h4.1.1.1.2⟩
theorem Kl{x:fW}{s n:Nat}(h:cV.mA x s n=true):0≤x.ew∧x.ew<(s:Int)∧x.de.getD x.ew.toNat 0=x.seq - 1:=by
 unfold cV.mA at h;simp only[bu,decide_eq_true_eq] at h;exact⟨h.1.1.1.1.1,h.1.1.1.1.2,h.1.2⟩
theorem cV.Ew(m:cV)(r:Nat):m.eA r (m.cS r,m.dQ r)=m:=by
 unfold cV.eA cV.cS cV.dQ;have:m.eC.set r ((m.eC.getD r (0,[])).1,(m.eC.getD r (0,[])).2)=m.eC:=by
  refine List.ext_getElem? (fun k=>?_);rw[List.getElem?_set];split
  ·rename_i e
   subst e;split
   ·rename_i h
    simp[List.getD,ag h]
   rename_i h
   rw[List.getElem?_eq_none (Nat.le_of_not_lt h)]
  rfl
 rw[this]
theorem NB{w0 w:an}{A:MA}{m:cV}{N:Nat}(h:cZ w0 w A m)(ok:m.Ok N)(hN:N≤1000000){r tb:Nat}(htb:A.tb[r]?=some tb){x:fW}(hx:qK x){i:ei}{Ei:List dr}{lo:Nat→Prop}(hI:ez w lo i Ei x):
  aT prog 249 #[.p tb,.slice i.ea x.dF.length i.ec] w fun e w'=>e=.returned (.i (dU (m.cP r) (m.dQ r) x.dF).1)∧cZ w0 w' A (if (dU (m.cP r) (m.dQ r) x.dF).1=0 then m.eA r (m.cS r+1,(dU (m.cP r) (m.dQ r) x.dF).2) else m)∧cQ (·=tb) w w':=by
 have hrl:r<m.dP.length:=by rw[←ok.tl,←h.tl];exact(aa.1 htb).1
 have ha:=ok.ats r hrl;have hlen:Ei.length=x.dF.length:=hI.like.1;have h16:=hx.dF.1;have:=jC.apply (h.tr r tb htb).1 (h.mG.tr r tb htb) h.mG.lt ha.1 cK i.ea i.ec Ei x.dF hI.like hI.row (fun e he=>(hx.dF.2 e he).fit) cK;rw[hlen] at this;refine this.mono ?_;rintro e w' ⟨rfl,⟨hT,hF⟩,hk⟩;refine⟨rfl,?_,hk⟩;have hne:nC (m.cP r) (m.dQ r) x.dF≠[]:=by
  have:m.cP r∈(nC (m.cP r) (m.dQ r) x.dF).map (·.1):=by
   unfold nC;split
   ·exact((ok.tree r hrl).all hx.dF.2).inv.has
   exact(ok.tree r hrl).inv.has
  intro e;rw[e] at this;cases this
 have hM:=h.eA (t:=(atA (m.cP r) (m.cS r) (m.dQ r) x.dF,nC (m.cP r) (m.dQ r) x.dF)) htb hk hT hF hne;unfold atA nC at hM;by_cases h0:(dU (m.cP r) (m.dQ r) x.dF).1=0
 ·simp only[if_pos h0] at hM⊢
  exact hM
 simp only[if_neg h0] at hM⊢
 rwa [cV.Ew] at hM
theorem EY{w w':an}{B db:Nat}{S:Nat→Prop}{i:ei}{Ei:List dr}{x:fW}(h:ez w (fun b=>B≤b∧(b<db∨x.dF=[])) i Ei x)(hs:dK w (fun b=>B≤b∧b<db) i.sa x.de)(hk:cQ S w w')(hS:∀b,B≤b→b<db→¬S b):ez w' (fun b=>B≤b) i Ei x:=by
 by_cases he:x.dF=[]
 ·refine⟨(hs.kept hk (fun b hb _=>hS b hb.1 hb.2)).mono (fun b _ hb=>hb.1),⟨h.like.1,fun k r e h1 h2=>by rw[he] at h2;simp at h2⟩,fun k q hq=>?_,fun ad e=>(h.new ad e).1⟩
  have e0:=h.like.1;rw[he] at e0;rw[aP e0] at hq;simp at hq
 have h':ez w (fun b=>B≤b∧b<db) i Ei x:=h.mono (fun b hb=>⟨hb.1,hb.2.resolve_right he⟩);exact(h'.Dw hk (fun b hb _=>hS b hb.1 hb.2)).mono (fun b hb=>hb.1)
def uW(m:cV)(x:fW):cV:=if m.takes x=true∧x.cl=0 then m.eA x.dO.toNat (m.cS x.dO.toNat+1,(dU (m.cP x.dO.toNat) (m.dQ x.dO.toNat) x.dF).2) else m
def Xc(w0 w2:an)(A:MA)(m:cV)(x:fW)(v:aE)(wc:an):Prop:=v=.bool (!m.takes x)∧cZ w0 wc A (uW m x)∧cQ (fun b=>b∈A.tb) w2 wc
section
variable{B:Nat}{w0 w:World}{A:MA}{m:cV}{N db:Nat}{y:fV}{E:List Value}
theorem uV{x:fW}(h:m.takes x=false):uW m x=m:=by unfold uW;rw[if_neg (by rw[h];simp)]
theorem JH(h:BT B w0 w A m N db y E):aT prog 172 #[.p A.mb,.p db] w (iC B w0 w A db E (m.take y.eu)):=by
 obtain⟨o,L,i,Ei,fa,fc,hE,hD⟩:=h.cells;have hm:=h.gu;obtain⟨x,hx⟩:=cF y.eu;have aft:Hid (w.rangeAt db 12 (cU x i)):=cD (fun j u hu=>by
  have hj:j<7:=(aa.1 hu).1;refine(h.Bz.tE (12+j) cK).trans ?_;rw[hE,hx] at*;rcases(show j=0∨j=1∨j=2∨j=3∨j=4∨j=5∨j=6 by omega) with rfl|rfl|rfl|rfl|rfl|rfl|rfl<;>exact hu)
 obtain⟨ns,oQ⟩:∃n,n=x.de.length:=⟨_,rfl⟩;obtain⟨ne,hne⟩:∃n,n=x.dF.length:=⟨_,rfl⟩;have hit:cU x i=[.i x.ew,.v (x.seq:Int),.i x.dO,.v (x.ep:Int),.slice i.sa ns i.sc,.slice i.ea ne i.ec,.u (x.cl:Int)]:=by unfold cU;rw[oQ,hne]
 rw[hit] at aft;obtain⟨w2,fH⟩:=cF (w.alloc (.cells #[.i x.ew,.v (x.seq:Int),.i x.dO,.v (x.ep:Int),.slice i.sa ns i.sc,.slice i.ea ne i.ec,.u (x.cl:Int)] 40));have dI:cE w w2:=by rw[fH];exact cT (ah _ w) _
 have k2:w2.heap[w.heap.size]?=some (.cells #[.i x.ew,.v (x.seq:Int),.i x.dO,.v (x.ep:Int),.slice i.sa ns i.sc,.slice i.ea ne i.ec,.u (x.cl:Int)] 40 (0,0)):=by rw[fH];exact aN w _
 have hxl:=aB k2;have h2:=hm.below dI;have XJ:∀b∈A.tb,b≠w.heap.size∧b<w.heap.size:=fun b hb=>by have:=hm.ze (A.zt hb);exact⟨by omega,this⟩
 have fm:Hid (cG 40 7):=cD cJ;have hap:=h2.apart;have km:∀w',cQ (fun b=>b∈A.tb) w2 w'→∀k,w'.cell? ⟨A.mb,k,none⟩=w2.cell? ⟨A.mb,k,none⟩:=fun w' hk k=>hk.cell (p:=⟨A.mb,k,none⟩) (aB h2.blk) (fun e=>(hap.t _ e).1 rfl)
 obtain⟨ZD,Cs⟩:∃n,n=m.dy:=⟨_,rfl⟩;obtain⟨nr,Jb⟩:∃n,n=m.dP.length:=⟨_,rfl⟩;obtain⟨nt,hnt⟩:∃n,n=m.eC.length:=⟨_,rfl⟩;obtain⟨nv,tZ⟩:∃n,n=m.v.length:=⟨_,rfl⟩;have f0:∀w',cQ (fun b=>b∈A.tb) w2 w'→w'.cell? ⟨A.mb,0,none⟩=some (.i (ZD:Int)):=fun w' hk=>(km w' hk 0).trans (h2.cells.1.trans (by rw[Cs]))
 have f1:∀w',cQ (fun b=>b∈A.tb) w2 w'→w'.cell? ⟨A.mb,1,none⟩=some (.slice A.ra nr A.rc):=fun w' hk=>(km w' hk 1).trans (h2.cells.2.1.trans (by rw[Jb]))
 have f2:∀w',cQ (fun b=>b∈A.tb) w2 w'→w'.cell? ⟨A.mb,2,none⟩=some (.slice A.ta nt A.tc):=fun w' hk=>(km w' hk 2).trans (h2.cells.2.2.1.trans (by rw[hnt]))
 have f5:∀w',cQ (fun b=>b∈A.tb) w2 w'→w'.cell? ⟨A.mb,5,none⟩=some (.slice A.va nv A.vc):=fun w' hk=>(km w' hk 5).trans (h2.cells.2.2.2.2.2.1.trans (by rw[tZ]))
 have gI:∀w',cQ (fun b=>b∈A.tb) w2 w'→w'.rangeAt w.heap.size 0 [.i x.ew,.v (x.seq:Int),.i x.dO,.v (x.ep:Int),.slice i.sa ns i.sc,.slice i.ea ne i.ec,.u (x.cl:Int)]:=fun w' hk=>dJ (hk.same k2 (fun e=>(XJ _ e).1 rfl))
 have g0:∀w',cQ (fun b=>b∈A.tb) w2 w'→w'.cell? ⟨w.heap.size,0,none⟩=some (.i x.ew):=fun w' hk=>gI w' hk 0 _ rfl
 have g2:∀w',cQ (fun b=>b∈A.tb) w2 w'→w'.cell? ⟨w.heap.size,2,none⟩=some (.i x.dO):=fun w' hk=>gI w' hk 2 _ rfl
 have g5:∀w',cQ (fun b=>b∈A.tb) w2 w'→w'.cell? ⟨w.heap.size,5,none⟩=some (.slice i.ea ne i.ec):=fun w' hk=>gI w' hk 5 _ rfl
 have g6:∀w',cQ (fun b=>b∈A.tb) w2 w'→w'.cell? ⟨w.heap.size,6,none⟩=some (.u (x.cl:Int)):=fun w' hk=>gI w' hk 6 _ rfl
 have MY:=hD.eu.below dI;rw[←hx] at MY;have akD:Hid (dK w (fun b=>B≤b∧b<db) i.sa x.de):=cD (by rw[hx];exact h.mG o i fa fc hE);have DA:qK x:=by rw[hx];exact h.Tn.eu
 obtain⟨c1,hc1⟩:∃c,c=cV.mA x m.v.length m.dP.length:=⟨_,rfl⟩;obtain⟨k1,hk1⟩:∃k:Int,k=if c1 then 0 else 1:=⟨_,rfl⟩
 have HCH:Hid (∀W,cE w2 W→aT prog 27 #[.agg #[.i x.ew,.v (x.seq:Int),.i x.dO,.v (x.ep:Int),.slice i.sa ns i.sc,.slice i.ea ne i.ec,.u (x.cl:Int)],.i (nv:Int),.i (nr:Int)] W fun e w'=>e=.returned (.i k1)∧cE W w'):=cD (fun W hW=>by
  have:=Gb W x i m.v.length (m.dP.length:Int) _ (MY.below hW).de DA.seq (by have:=DA.de.1;omega);rw[aa0,←hc1] at this;unfold eW at this;rw[hit,←tZ,←Jb] at this;rw[hk1];cases c1<;>exact this)
 obtain⟨c3,hc3⟩:∃c,c=cV.ready x m.v:=⟨_,rfl⟩;have No:Hid (∀W,cE w2 W→aT prog 248 #[.agg #[.i x.ew,.v (x.seq:Int),.i x.dO,.v (x.ep:Int),.slice i.sa ns i.sc,.slice i.ea ne i.ec,.u (x.cl:Int)],.slice A.va nv A.vc] W fun e w'=>e=.returned (.bool c3)∧cE W w'):=cD (fun W hW=>by
  have:=Ga W x i A.va A.vc m.v _ _ (MY.below hW).de (h2.below hW).data.v DA.seq (by have:=DA.de.1;omega) (by have:=h.ok.vl;omega);unfold eW at this;rw[hit,←tZ,show Vr x m.v=cV.ready x m.v from rfl,←hc3] at this;exact this)
 obtain⟨ax,MV⟩:∃a,a=dU (m.cP x.dO.toNat) (m.dQ x.dO.toNat) x.dF:=⟨_,rfl⟩;have HT:Hid (m.takes x=(c1&&!decide (x.ew=(ZD:Int))&&c3&&(decide (0<x.cl)||decide (ax.1=0)))):=cD (by unfold cV.takes;rw[←hc1,←hc3,←MV,Cs]);have HH:=cD (cC h (cC h2 (cC dI (cC MY (cC DA (cC hx (cC XJ (cC k2 (cC Cs (cC Jb (cC hnt (cC tZ (cC oQ (cC hne (cC MV (cC hc1 hD))))))))))))))));have HW:=cD fH;have UW:=cD hk1;clear hk1;rw[←hx];have hS0:cE w2 w2.drew:=(ah _ w2).drew;clear h hE hD hm hx oQ hne hit fH dI k2 hxl h2 XJ hap km Cs Jb hnt tZ MY DA hc1 hc3 MV;go_enter func172,ntmps172
 go_wp2_with (first
  |(refine aL rfl 40 (.tmp 9) rfl db 12 rfl [.i x.ew,.v (x.seq:Int),.i x.dO,.v (x.ep:Int),.slice i.sa ns i.sc,.slice i.ea ne i.ec,.u (x.cl:Int)] _ aft.out underlying40 rfl fm.out ?_)
  |fail)
 rw[←HW.out];go_cut [60] (fun v wc=>Xc w0 w2 A m x v wc)
 case first=>
  refine wp_region_held_drew (S:=fun w'=>cQ (fun b=>b∈A.tb) w2 w') cJ (dA hS0) (fun hS=>?_);generalize w2.drew=wd at hS hS0⊢;refine tL 0 rfl hS 40 (.tmp 5) w.heap.size 0 [.i x.ew,.v (x.seq:Int),.i x.dO,.v (x.ep:Int),.slice i.sa ns i.sc,.slice i.ea ne i.ec,.u (x.cl:Int)] gI underlying40 fm.out ?_;refine tI 1 rfl hS ?_;refine tI 2 rfl hS ?_;refine tI 3 rfl hS ?_;simp only[cR];refine tJ 4 rfl hS f5 ?_;refine tI 5 rfl hS ?_;refine tI 6 rfl hS ?_;refine tI 7 rfl hS ?_;simp only[cR];refine tI 8 rfl hS ?_;refine tJ 9 rfl hS f1 ?_;refine tI 10 rfl hS ?_;simp only[cR];refine cI 11 rfl ?_;refine(HCH.out wd hS0).mono ?_;rintro e w3 ⟨rfl,eO⟩;have BY:=hS0.trans (eO.mono hS0.size);have ek:cQ (fun b=>b∈A.tb) w2 w3:=dA BY;refine⟨ek,?_⟩;clear eO;simp only[cR];cases c1 with
  |false=>
   obtain rfl:k1=1:=UW.out;clear UW;refine tI 12 rfl ek ?_;refine tI 13 rfl ek ?_;refine tN 14 rfl ek ?_;refine tN 15 rfl ek ?_;simp only[cR];refine tN 16 rfl ek ?_;refine tN 17 rfl ek ?_;refine tN 18 rfl ek ?_;refine tN 19 rfl ek ?_;simp only[cR];refine tN 20 rfl ek ?_;refine tI 21 rfl ek ?_;refine tI 22 rfl ek ?_;refine tN 23 rfl ek ?_;simp only[cR];refine tN 24 rfl ek ?_;refine tN 25 rfl ek ?_;refine tN 26 rfl ek ?_;refine tN 27 rfl ek ?_;simp only[cR];refine tN 28 rfl ek ?_;refine tN 29 rfl ek ?_;refine tI 30 rfl ek ?_;refine tI 31 rfl ek ?_;simp only[cR];refine tN 32 rfl ek ?_;refine tN 33 rfl ek ?_;refine tN 34 rfl ek ?_;refine tN 35 rfl ek ?_;simp only[cR];refine tN 36 rfl ek ?_;refine tN 37 rfl ek ?_;refine tN 38 rfl ek ?_;refine tN 39 rfl ek ?_;simp only[cR];refine tN 40 rfl ek ?_;refine tN 41 rfl ek ?_;refine tN 42 rfl ek ?_;refine tN 43 rfl ek ?_;simp only[cR];refine tN 44 rfl ek ?_;refine tN 45 rfl ek ?_;refine tN 46 rfl ek ?_;refine tN 47 rfl ek ?_;simp only[cR];refine tN 48 rfl ek ?_;refine tI 49 rfl ek ?_;simp only[cR];refine aF cJ ?_ _;go_wp2_with fail
   go_meet
   have ht:m.takes x=false:=by rw[HT.out];simp
   exact⟨by rw[ht];rfl,by rw[uV ht];exact HH.out.2.1.below BY,ek⟩
  |true=>
  obtain rfl:k1=0:=UW.out;clear UW;by_cases ho:x.ew=(ZD:Int)
  ·have t20:(x.ew==(ZD:Int))=true:=by simpa using ho
   have ht:m.takes x=false:=by rw[HT.out];simp[ho]
   clear ho;refine tI 12 rfl ek ?_;refine tI 13 rfl ek ?_;refine tI 14 rfl ek ?_;refine tJ 15 rfl ek g0 ?_;simp only[cR];refine tI 16 rfl ek ?_;refine tI 17 rfl ek ?_;refine tI 18 rfl ek ?_;refine tJ 19 rfl ek f0 ?_;simp only[cR];refine tI 20 rfl ek ?_;refine tI 21 rfl ek ?_;refine tI 22 rfl ek ?_;refine tN 23 rfl ek ?_;simp only[cR];refine tN 24 rfl ek ?_;refine tN 25 rfl ek ?_;refine tN 26 rfl ek ?_;refine tN 27 rfl ek ?_;simp only[cR];refine tN 28 rfl ek ?_;refine tN 29 rfl ek ?_;refine tI 30 rfl ek ?_;refine tI 31 rfl ek ?_;simp only[cR];refine tN 32 rfl ek ?_;refine tN 33 rfl ek ?_;refine tN 34 rfl ek ?_;refine tN 35 rfl ek ?_;simp only[cR];refine tN 36 rfl ek ?_;refine tN 37 rfl ek ?_;refine tN 38 rfl ek ?_;refine tN 39 rfl ek ?_;simp only[cR];refine tN 40 rfl ek ?_;refine tN 41 rfl ek ?_;refine tN 42 rfl ek ?_;refine tN 43 rfl ek ?_;simp only[cR];refine tN 44 rfl ek ?_;refine tN 45 rfl ek ?_;refine tN 46 rfl ek ?_;refine tN 47 rfl ek ?_;simp only[cR];refine tN 48 rfl ek ?_;refine tI 49 rfl ek ?_;simp only[cR];refine aF cJ ?_ _;go_wp2_with fail
   go_meet
   case rel=>exact⟨by rw[ht];rfl,by rw[uV ht];exact HH.out.2.1.below BY,ek⟩
  have t20:(x.ew==(ZD:Int))=false:=by simpa using ho
  have HO:=cD ho;clear ho;refine tI 12 rfl ek ?_;refine tI 13 rfl ek ?_;refine tI 14 rfl ek ?_;refine tJ 15 rfl ek g0 ?_;simp only[cR];refine tI 16 rfl ek ?_;refine tI 17 rfl ek ?_;refine tI 18 rfl ek ?_;refine tJ 19 rfl ek f0 ?_;simp only[cR];refine tI 20 rfl ek ?_;refine tI 21 rfl ek ?_;refine tI 22 rfl ek ?_;refine tL 23 rfl ek 40 (.tmp 5) w.heap.size 0 [.i x.ew,.v (x.seq:Int),.i x.dO,.v (x.ep:Int),.slice i.sa ns i.sc,.slice i.ea ne i.ec,.u (x.cl:Int)] gI underlying40 fm.out ?_;simp only[cR];refine tI 24 rfl ek ?_;refine tI 25 rfl ek ?_;refine tI 26 rfl ek ?_;refine tJ 27 rfl ek f5 ?_;simp only[cR];refine cI 28 rfl ?_;refine(No.out w3 BY).mono ?_;rintro e w4 ⟨rfl,hb4⟩;have hB4:=BY.trans (hb4.mono BY.size);have eV:cQ (fun b=>b∈A.tb) w2 w4:=dA hB4;refine⟨eV,?_⟩;clear hb4 BY ek;simp only[cR];cases c3 with
  |false=>
   refine tI 29 rfl eV ?_;refine tI 30 rfl eV ?_;refine tI 31 rfl eV ?_;refine tN 32 rfl eV ?_;simp only[cR];refine tN 33 rfl eV ?_;refine tN 34 rfl eV ?_;refine tN 35 rfl eV ?_;refine tN 36 rfl eV ?_;simp only[cR];refine tN 37 rfl eV ?_;refine tN 38 rfl eV ?_;refine tN 39 rfl eV ?_;refine tN 40 rfl eV ?_;simp only[cR];refine tN 41 rfl eV ?_;refine tN 42 rfl eV ?_;refine tN 43 rfl eV ?_;refine tN 44 rfl eV ?_;simp only[cR];refine tN 45 rfl eV ?_;refine tN 46 rfl eV ?_;refine tN 47 rfl eV ?_;refine tN 48 rfl eV ?_;simp only[cR];refine tI 49 rfl eV ?_;simp only[cR];refine aF cJ ?_ _;go_wp2_with fail
   go_meet
   have ht:m.takes x=false:=by rw[HT.out];simp
   exact⟨by rw[ht];rfl,by rw[uV ht];exact HH.out.2.1.below hB4,eV⟩
  |true=>
  by_cases hcl:x.cl=0
  ·have nT:∃r tb tg nh,x.dO=((r:Nat):Int)∧A.tb[r]?=some tb∧A.ta=some ⟨tg,nh,none⟩∧(r:Int)<(nt:Int)∧(∀w',cQ (fun b=>b∈A.tb) w2 w'→w'.cell? ⟨tg,nh+r,none⟩=some (.p tb))∧m.takes x=decide (ax.1=0)∧aT prog 249 #[.p tb,.slice i.ea ne i.ec] w4 fun e w'=>e=.returned (.i ax.1)∧cZ w0 w' A (uW m x)∧cQ (fun b=>b∈A.tb) w4 w':=by
    obtain⟨h,h2,dI,MY,DA,hx,XJ,k2,Cs,Jb,hnt,tZ,oQ,hne,MV,hc1,hD⟩:=HH.out;have aio:=Kk hc1.symm hcl;obtain⟨r,hr⟩:∃r:Nat,x.dO=(r:Int):=⟨x.dO.toNat,by omega⟩;have hrl:r<m.dP.length:=by omega
    have hrt:x.dO.toNat=r:=by omega
    obtain⟨tb,htb⟩:∃b,A.tb[r]?=some b:=⟨_,ag (by rw[h2.tl,h.ok.tl];exact hrl)⟩;obtain⟨tg,nh,wR,htl,htlt,ZZ⟩:=h2.data.row r tb htb;have O3:m.takes x=decide (ax.1=0):=by rw[HT.out,hcl];simp[HO.out]
    refine⟨r,tb,tg,nh,hr,htb,wR,by rw[hnt,h.ok.tl];omega,fun w' hk=>(hk.cell (p:=⟨tg,nh+r,none⟩) htlt (fun e=>htl.1 (A.zt e))).trans ZZ,O3,?_⟩;have:=NB (h2.below hB4) h.ok h.hN htb DA (MY.below hB4);rw[←hne] at this;rw[hrt] at MV;rw[←MV] at this;refine this.mono ?_;rintro e w' ⟨e1,hM,hk⟩;refine⟨e1,?_,hk.mono (fun b _ e=>by have e:b=tb:=e;exact e▸aC htb)⟩;unfold uW;rw[O3,hrt,←MV];by_cases h0:ax.1=0
    ·rw[if_pos ⟨by simpa using h0,hcl⟩]
     rwa [if_pos h0] at hM
    rw[if_neg (fun e=>h0 (by simpa using e.1))]
    rwa [if_neg h0] at hM
   obtain⟨r,tb,tg,nh,hr,htb,wR,Wm,ftr,O3,af1⟩:=nT;have QG:=cD af1;have f2r:∀w',cQ (fun b=>b∈A.tb) w2 w'→w'.cell? ⟨A.mb,2,none⟩=some (.slice (some ⟨tg,nh,none⟩) nt A.tc):=fun w' hk=>by rw[←wR];exact f2 w' hk
   have g2r:∀w',cQ (fun b=>b∈A.tb) w2 w'→w'.cell? ⟨w.heap.size,2,none⟩=some (.i (r:Int)):=fun w' hk=>by rw[←hr];exact g2 w' hk
   have t34:((x.cl:Int)==0)=true:=by simpa using hcl
   have Ib:(0:Int)≤(r:Int):=by omega
   have aim:r<nt:=by omega
   obtain⟨a0,ha0⟩:∃a,a=ax.1:=⟨_,rfl⟩;rw[←ha0] at QG O3;have HTK:=cD O3;clear O3 ha0 af1 wR htb hcl f2 g2 hr;refine tI 29 rfl eV ?_;refine tI 30 rfl eV ?_;refine tI 31 rfl eV ?_;refine tI 32 rfl eV ?_;simp only[cR];refine tJ 33 rfl eV g6 ?_;refine tI 34 rfl eV ?_;refine tI 35 rfl eV ?_;refine tI 36 rfl eV ?_;simp only[cR];refine tI 37 rfl eV ?_;refine tI 38 rfl eV ?_;refine tJ 39 rfl eV f2r ?_;refine tI 40 rfl eV ?_;simp only[cR];refine tJ 41 rfl eV g2r ?_;refine tI 42 rfl eV ?_;refine tJ 43 rfl eV ftr ?_;refine tI 44 rfl eV ?_;simp only[cR];refine tJ 45 rfl eV g5 ?_;simp only[cR];refine cI 46 rfl ?_;refine QG.out.mono ?_;rintro e w5 ⟨rfl,hM5,hk5⟩;have oM:=eV.trans hk5;have Qe:=cD hM5;refine⟨oM,?_⟩;clear hM5 hk5;simp only[cR];by_cases h0:a0=0
   ·subst h0
    refine tI 47 rfl oM ?_;refine tI 48 rfl oM ?_;refine tI 49 rfl oM ?_;simp only[cR];refine aF cJ ?_ _;go_wp2_with fail
    go_meet
    case rel=>exact⟨by rw[HTK.out];rfl,Qe.out,oM⟩
   have t47:(a0 != 0)=true:=by simpa using h0
   have H0:=cD h0;clear h0;refine tI 47 rfl oM ?_;refine tI 48 rfl oM ?_;refine tI 49 rfl oM ?_;simp only[cR];refine aF cJ ?_ _;go_wp2_with fail
   go_meet
   case rel=>exact⟨by rw[HTK.out,decide_eq_false H0.out];rfl,Qe.out,oM⟩
  have t34:((x.cl:Int)==0)=false:=by simpa using hcl
  have ht:m.takes x=true:=by rw[HT.out];simp[HO.out];omega
  have aiV:=cD hcl;clear hcl;refine tI 29 rfl eV ?_;refine tI 30 rfl eV ?_;refine tI 31 rfl eV ?_;refine tI 32 rfl eV ?_;simp only[cR];refine tJ 33 rfl eV g6 ?_;refine tI 34 rfl eV ?_;refine tI 35 rfl eV ?_;refine tN 36 rfl eV ?_;simp only[cR];refine tN 37 rfl eV ?_;refine tN 38 rfl eV ?_;refine tN 39 rfl eV ?_;refine tN 40 rfl eV ?_;simp only[cR];refine tN 41 rfl eV ?_;refine tN 42 rfl eV ?_;refine tN 43 rfl eV ?_;refine tN 44 rfl eV ?_;simp only[cR];refine tN 45 rfl eV ?_;refine tN 46 rfl eV ?_;refine tN 47 rfl eV ?_;refine tI 48 rfl eV ?_;simp only[cR];refine tI 49 rfl eV ?_;simp only[cR];refine aF cJ ?_ _;go_wp2_with fail
  go_meet
  case rel=>exact⟨by rw[ht];rfl,by unfold uW;rw[if_neg (fun e=>aiV.out e.2)];exact HH.out.2.1.below hB4,eV⟩
 case rest=>
 obtain⟨rfl,Qx,BW⟩:=hcut;obtain⟨b,hb⟩:=cF (m.takes x);rw[←hb];have HB:=cD hb;have HMC:=cD (cC Qx BW);clear hb;cases b with
 |false=>
  clear Qx BW;go_wp2
  go_ret
  have e1:m.take x=(m,oI 62):=by unfold cV.take;rw[if_pos HB.out.symm]
  rw[e1];obtain⟨Qx,BW⟩:=HMC.out;rw[uV HB.out.symm] at Qx;obtain⟨h,h2,dI,_⟩:=HH.out;exact gM (B:=B) Qx ((h.Bz.below dI).kept BW (fun e=>(h.gu.xz db h.X).1 (A.zt e))) 62 ((dA dI).trans (BW.mono (fun b _ e=>.inl (A.zt e))))
 |true=>
 obtain⟨m1,zx⟩:∃a,a=(if 0<x.cl then m.jS (x.ew,x.cl) else m.eA x.dO.toNat (m.cS x.dO.toNat+1,(dU (m.cP x.dO.toNat) (m.dQ x.dO.toNat) x.dF).2)):=⟨_,rfl⟩;have Qf:=cD zx;have HOG:Hid (0≤x.ew∧x.ew<(m.v.length:Int)∧x.ew≠(m.dy:Int)):=cD (by
  have ht:=HB.out;rw[HT.out] at ht;have h1:c1=true:=by cases c1 with|true=>rfl|false=>simp at ht
  have h2:decide (x.ew=(ZD:Int))=false:=by
   cases hd:decide (x.ew=(ZD:Int)) with
   |false=>rfl
   |true=>rw[hd,h1] at ht;simp at ht
  obtain⟨h,_,dI,MY,DA,hx,XJ,k2,Cs,Jb,hnt,tZ,oQ,hne,MV,hc1,hD⟩:=HH.out;rw[h1] at hc1;have:=Kl hc1.symm;rw[Cs] at h2;exact⟨this.1,this.2.1,of_decide_eq_false h2⟩)
 have q6:=g6 wc BW;refine(Decidable.em (0<x.cl)).elim (fun hcl=>?pos) (fun hcl=>?neg)
 case' pos=>
  have t63:decide ((0:Int)<(x.cl:Int))=true:=by simpa using hcl
  rw[if_pos hcl] at zx;have FJ:Hid (cZ w0 wc A m∧iP wc A.sb A.gb m.dy m.last m.gone∧A.mb≠A.gb∧0<x.cl∧A.gb≠w.heap.size):=by
   have Qx:=HMC.out.1;have e1:uW m x=m:=by unfold uW;rw[if_neg (fun e=>by omega)]
   rw[e1] at Qx;have:=HH.out.1.gu.ze A.zg;exact cD ⟨Qx,Qx.xk,Qx.apart.ms.2.1,hcl,by omega⟩
  have f4:∀w',cQ (·=A.gb) wc w'→w'.cell? ⟨A.mb,4,none⟩=some (.p A.sb):=fun w' hk=>(hk.cell (p:=⟨A.mb,4,none⟩) (aB FJ.out.1.blk) FJ.out.2.2.1).trans FJ.out.1.cells.2.2.2.2.1
  have gx:∀w',cQ (·=A.gb) wc w'→w'.rangeAt w.heap.size 0 [.i x.ew,.v (x.seq:Int),.i x.dO,.v (x.ep:Int),.slice i.sa ns i.sc,.slice i.ea ne i.ec,.u (x.cl:Int)]:=fun w' hk=>dJ (hk.same (HMC.out.2.same HH.out.2.2.2.2.2.2.2.1 (fun e=>(HH.out.2.2.2.2.2.2.1 _ e).1 rfl)) (fun e=>FJ.out.2.2.2.2 e.symm))
  have x0:∀w',cQ (·=A.gb) wc w'→w'.cell? ⟨w.heap.size,0,none⟩=some (.i x.ew):=fun w' hk=>gx w' hk 0 _ rfl
  have x6:∀w',cQ (·=A.gb) wc w'→w'.cell? ⟨w.heap.size,6,none⟩=some (.u (x.cl:Int)):=fun w' hk=>gx w' hk 6 _ rfl
  have YM:Hid (∀W,cE wc W→aT prog 250 #[.p A.sb,.agg #[.i x.ew,.u (x.cl:Int)]] W fun e w'=>e=.returned (.tuple #[])∧cZ w0 w' A m1∧cQ (·=A.gb) W w'):=cD (fun W hW=>by
   have hW':=FJ.out.1.below hW;have DA:=HH.out.2.2.2.2.1;refine(OS A.sb A.gb m.dy m.last m.gone x.ew (x.cl:Int) W hW'.xk ⟨by have:=DA.ew;omega,by have:=DA.ew;omega⟩ ⟨by omega,by have:=DA.cl;omega⟩ HOG.out.2.2 cK).mono ?_;rintro e w' ⟨e1,hs,hk⟩;refine⟨e1,?_,hk⟩;rw[zx];exact hW'.JL hk (fun b e=>.inr e) hs)
  have hBd:cE wc wc.drew:=(ah _ wc).drew;have HC:=cD hcl;clear zx hcl Qx BW f0 f1 f2 f5 g0 g2 g5 g6 gI hS0;go_wp2_with fail
  clear q6;refine wp_region_held_drew (S:=fun w'=>cQ (·=A.gb) wc w') cJ (dA hBd) (fun hS=>?_);generalize wc.drew=wd at hS hBd⊢;refine tI 0 rfl hS ?_;refine tI 1 rfl hS ?_;refine tI 2 rfl hS ?_;refine tJ 3 rfl hS f4 ?_;simp only[cR];refine tI 4 rfl hS ?_;refine tJ 5 rfl hS x0 ?_;refine tI 6 rfl hS ?_;refine tJ 7 rfl hS x6 ?_;simp only[cR];refine tI 8 rfl hS ?_;simp only[cR];refine cI 9 rfl ?_;refine(YM.out wd hBd).mono ?_;rintro e wl ⟨rfl,hml,hkl⟩;have aaC:=hS.trans hkl;refine⟨aaC,?_⟩;have Pe:cQ (fun b=>A.Z b) w2 wl:=(HMC.out.2.mono (fun b _ e=>A.zt e)).trans (aaC.mono (fun b _ e=>by have e:b=A.gb:=e;exact e▸A.zg));have HL:=cD (cC hml Pe);clear hml Pe hkl hS hBd;simp only[cR];refine aF cJ ?_ _;clear aaC f4 gx x0 x6 YM FJ HC t63;go_wp2_with fail
 case' neg=>
  have t63:¬(0<x.cl):=hcl;rw[if_neg hcl] at zx;obtain⟨wl,hwl⟩:=cF wc;subst hwl;have HL:=cD (show cZ w0 wl A m1∧cQ (fun b=>A.Z b) w2 wl from⟨by
   have h1:=HMC.out.1;unfold uW at h1;rw[if_pos ⟨HB.out.symm,by omega⟩] at h1;rw[zx];exact h1,HMC.out.2.mono (fun b _ e=>A.zt e)⟩)
  clear zx hcl Qx BW f0 f1 f2 f5 g0 g2 g5 g6 gI hS0;go_wp2_with fail
  clear q6 t63
 all_goals
  obtain⟨hml,Pe⟩:=HL.out;obtain⟨h,h2,dI,MY,DA,hx,XJ,k2,Cs,Jb,hnt,tZ,oQ,hne,MV,hc1,hD⟩:=HH.out;have sN:m1.v=m.v:=by rw[Qf.out];split<;>rfl
  have kl:=Pe.same k2 (fun e=>by have:=h.gu.ze e;omega);have z5:∀w',cE wl w'→w'.cell? ⟨A.mb,5,none⟩=some (.slice A.va nv A.vc):=fun w' hb=>(hml.below hb).cells.2.2.2.2.2.1.trans (by rw[sN,tZ])
  have z0:∀w',cE wl w'→w'.cell? ⟨w.heap.size,0,none⟩=some (.i x.ew):=fun w' hb=>aG _ _ 0 _ 40 (0,0) ((hb.block _ (aB kl)).trans kl)
  have zQ:Hid (∀W,cE wl W→aT prog 251 #[.slice A.va nv A.vc,.i x.ew] W (jb W (lF m.v x.ew.toNat))):=cD (fun W hW=>by
   have hog:=HOG.out;have Kq:=(hml.below hW).data.v;rw[sN] at Kq;have:=MJ W A.va A.vc _ m.v x.ew.toNat cK (by have:=h.ok.vl;omega) (by have:=cV.vT h.ok.vN x.ew.toNat;have:=h.hN;omega) Kq
   rwa [show((x.ew.toNat:Nat):Int)=x.ew by omega,←tZ] at this)
  have AW:(lF m.v x.ew.toNat).length=nv:=by rw[cV.pG,tZ]
  have HN:=cD (cC sN (cC kl AW));have hS:cE wl wl.drew:=(ah _ wl).drew;clear hml Pe h h2 dI MY DA hx XJ k2 Cs Jb hnt tZ oQ hne MV hc1 hD sN kl AW;refine(wpIn_wide (n:=0)).1 (fB (S:=fun w'=>cE wl w') (c:=10) ?_);refine fJ 0 hS ?_;simp only[cR];refine fJ 1 hS ?_;simp only[cR];refine fJ 2 hS ?_;simp only[cR];refine fJ 3 hS ?_;simp only[cR];refine fI 4 rfl hS (fun w' hS'=>by have:=z5 w' hS';go_simp<;>rfl) ?_;simp only[cR];refine fJ 5 hS ?_;simp only[cR];refine fI 6 rfl hS (fun w' hS'=>by have:=z0 w' hS';go_simp<;>rfl) ?_;simp only[cR];refine fK 7 rfl fun K' gv=>?_
  gi_wp2_with fail
  refine⟨trivial,rfl,(aA.2 (zQ.out wl.drew hS)).mono ?_⟩;rintro e w8 xI;obtain⟨a2,k2,rfl,_,xI,Ii⟩:=xI.sl;have jP:cE wl w8:=hS.trans (Ii.mono hS.size);have h9:=(HL.out.1.below jP).acK (a:=a2) (c:=k2) (V:=lF m.v x.ew.toNat) (xI.mono (fun b _ hb=>HL.out.1.Mw (af hS.size hb)));rw[HN.out.2.2] at h9⊢;have zw:=(HL.out.1.below jP).blk;have aas:w8.cell? ⟨A.mb,5,none⟩=some (.slice A.va nv A.vc):=z5 w8 jP;have aam:w8.frozen? ⟨A.mb,5,none⟩=false:=by
   have zw:w8.heap[A.mb]?=_:=zw;simp[bF,zw]
  obtain⟨w9,nH⟩:=cF (w8.setCell ⟨A.mb,5,none⟩ (.slice a2 nv k2));have Ph:cQ (·=A.mb) w8 w9:=by rw[nH];exact(cQ.refl (·=A.mb) w8).setCell (p:=⟨A.mb,5,none⟩) rfl _
  rw[←nH] at h9;have Uc:=cD nH;have MW:cQ (fun b=>A.Z b) w2 w9:=(HL.out.2.trans (dA jP)).trans (Ph.mono (fun b _ e=>by have e:b=A.mb:=e;exact e▸A.zm));have H9:=cD (cC h9 MW);refine gv _ _ jP ?_;clear gv nH h9 Ph zw xI Ii MW;refine fJ 8 jP ?_;simp only[cR];refine fJ 9 jP ?_;simp only[cR];refine fC 10 rfl fun K' gv=>?_
  gi_wp2_with fail
  rw[←Uc.out];refine fD ?_ cJ _;clear aas aam z0 z5 hS jP;have HD9:Hid (DB w9 db E zR zI):=cD (by
   obtain⟨h,h2,dI,_⟩:=HH.out;exact(h.Bz.below dI).kept H9.out.2 (fun e=>(h.gu.xz db h.X).1 e))
  have HIB:Hid (w9.rangeAt w.heap.size 0 [.i x.ew,.v (x.seq:Int),.i x.dO,.v (x.ep:Int),.slice i.sa ns i.sc,.slice i.ea ne i.ec,.u (x.cl:Int)]):=cD (by
   obtain⟨h,h2,dI,_,_,_,_,k2,_⟩:=HH.out;exact dJ (H9.out.2.same k2 (fun e=>by have:=h.gu.ze e;omega)))
  have yY:Hid (w9.there db 36 7):=cD (HD9.out.there 36 7 cL);have gG:Hid ((#[.i x.ew,.v (x.seq:Int),.i x.dO,.v (x.ep:Int),.slice i.sa ns i.sc,.slice i.ea ne i.ec,.u (x.cl:Int)]:Array aE).all (·.oneCell')=true):=cD (by simp[aq]);obtain⟨lR,xH⟩:=cF (w9.setCells db 36 [.i x.ew,.v (x.seq:Int),.i x.dO,.v (x.ep:Int),.slice i.sa ns i.sc,.slice i.ea ne i.ec,.u (x.cl:Int)]);have Xj:=cD xH;clear xH;go_wp2_with (first
   |(refine aL rfl 40 (.tmp 5) rfl w.heap.size 0 rfl [.i x.ew,.v (x.seq:Int),.i x.dO,.v (x.ep:Int),.slice i.sa ns i.sc,.slice i.ea ne i.ec,.u (x.cl:Int)] _ HIB.out underlying40 rfl fm.out ?_)
   |(refine wpList_store_mid rfl 40 (.tmp 87) (.tmp 85) rfl db 36 #[.i x.ew,.v (x.seq:Int),.i x.dO,.v (x.ep:Int),.slice i.sa ns i.sc,.slice i.ea ne i.ec,.u (x.cl:Int)] rfl rfl yY.out fm.out gG.out ?_;rw[←Xj.out])
   |fail)
  go_ret
  obtain⟨h,h2,dI,MY,DA,hx,XJ,k2,Cs,Jb,hnt,tZ,oQ,hne,MV,hc1,hD⟩:=HH.out;have hit:cU x i=[.i x.ew,.v (x.seq:Int),.i x.dO,.v (x.ep:Int),.slice i.sa ns i.sc,.slice i.ea ne i.ec,.u (x.cl:Int)]:=by unfold cU;rw[oQ,hne]
  have xH:=Xj.out;rw[←hit] at xH;obtain⟨aeH,hU⟩:=HD9.out.acM (I':=cU x i) rfl (yC _ _);have h10:=H9.out.1.Mf (o:=36) (cs:=cU x i) HD9.out h.X hU;rw[←xH] at aeH h10;have WD:cQ (·=db) w9 lR:=by rw[xH];exact iw w9 db 36 _
  have hall:cQ (fun b=>A.Z b∨b=db) w2 lR:=(H9.out.2.mono (fun b _ e=>.inl e)).trans (WD.mono (fun b _ e=>.inr e));have e1:m.take x=(m.kz x,⟨0,lX,[],x⟩):=by unfold cV.take;rw[if_neg (by rw[←HB.out];simp)]
  have e2:m.kz x={m1 with v:=lF m.v x.ew.toNat}:=by unfold cV.kz;rw[←Qf.out]
  have ajn:ez lR (fun b=>B≤b) i Ei x:=EY MY ((akD.out).below dI) hall (fun b dB dI e=>by
   rcases e with e|e
   ·have:=h.zB b e;omega
   omega)
  rw[e1,e2];exact⟨⟨0,0,zR,i,Ei,rfl,aeH,jV _ _ _,ajn.mono (fun b hb=>⟨hb,h10.AJ (fun e=>by have:=h.zB b (A.zo e);have hb:B≤b:=hb;omega)⟩),rfl,fun h=>absurd rfl h⟩,⟨_,_,A.ov,A.C,h10,fun b e=>.inl e⟩,(dA dI).trans hall⟩
end
attribute [local go_sem] Oper.semAt_some
section
variable{F:Fence}{n:Nat}{P:Program}{ops:Array Oper}{Q:Exit→Act→World→Prop}{md:Region.Mode}{S:World→Prop}{c:Nat}
theorem zS{i:Nat}{oi:Oper}{v:aE}(KC:c≠i)(hro:F.round=none∨∀(j:Nat) (o:Oper) c,ops[j]?=some o→o.op≠.defer c)(hi:ops[i]?=some oi)(hsel:∀(j:Nat) (o:Oper) cs b,ops[j]?=some o→o.op≠.select cs b)
  (hQ:∀c a w,Q (.panic c) (a.put oi.dst v) w→Q (.panic c) a w):
  ∀(fuel:Nat) (listed:Array Bool) (a:Act) (w:an),
   (∀j oj,ops[j]?=some oj→j≠i→listed.getD j true=false→(∀e∈oj.after,bJ md e=true→e.on≠i)→oi.apart ops oj=true)→
   i∈bH md ops listed→ja P ops (fun _=>True) oi v a→(listed.getD c true=false→S w)→
   eY F n P md ops Q S c fuel (listed.setIfInBounds i true) (a.put oi.dst v) w→eY F n P md ops Q S c (fuel+1) listed a w:=by
 intro fuel
 induction fuel with
 |zero=>
  intro listed a w _ hr hy hS H;refine⟨fun h=>(by rw[h] at hr;cases hr),fun j hj=>?_⟩;by_cases hji:j=i
  ·subst hji;exact hy.op (hro.imp_right fun h c=>h _ _ c hi) hi trivial ⟨fun hc=>hS (by rwa [bG true (aQ KC)] at hc),H⟩
  have:=ready_mono hj hji;rw[H.1] at this;cases this
 |succ fuel ih=>
  intro listed a w hfree hr hy hS H;refine⟨fun h=>(by rw[h] at hr;cases hr),fun j hj=>?_⟩;by_cases hji:j=i
  ·subst hji;exact hy.op (hro.imp_right fun h c=>h _ _ c hi) hi trivial ⟨fun hc=>hS (by rwa [bG true (aQ KC)] at hc),H⟩
  have h1:=H.2 j (ready_mono hj hji);obtain⟨SF,oj,Qr,hall⟩:=mem_ready.1 hj;have hnot:∀e∈oj.after,bJ md e=true→e.on≠i:=fun e he hb heq=>by
   have h1:=hall e he hb;have h0:=(mem_ready.1 hr).1;rw[heq] at h1;rcases Nat.lt_or_ge i listed.size with h'|h'
   ·simp[h'] at h0 h1;rw[h0] at h1;cases h1
   simp[Array.getElem?_eq_none h'] at h1
  have h2:=yg (hro.imp_right fun h c=>h _ _ c Qr) Qr (hfree j oj Qr hji SF hnot) (fun cs b=>hsel i oi cs b hi) (fun cs b=>hsel j oj cs b Qr) hQ hy h1;have Kz:∀k ok,ops[k]?=some ok→k≠i→(listed.setIfInBounds j true).getD k true=false→
    (∀e∈ok.after,bJ md e=true→e.on≠i)→oi.apart ops ok=true:=fun k ok hk hki hun hno=>by
   refine hfree k ok hk hki ?_ hno;by_cases hjk:j=k
   ·subst hjk;exact SF
   ·rw[bG true hjk] at hun;exact hun
  refine wpOpIn_mono (fun a' w' h3=>?_) h2;have hcm:(listed.setIfInBounds i true).setIfInBounds j true=(listed.setIfInBounds j true).setIfInBounds i true:=Array.setIfInBounds_comm _ _ (aQ hji);have h4:=h3.2.2;rw[hcm] at h4;have hSw:(listed.setIfInBounds j true).getD c true=false→S w':=fun hc=>h3.2.1 (by rw[hcm,bG true (aQ KC)];exact hc)
  exact⟨hSw,ih (listed.setIfInBounds j true) a' w' Kz (ready_mono hr (aQ hji)) h3.1 hSw h4⟩
end
section
variable{F:Fence}{n:Nat}{P:Program}{l:List Oper}{Q:Exit→Act→World→Prop}{md:Region.Mode}{S:World→Prop}{c:Nat}
theorem fP(i:Nat){oi:Oper}{r:List Oper}{v:aE}{fuel:Nat}{listed:Array Bool}{a:Act}{w:an}(hi:l.drop i=oi::r)(hS:listed.getD c true=false→S w)(hy:∀w',(execOp a.eval oi).run P w'=.ok (.value v) w')
  (h:eY F n P md l.toArray Q S c fuel (listed.setIfInBounds i true) (a.put oi.dst v) w)
  (hro:F.round=none∨vC l=true:=by first|exact .inl rfl|exact .inr cJ) (hab:∀w,oi.about P w a.eval=none:=by intro w;rfl)
  (hs:Region.noSelect l.toArray=true:=by kernel_rfl) (hf:Region.free md l.toArray listed i=true:=by kernel_rfl) (hr:(bH md l.toArray listed).contains i=true:=by kernel_rfl)
  (hw:bB oi (yielded l.toArray a.tmps)=true:=by kernel_rfl) (KC:c≠i:=by decide)
  (hQ:∀c a w,Q (.panic c) (a.put oi.dst v) w→Q (.panic c) a w:=by exact fun _ _ _ h=>h):eY F n P md l.toArray Q S c (fuel+1) listed a w:=
 zS KC (hro.imp_right qb) (gh hi) (Region.noSelect_spec hs) hQ fuel listed a w (Region.free_spec (gh hi) hf) (by simpa using hr) ⟨.inl ⟨hw,fun w' _=>hy w'⟩,hab⟩ hS h
end
structure KL(n₀ bo:Nat)(W W':an):Prop where
 below:Below n₀ W W'
 size:W.heap.size≤W'.heap.size
 cells:∀b cs t fr,b≠bo→t≠35→W.heap[b]?=some (.cells cs t fr)→W'.heap[b]?=some (.cells cs t fr)
theorem KL.trans{n₀ bo:Nat}{a b c:an}(h:KL n₀ bo a b)(k:KL n₀ bo b c):KL n₀ bo a c:=⟨h.below.trans k.below,af h.size k.size,fun x cs t fr h1 h2 e=>k.cells x cs t fr h1 h2 (h.cells x cs t fr h1 h2 e)⟩
theorem gP{n₀ bo:Nat}{W W':an}(hn:n₀≤W.heap.size)(hb:cE W W'):KL n₀ bo W W':=⟨hb.mono hn,hb.size,fun b cs t fr _ _ e=>(hb.block b (aB e)).trans e⟩
theorem KL.box{n₀ bo:Nat}{W W':an}(h:KL n₀ bo W W'){b:Nat}{t:TypeId}{v:aE}(h1:b≠bo)(h2:t≠35)(e:Boxed W b t v):Boxed W' b t v:=h.cells b _ t _ h1 h2 e
theorem TR.Zv{w0 w:an}{b:Nat}{cP:cO}{cS:Int}{M:List (cO×Nd)}(R:TR w0 w b cP cS M):
  aT prog 111 #[.p b] w fun e w'=>∃v,e=.returned v∧rR w' w.heap.size v (iu M)∧cE w w':=by
 obtain⟨lo,mb,T⟩:=R.tree;exact T.Dc R.short R.fit.cW
namespace cV
def Dp(m:cV)(r:Nat)(p:cO):Bool:=m.gone.contains (((dL p (m.dQ r)).getD iQ).num.os,((dL p (m.dQ r)).getD iQ).num.on)
theorem left_eq(m:cV)(r:Nat):m.left r=(iu (m.dQ r)).filter (Dp m r):=rfl
def nE(m:cV)(r i:Nat):List cO:=((iu (m.dQ r)).take i).filter (Dp m r)
section
variable{m:cV}{r i:Nat}{p:cO}
theorem Dn(h:(iu (m.dQ r))[i]?=some p)(hp:Dp m r p=true):nE m r (i+1)=nE m r i++[p]:=by
 unfold nE;rw[bX,h,bW];simp[hp]
theorem Kf(h:(iu (m.dQ r))[i]?=some p)(hp:Dp m r p=false):nE m r (i+1)=nE m r i:=by
 unfold nE;rw[bX,h,bW];simp[hp]
theorem OP(m:cV)(r:Nat):nE m r (iu (m.dQ r)).length=m.left r:=by rw[left_eq];unfold nE;rw[List.take_length]
theorem OO(m:cV)(r i:Nat):(nE m r i).length≤i:=by
 unfold nE;refine af (List.length_filter_le _ _) ?_;rw[bq];omega
theorem ON(m:cV)(r i:Nat):nE m r i <+: m.left r:=by
 rw[left_eq];unfold nE;exact(List.take_prefix i _).filter _
end
end cV
theorem kN{F:Fence}{n:Nat}{P:Program}{o:Oper}{a:Act}{w:an}{K:Act→an→Prop}{Q:Exit→Act→an→Prop}(ty:TypeId)(x y:Operand)(hop:o.op=.store ty x y)
  (b off:Nat) (cells:Array aE) (hx:a.eval x=.pointer (some ⟨b,off,none⟩)) (hy:a.eval y=.agg cells) (ht:w.there b off cells.size) (hi:(P.info? ty).map (·.size)=some cells.size) (h1:cells.all (·.oneCell')=true)
  (hK:K (a.put o.dst aj) (w.setCells b off cells.toList)):bK F n P o a w K Q:=by
 unfold bK;refine⟨?_,?_⟩
 ·simp[Oper.about,hop]
 rw[Oper.semAt_plain F _ _ (by rw[hop];intro c hc';cases hc')];unfold execOp;simp only[hop,hx,hy,Instr.storeAt,Instr.sureAddr,Sem.run_bind,Sem.run_pure,bQ,run_storeVar_mid w b off ty cells ht hi h1];exact hK
section
variable{w0 wb:World}{A:MA}{m:cV}{N:Nat}
theorem OR(hm:cZ w0 wb A m)(ok:m.Ok N)(n l b1 b2 bo r:Nat)(hr:r<m.dP.length)(J Jx:List cO→an→Prop)
  (hY:∀pre p W,J pre W→pre.length<48→YieldAt Fence.wide (n - 1) prog l #[.s p] W fun e W'=>
   (e=.returned (.T)∧J (pre++[p]) W'∧KL wb.heap.size bo W W')∨(e=.returned (.F)∧Jx (pre++[p]) W'))
  (W:an) (hJ:AbidesFrom W.heap.size J) (hW:cE wb W) (h1:Boxed W b1 24 (.p A.mb)) (h2:Boxed W b2 3 (.i r)) (l1:b1≠bo) (l2:b2≠bo) (l3:bo<W.heap.size) (h0:J [] W):
  CallsIn Fence.wide n prog 110 #[.func (.yield l) #[] #[],.p b1,.p b2] W fun e W'=>(∃v,e=.returned v)∧
   ((∃ys,ys=m.left r∧J ys W')∨(∃pre,pre <+: m.left r∧Jx pre W')):=by
 obtain⟨tb,htb⟩:∃b,A.tb[r]?=some b:=⟨_,ag (by rw[hm.tl,ok.tl];exact hr)⟩;obtain⟨tg,nh,wR,htl,htlt,ZZ⟩:=hm.data.row r tb htb;obtain⟨nt,hnt⟩:∃n,n=m.eC.length:=⟨_,rfl⟩;have Wm:(r:Int)<(nt:Int):=by rw[hnt,ok.tl];omega
 have aim:r<nt:=by omega
 have Ib:(0:Int)≤(r:Int):=by omega
 have HW:Hid (∀W',KL wb.heap.size bo W W'→cZ w0 W' A m∧W'.cell? ⟨b1,0,none⟩=some (.p A.mb)∧W'.cell? ⟨b2,0,none⟩=some (.i r)∧W'.cell? ⟨A.mb,2,none⟩=some (.slice (some ⟨tg,nh,none⟩) nt A.tc)∧W'.cell? ⟨tg,nh+r,none⟩=some (.p tb)∧W'.cell? ⟨A.mb,4,none⟩=some (.p A.sb)):=cD (fun W' hk=>by
  have hb:=hW.trans hk.below;have hm':=hm.below hb;exact⟨hm',(hk.box l1 cL h1).cell,(hk.box l2 cL h2).cell,hm'.cells.2.2.1.trans (by rw[wR,hnt]),(hb.cell (p:=⟨tg,nh+r,none⟩) htlt).trans ZZ,hm'.cells.2.2.2.2.1⟩)
 have HN:Hid (wb.heap.size≤W.heap.size∧A.tb[r]?=some tb∧bo<W.heap.size):=cD ⟨hW.size,htb,l3⟩;have Qg:=cD (cC hJ (cC hY (cC h0 (cC ok hr))));clear hm h1 h2 l1 l2 l3 hW wR htl htlt ZZ hnt hr hJ hY h0 ok htb;have klW:∀{W'},cE W W'→KL wb.heap.size bo W W':=fun hb=>gP HN.out.1 hb
 have HPA:Hid (aT prog 111 #[.p tb] W.drew fun e w'=>∃g cap,e=.returned (.slice (some ⟨g,0,none⟩) (iu (m.dQ r)).length cap)∧(∃cs,w'.heap[g]?=some (.cells cs 9 (0,0)))∧g≠bo∧(∀i p,(iu (m.dQ r))[i]?=some p→w'.cell? ⟨g,i,none⟩=some (.s p))∧Below W.drew.heap.size W.drew w'):=cD (by
  have hd:cE W W.drew:=(ah _ W).drew;have hT:=(HW.out _ (klW hd)).1.tr r tb HN.out.2.1;refine hT.1.Zv.mono ?_;rintro e w' ⟨v,rfl,hR,hb⟩;rcases hR.2 with ⟨_,h0⟩|⟨g,cap,cur,rfl,yG,hg,_⟩
  ·rw[pF] at h0
   exact absurd (aP h0) hT.2
  rcases hR.at with ⟨h,_⟩|⟨g',cap',h,_,_,_,_,hc⟩
  ·cases h
  cases h;exact⟨g,cap,rfl,⟨_,hg⟩,fun e=>by have h1:=HN.out.2.2;have h2:=hd.size;omega,hc,hb⟩)
 have c0:∀w',cE W w'→w'.cell? ⟨b1,0,none⟩=some (.p A.mb):=fun w' hb=>(HW.out w' (klW hb)).2.1
 have c4:∀w',cE W w'→w'.cell? ⟨b2,0,none⟩=some (.i r):=fun w' hb=>(HW.out w' (klW hb)).2.2.1
 have c3:∀w',cE W w'→w'.cell? ⟨A.mb,2,none⟩=some (.slice (some ⟨tg,nh,none⟩) nt A.tc):=fun w' hb=>(HW.out w' (klW hb)).2.2.2.1
 have c6:∀w',cE W w'→w'.cell? ⟨tg,nh+r,none⟩=some (.p tb):=fun w' hb=>(HW.out w' (klW hb)).2.2.2.2.1
 obtain⟨k,hk⟩:=cF ((iu (m.dQ r)).length);rw[←hk] at HPA;have HK:=cD hk;have hS:cE W W.drew:=(ah _ W).drew;clear hk;refine callsIn_of_wp func110 rfl trivial ?_ rfl;simp only[ntmps110,bg,aM,aR,Nat.reduceAdd,Nat.reduceSub,bN,bM,bY,bU,List.nil_append,List.cons_append];gi_wp2_with fail
 refine fB (S:=fun w'=>cE W w') (c:=8) ?_;refine fI 0 rfl hS (fun w' hS'=>by have:=c0 w' hS';go_simp<;>rfl) ?_;simp only[cR];refine fJ 1 hS ?_;simp only[cR];refine fJ 2 hS ?_;simp only[cR];refine fI 3 rfl hS (fun w' hS'=>by have:=c3 w' hS';go_simp<;>rfl) ?_;simp only[cR];refine fI 4 rfl hS (fun w' hS'=>by have:=c4 w' hS';go_simp<;>rfl) ?_;simp only[cR];refine fJ 5 hS ?_;simp only[cR];refine fI 6 rfl hS (fun w' hS'=>by have:=c6 w' hS';go_simp<;>rfl) ?_;simp only[cR];refine fP 9 rfl (fun _=>hS) (fun w'=>by go_simp<;>rfl) ?_;simp only[cR];refine fK 7 rfl fun K' gv=>?_
 gi_wp2_with fail
 refine⟨trivial,(fun h=>(by cases h)),(aA.2 HPA.out).mono ?_⟩;rintro e W1 ⟨g,cap,rfl,⟨cs,hg⟩,DF,hrow,dB⟩;have xL:cE W W1:=hS.trans (dB.mono hS.size);have hJ1:J (cV.nE m r 0) W1:=Qg.out.1 _ _ _ none Qg.out.2.2.1 ⟨xL.os,xL.tape,xL.output,xL.size,fun b hb _=>xL.block b hb⟩ (fun _ e=>by cases e);have FL:=cD (cC hg (cC DF (cC hrow (klW xL))));refine gv _ _ xL ?_;clear gv hg DF hrow dB hS HPA c0 c3 c4 c6;refine fC 8 rfl fun K' gv=>?_
 gi_wp2_with fail
 refine fD ?_ cJ _;clear xL;gi_wp2_with fail
 gi_loopw [17] (fun p wr=>∃i:Nat,i≤k∧p=.i i∧KL wb.heap.size bo W1 wr∧J (cV.nE m r i) wr)
  (fun p _=>k - (intOf p).toNat)
 case atStart=>exact⟨0,by omega,rfl,gP (af HN.out.1 FL.out.2.2.2.size) (ah _ _),hJ1⟩
 obtain⟨i,hi,rfl,WC,BX⟩:=hrel;by_cases hlt:i<k
 ·obtain⟨p,hp⟩:∃x,(iu (m.dQ r))[i]?=some x:=⟨_,ag (by rw[←HK.out];exact hlt)⟩
  have Yl:=FL.out.2.2.2.trans WC;have i1:(0:Int)≤i:=by omega
  have i2:(i:Int)<k:=by omega
  have hpc:wr.cell? ⟨g,i,none⟩=some (.s p):=by
   have e1:=FL.out.2.2.1 i p hp;have e2:=FL.out.1;rw[aG _ _ i _ 9 (0,0) e2] at e1;rw[aG _ _ i _ 9 (0,0) (WC.cells g _ _ _ FL.out.2.1 cL e2)];exact e1
  have HB:=cD (cC WC (cC BX (cC Yl (cC hp hi))));clear WC BX hp hi hJ1;obtain⟨nd,hnd⟩:∃d,d=(dL p (m.dQ r)).getD iQ:=⟨_,rfl⟩;obtain⟨bx,nJ⟩:∃d,d=(dL p (m.dQ r)).isSome:=⟨_,rfl⟩;have Jn:=cD hnd;have XY:wb.heap.size≤wr.heap.size:=af HN.out.1 Yl.size;have afL:Hid (∀W',cE wr W'→aT prog 112 #[.p tb,.s p] W' fun e w'=>∃q:Raw,e=.returned (.tuple #[q.val,.bool bx])∧q.num=nd.num∧cE W' w'):=cD (fun W' hb=>by
   have hT:=((HW.out _ (HB.out.2.2.1.trans (gP XY hb))).1.tr r tb HN.out.2.1).1;have hpl:p.length≤1000:=rA (fun x hx=>by have:=((Qg.out.2.2.2.1.tree r Qg.out.2.2.2.2).node x hx).1;omega) p (aC HB.out.2.2.2.1);refine(hT.get p (by unfold maxLen;omega)).mono ?_;rintro e w' ⟨q,rfl,hq,hb',_⟩;exact⟨q,by rw[nJ],by rw[hnd];exact hq.num,hb'⟩)
  have d0:∀w',cE wr w'→w'.cell? ⟨b1,0,none⟩=some (.p A.mb):=fun w' hb=>(HW.out w' (HB.out.2.2.1.trans (gP XY hb))).2.1
  have d4:∀w',cE wr w'→w'.cell? ⟨b2,0,none⟩=some (.i r):=fun w' hb=>(HW.out w' (HB.out.2.2.1.trans (gP XY hb))).2.2.1
  have d3:∀w',cE wr w'→w'.cell? ⟨A.mb,2,none⟩=some (.slice (some ⟨tg,nh,none⟩) nt A.tc):=fun w' hb=>(HW.out w' (HB.out.2.2.1.trans (gP XY hb))).2.2.2.1
  have d6:∀w',cE wr w'→w'.cell? ⟨tg,nh+r,none⟩=some (.p tb):=fun w' hb=>(HW.out w' (HB.out.2.2.1.trans (gP XY hb))).2.2.2.2.1
  have nU:=cD nJ;have hS:cE wr wr.drew:=(ah _ wr).drew;clear hnd nJ Yl;gi_wp2_with fail
  refine fB (S:=fun w'=>cE wr w') (c:=14) ?_;refine fI 0 rfl hS (fun w' hS'=>by have:=d0 w' hS';go_simp<;>rfl) ?_;simp only[cR];refine fJ 1 hS ?_;simp only[cR];refine fJ 2 hS ?_;simp only[cR];refine fI 3 rfl hS (fun w' hS'=>by have:=d3 w' hS';go_simp<;>rfl) ?_;simp only[cR];refine fI 4 rfl hS (fun w' hS'=>by have:=d4 w' hS';go_simp<;>rfl) ?_;simp only[cR];refine fJ 5 hS ?_;simp only[cR];refine fI 6 rfl hS (fun w' hS'=>by have:=d6 w' hS';go_simp<;>rfl) ?_;simp only[cR];refine fJ 7 hS ?_;simp only[cR];have fm:Hid (cG 44 9):=cD cJ;clear hpc;refine fE 8 12 rfl rfl (fun K' gv=>?A) (fun K' gv=>?B)
  case' A=>
   gi_wp2_with fail
   refine⟨trivial,(fun h=>(by cases h)),(aA.2 (afL.out _ hS)).mono ?_⟩;rintro e W2 ⟨⟨qa,qn,qc,qm⟩,rfl,Z7,dI⟩;have Z7:qm=nd.num:=Z7;subst Z7;have oR:cE wr W2:=hS.trans (dI.mono hS.size);refine gv _ _ oR ?_;clear gv dI hS;unfold Raw.val Raw.cells eU.cells;refine fJ 9 oR ?_;simp only[cR];refine fJ 10 oR ?_;simp only[cR];refine fJ 11 oR ?_;simp only[cR];obtain⟨Yz,Fi⟩:∃x,x=W2.alloc (.cells #[.n,.U,.U,.U,.I,.U,.V,.V,.V] 44):=⟨_,rfl⟩;have ka:Yz.heap[W2.heap.size]?=some (.cells #[.n,.U,.U,.U,.I,.U,.V,.V,.V] 44 (0,0)):=by rw[Fi];exact aN W2 _
   have Pf:cE wr Yz:=by rw[Fi];exact cT oR _
   have HNB:wr.heap.size≤W2.heap.size:=oR.size;refine fK 12 rfl fun K' gv=>?_
   gi_wp2_with fail
   rw[←Fi];refine gv _ _ Pf ?_;clear gv;have yY:Hid (Yz.there W2.heap.size 0 9):=cD (ey ka 0 9 cM);obtain⟨W3,Je⟩:∃x,x=Yz.setCells W2.heap.size 0 [.slice qa qn qc,.u nd.num.gW,.u nd.num.BV,.u nd.num.next,.i nd.num.os,.u nd.num.on,.v nd.num.made,.v nd.num.CI,.v nd.num.Ch]:=⟨_,rfl⟩;have k3:W3.heap[W2.heap.size]?=some (.cells #[.slice qa qn qc,.u nd.num.gW,.u nd.num.BV,.u nd.num.next,.i nd.num.os,.u nd.num.on,.v nd.num.made,.v nd.num.CI,.v nd.num.Ch] 44 (0,0)):=by rw[Je];exact gq ka rfl
   have hnb:wr.heap.size≤W2.heap.size:=HNB;have ek:cE wr W3:=by rw[Je];exact Pf.trans ((iw Yz W2.heap.size 0 _).below Pf.size (fun b e=>by have e:b=W2.heap.size:=e;omega))
   refine fK 13 rfl fun K' gv=>?_
   refine kN 44 (.tmp 6) (.tmp 31) rfl W2.heap.size 0 #[.slice qa qn qc,.u nd.num.gW,.u nd.num.BV,.u nd.num.next,.i nd.num.os,.u nd.num.on,.v nd.num.made,.v nd.num.CI,.v nd.num.Ch] rfl rfl yY.out fm.out (by simp[aq]) ?_
   try dsimp only
   rw[←Je];refine gv _ _ ek ?_;have H3:=cD (cC k3 (cC ek hnb));clear gv Je k3 ek hnb yY
   try dsimp only
   clear ka Pf oR Fi HNB;generalize W2.heap.size=nb at H3⊢
  case' B=>
   obtain⟨Yz,Fi⟩:∃x,x=(wr.alloc (.cells #[.n,.U,.U,.U,.I,.U,.V,.V,.V] 44)).drew:=⟨_,rfl⟩;have ka':Yz.heap[wr.heap.size]?=some (.cells #[.n,.U,.U,.U,.I,.U,.V,.V,.V] 44 (0,0)):=by rw[Fi];exact aN wr _
   have Pf:cE wr Yz:=by rw[Fi];exact(cT (ah _ wr) _).drew
   have HNB:wr.heap.size≤wr.heap.size:=aW _;gi_wp2_with fail
   rw[←Fi];refine gv _ _ Pf ?_;clear gv hS Fi;refine fK 8 rfl fun K' gv=>?_
   gi_wp2_with fail
   refine⟨trivial,(fun h=>(by cases h)),(aA.2 (afL.out _ Pf)).mono ?_⟩;rintro e W2 ⟨⟨qa,qn,qc,qm⟩,rfl,Z7,dI⟩;have Z7:qm=nd.num:=Z7;subst Z7;have oR:cE wr W2:=Pf.trans (dI.mono Pf.size);have ka:W2.heap[wr.heap.size]?=some (.cells #[.n,.U,.U,.U,.I,.U,.V,.V,.V] 44 (0,0)):=(dI.block _ (aB ka')).trans ka';refine gv _ _ oR ?_;clear gv dI;unfold Raw.val Raw.cells eU.cells;refine fJ 9 oR ?_;simp only[cR];refine fJ 10 oR ?_;simp only[cR];refine fJ 11 oR ?_;simp only[cR];have yY:Hid (W2.there wr.heap.size 0 9):=cD (ey ka 0 9 cM);obtain⟨W3,Je⟩:∃x,x=W2.setCells wr.heap.size 0 [.slice qa qn qc,.u nd.num.gW,.u nd.num.BV,.u nd.num.next,.i nd.num.os,.u nd.num.on,.v nd.num.made,.v nd.num.CI,.v nd.num.Ch]:=⟨_,rfl⟩;have k3:W3.heap[wr.heap.size]?=some (.cells #[.slice qa qn qc,.u nd.num.gW,.u nd.num.BV,.u nd.num.next,.i nd.num.os,.u nd.num.on,.v nd.num.made,.v nd.num.CI,.v nd.num.Ch] 44 (0,0)):=by rw[Je];exact gq ka rfl
   have hnb:wr.heap.size≤wr.heap.size:=HNB;have ek:cE wr W3:=by rw[Je];exact oR.trans ((iw W2 wr.heap.size 0 _).below oR.size (fun b e=>by have e:b=wr.heap.size:=e;omega))
   refine fK 13 rfl fun K' gv=>?_
   refine kN 44 (.tmp 6) (.tmp 31) rfl wr.heap.size 0 #[.slice qa qn qc,.u nd.num.gW,.u nd.num.BV,.u nd.num.next,.i nd.num.os,.u nd.num.on,.v nd.num.made,.v nd.num.CI,.v nd.num.Ch] rfl rfl yY.out fm.out (by simp[aq]) ?_
   try dsimp only
   rw[←Je];refine gv _ _ ek ?_;have H3:=cD (cC k3 (cC ek hnb));clear gv Je k3 ek hnb yY
   try dsimp only
   clear ka ka' Pf oR HNB;obtain⟨nb,hnb⟩:∃x,x=wr.heap.size:=⟨_,rfl⟩;rw[←hnb];have H3:Hid (W3.heap[nb]?=_∧cE wr W3∧wr.heap.size≤nb):=cD (by rw[hnb];exact H3.out);clear hnb
  all_goals
   refine fC 14 rfl fun K' gv=>?_
   gi_wp2_with fail
   refine fD ?_ cJ _;clear d0 d3 d4 d6;obtain⟨hit,Ky⟩:∃b,b=cV.Dp m r p:=⟨_,rfl⟩;have hnn:wb.heap.size≤W3.heap.size:=af XY H3.out.2.1.size;have Jg:KL wb.heap.size bo W W3:=HB.out.2.2.1.trans (gP XY H3.out.2.1);have YS:Hid (∀W',cE W3 W'→aT prog 113 #[.p A.sb,.agg #[.i nd.num.os,.u nd.num.on]] W' fun e w'=>e=.returned (.bool hit)∧cE W' w'):=cD (fun W' hb=>by
    have hs:=(HW.out _ (Jg.trans (gP hnn hb))).1.xk;have oQ:=(Qg.out.2.2.2.1.tree r Qg.out.2.2.2.2).nd p;rw[←Jn.out] at oQ;refine(Bf A.sb A.gb m.dy m.last m.gone nd.num.os nd.num.on W' hs ⟨by have:=oQ.os;omega,by have:=oQ.os;omega⟩ oQ.num.on).mono ?_;rintro e w' ⟨e1,hk⟩;refine⟨?_,hk.below (aW _) (fun _ e=>e.elim)⟩;rw[e1,Ky];unfold cV.Dp;rw[←Jn.out])
   have f0:∀w',cE W3 w'→w'.cell? ⟨b1,0,none⟩=some (.p A.mb):=fun w' hb=>(HW.out w' (Jg.trans (gP hnn hb))).2.1
   have f3:∀w',cE W3 w'→w'.cell? ⟨A.mb,4,none⟩=some (.p A.sb):=fun w' hb=>(HW.out w' (Jg.trans (gP hnn hb))).2.2.2.2.2
   have f5:∀w',cE W3 w'→w'.rangeAt nb 4 [.i nd.num.os,.u nd.num.on]:=fun w' hb=>by
    have kb:=(hb.block _ (aB H3.out.1)).trans H3.out.1;intro j u hu;have hj:=(aa.1 hu).1;simp only[aM,aR] at hj;rw[aG _ _ _ _ 44 (0,0) kb];rcases(show j=0∨j=1 by omega) with rfl|rfl<;>exact hu
   have za:Hid (cG 31 2):=cD cJ;have hS:cE W3 W3.drew:=(ah _ W3).drew;have LU:=cD Ky;have uz:=cD (cC Jg hnn);have Pj:∀W',cE W3 W'→J (cV.nE m r i) W':=fun W' hb=>by
    have hb':cE wr W':=H3.out.2.1.trans (hb.mono H3.out.2.1.size);have hsz:W.heap.size≤wr.heap.size:=HB.out.2.2.1.size;exact Qg.out.1 _ _ _ none HB.out.2.1 ⟨hb'.os,hb'.tape,hb'.output,hb'.size,fun b hb _=>hb'.block b hb⟩ (fun _ e=>by cases e)
   have HJ3:=cD Pj;clear Jg Pj Ky hnn XY;have aoT:k≤48:=by
    rw[HK.out,pF];exact(Qg.out.2.2.2.1.tree r Qg.out.2.2.2.2).len
   cases hit with
   |false=>
    gi_wp2_with fail
    refine fB (S:=fun w'=>cE W3 w') (c:=12) ?_;refine fI 0 rfl hS (fun w' hS'=>by have:=f0 w' hS';go_simp<;>rfl) ?_;simp only[cR];refine fJ 1 hS ?_;simp only[cR];refine fJ 2 hS ?_;simp only[cR];refine fI 3 rfl hS (fun w' hS'=>by have:=f3 w' hS';go_simp<;>rfl) ?_;simp only[cR];refine fJ 4 hS ?_;simp only[cR];refine fI 5 rfl hS (fun w' hS'=>pE 31 (.tmp 37) rfl nb 4 rfl _ _ (f5 w' hS') underlying31 rfl za.out) ?_;simp only[cR];refine fK 6 rfl fun K' gv=>?_
    gi_wp2_with fail
    refine⟨trivial,(fun h=>(by cases h)),(aA.2 (YS.out _ hS)).mono ?_⟩;rintro e W4 ⟨rfl,hb4⟩;have eV:cE W3 W4:=hS.trans (hb4.mono hS.size);refine gv _ _ eV ?_;clear gv hb4;refine fJ 7 eV ?_;simp only[cR];refine fN 8 rfl eV ?_;simp only[cR];refine fN 9 rfl eV ?_;simp only[cR];refine fM 10 rfl eV ?_;simp only[cR];refine fN 11 rfl eV ?_;simp only[cR];refine fC 12 rfl fun K' gv=>?_
    gi_wp2_with fail
    refine fD ?_ cJ _;have FK:=cD eV;clear f0 f3 f5 hS eV;gi_wp2
    obtain⟨WC,BX,Yl,hp,hi⟩:=HB.out;exact⟨⟨i+1,by omega,by go_num,WC.trans ((gP (af HN.out.1 Yl.size) H3.out.2.1).trans (gP uz.out.2 FK.out)),by rw[cV.Kf hp LU.out.symm];exact HJ3.out W4 FK.out⟩,by simp[intOf];omega⟩
   |true=>
   gi_wp2_with fail
   refine fB (S:=fun w'=>cE W3 w') (c:=10) ?_;refine fI 0 rfl hS (fun w' hS'=>by have:=f0 w' hS';go_simp<;>rfl) ?_;simp only[cR];refine fJ 1 hS ?_;simp only[cR];refine fJ 2 hS ?_;simp only[cR];refine fI 3 rfl hS (fun w' hS'=>by have:=f3 w' hS';go_simp<;>rfl) ?_;simp only[cR];refine fJ 4 hS ?_;simp only[cR];refine fI 5 rfl hS (fun w' hS'=>pE 31 (.tmp 37) rfl nb 4 rfl _ _ (f5 w' hS') underlying31 rfl za.out) ?_;simp only[cR];refine fK 6 rfl fun K' gv=>?_
   gi_wp2_with fail
   refine⟨trivial,(fun h=>(by cases h)),(aA.2 (YS.out _ hS)).mono ?_⟩;rintro e W4 ⟨rfl,hb4⟩;have eV:cE W3 W4:=hS.trans (hb4.mono hS.size);have FK:=cD eV;refine gv _ _ eV ?_;clear gv hb4;refine fJ 7 eV ?_;simp only[cR];refine fJ 8 eV ?_;simp only[cR];refine fJ 9 eV ?_;simp only[cR];have hlen:=cV.OO m r i;obtain⟨fn,tmps,assign,body,hy,hR⟩:=Qg.out.2.1 _ p W4 (HJ3.out W4 eV) cK;clear f0 f3 f5 hS eV;refine fC 10 rfl fun K' gv=>?_
   gi_wp2_with fail
   refine⟨(fun h=>(by cases h)),?_⟩;refine hR.mono ?_;rintro e W5 (⟨rfl,hJ5,hk5⟩|⟨rfl,ajl⟩)
   ·refine gv _ _ ?_
    clear gv hy hR
    try simp only[bP,au,aI,aJ]
    refine fC 11 rfl fun K' gv=>?_
    gi_wp2_with fail
    refine fC 12 rfl fun K' gv=>?_
    gi_wp2_with fail
    refine fD ?_ cJ _;gi_wp2
    obtain⟨WC,BX,Yl,hp,hi⟩:=HB.out;exact⟨⟨i+1,by omega,by go_num,WC.trans ((gP (af HN.out.1 Yl.size) H3.out.2.1).trans ((gP uz.out.2 FK.out).trans hk5)),by rw[cV.Dn hp LU.out.symm];exact hJ5⟩,by simp[intOf];omega⟩
   refine gv _ _ ?_;clear gv hy hR
   try simp only[bP,au,aI,aJ]
   refine fC 11 rfl fun K' gv=>?_
   gi_wp2_with fail
   refine fC 12 rfl fun K' gv=>?_
   gi_wp2_with fail
   refine fD ?_ cJ _;gi_wp2
   refine bodyPost_ret (results_none rfl _ _ _) rfl ?_;obtain⟨WC,BX,Yl,hp,hi⟩:=HB.out;have hr':=cV.ON m r (i+1);rw[cV.Dn hp LU.out.symm] at hr';exact⟨⟨_,rfl⟩,.inr ⟨_,hr',ajl⟩⟩
 have hc2:decide ((i:Int)<(k:Int))=false:=by simp;omega
 gi_wp2
 go_end0
 obtain rfl:i=k:=by omega
 exact⟨⟨_,rfl⟩,.inl ⟨_,(by rw[HK.out];exact(cV.OP m r).symm▸rfl),BX⟩⟩
end
attribute [local go_sem] Oper.semAt_some
theorem Sj:(prog.info? 35).map (fun i=>(i.zero,i.size,i.bytes))=some (some (.agg #[.B,.z,.n,.I,.F,.F,.n]),7,88):=by kernel_rfl
def Dg(v:aE):Array aE:=#[.b 7,.z,.n,.I,.F,.F,v]
def oy(p:cO):List aE:=[.b 2,.s p,.n,.i (-1),.F,.F,.n]
theorem Df(p:cO):(oy p).length=7:=rfl
def Nh(wb:an)(pre:List cO)(W:an):Prop:=
 ∃v,W.heap[wb.heap.size]?=some (.cells (Dg v) 35 (0,0))∧W.ownsRow (wb.heap.size+3) 35 7 v pre.length (pre.flatMap oy)∧cE wb W
theorem C8(wb:an)(B:Nat)(hB:wb.heap.size≤B):OwnFrom B (Nh wb):=by
 rintro s X Y row ⟨v,hv,hr,hb⟩ hg hrow;have hk:=gz hg;have hne:∀b,rW X b→¬row=some b:=fun b ⟨cs,t,fr,hc⟩ e=>by
  obtain⟨_,o,ho,hno⟩:=hrow b e;rw[hc] at ho;cases ho;cases hno
 refine⟨v,hk.same hv (hne _ ⟨_,_,_,hv⟩),fA hr hk (fun g hg' e=>?_),hb.grown hg hb.size (fun g e=>af hB (hrow g e).1)⟩;obtain⟨cur,DF⟩:=vz hr hg';exact hne _ ⟨_,_,_,DF⟩ e
theorem DO:∀(ys:List cO) (k j:Nat) (p:cO) (u:aE),ys[k]?=some p→(oy p)[j]?=some u→(ys.flatMap oy)[k*7+j]?=some u
 |[],k,j,p,u,h,_=>by simp at h
 |y::ys,0,j,p,u,h,hu=>by
  simp at h;subst h;rw[bZ,Nat.zero_mul,aD,List.getElem?_append_left (by have:=(aa.1 hu).1;exact this)];exact hu
 |y::ys,k+1,j,p,u,h,hu=>by
  rw[bZ,List.getElem?_append_right (by rw[Df];omega),Df,show(k+1)*7+j - 7=k*7+j by omega];exact DO ys k j p u (by simpa using h) hu
theorem Dd{w:an}{base:Nat}{va:Option Addr}{vc:Nat}{ys:List cO}(h:w.ownsRow base 35 7 (.slice va ys.length vc) ys.length (ys.flatMap oy)){k:Nat}{p:cO}(hk:ys[k]?=some p):
  ∃g,va=some ⟨g,0,none⟩∧g<w.heap.size∧w.rangeAt g (0+k*7) (di.cells ⟨2,p,none,0,0,-1,false,false,none,0,0⟩):=by
 have hl:=(aa.1 hk).1;rcases h.2 with ⟨e1,e2⟩|⟨g,cap,cur,e1,_⟩
 ·omega
 cases e1;refine⟨g,rfl,(h.lt g rfl).2,fun j u hu=>?_⟩;have:=h.cells (g:=g) rfl (k*7+j) u (DO ys k j p u hk hu);rw[Addr.add_lit,aD] at this;rw[aD];exact this
theorem Vp{F:Nat→Prop}{w:an}{base:Nat}{va:Option Addr}{vc:Nat}{ys:List cO}(h:w.ownsRow base 35 7 (.slice va ys.length vc) ys.length (ys.flatMap oy))(h0:0<ys.length)(h6:ys.length≤6)(hp:∀p∈ys,p.length≤64):
  zE F w ⟨7,[],none,0,0,0,false,false,va,ys.length,vc⟩ ⟨⟨7,[],[],0,false,false⟩,ys.map fun p=>⟨2,p,[],-1,false,false⟩⟩ 0:=by
 have hnb:∀(w:an) (lo:Nat→Prop) hi a,eP w lo hi a []:=fun w lo hi a j c hj=>by simp at hj
 refine⟨⟨rfl,rfl,rfl,rfl,rfl,rfl,hnb _ _ _ _,fun _=>⟨rfl,rfl⟩⟩,fun w' hb=>?_,fun _=>.inr ⟨rfl,by simp,by simpa using h6,fun k p hk=>?_⟩⟩
 ·have hat:BN w 2 va (ys.map fun _=>⟨2,0,0⟩):=fun k i hk=>by
   simp only[aU,aK] at hk;obtain⟨p,hk,rfl⟩:=hk;obtain⟨g,e1,e2,e3⟩:=Dd h hk;exact⟨g,0,_,[],e1,e2,e3,rfl,rfl,bS _,fun k i hk=>by simp at hk⟩
  have:=xR 2 w' ⟨7,[],none,0,0,0,false,false,va,ys.length,vc⟩ (ys.map fun _=>⟨2,0,0⟩) cM (hat.below hb) (bS _);have e0:gF 7 0 (ys.map fun _=>⟨2,0,0⟩)=0:=by
   unfold gF;have d1:decide ((7:Int)=7)=true:=by decide
   have d2:decide (0<(ys.map fun _=>(⟨2,0,0⟩:fG)).length)=true:=by simpa using h0
   rw[if_neg (by rw[d1,d2,aS];simp;omega),if_neg (by simp[fG.bad]),if_neg (by simp[fG.long])]
  have this:aT prog 29 #[di.val ⟨7,[],none,0,0,0,false,false,va,ys.length,vc⟩] w' (oF w' (gF 7 0 (ys.map fun _=>⟨2,0,0⟩))):=this
  rwa [e0] at this
 simp only[aU,aK] at hk;obtain⟨p,hk,rfl⟩:=hk;obtain⟨g,e1,e2,e3⟩:=Dd h hk;refine⟨g,0,_,e1,e2,e3,⟨rfl,rfl,rfl,rfl,rfl,rfl,hnb _ _ _ _,fun _=>⟨rfl,rfl⟩⟩,(by decide:(1:Int)≤2),(by decide:(2:Int)≤6),?_,by simp⟩;have:=hp p (aC hk);show p.length≤900;omega
theorem yt{w:an}{base g n cap:Nat}{t:TypeId}{xs zs cs:List aE}{size:Nat}(h:w.ownsRow base t size (.slice (some ⟨g,0,none⟩) (n+1) cap) (n+1) (xs++zs))(hx:xs.length=n*size)(hz:zs.length=size)(hc:cs.length=size):
  (w.setCells g (n*size) cs).ownsRow base t size (.slice (some ⟨g,0,none⟩) (n+1) cap) (n+1) (xs++cs)∧w.there g (n*size) size:=by
 rcases h.2 with ⟨h1,_⟩|⟨g',cap',cur,h1,hb,hg,hnc,hcm,hcs,O3⟩
 ·cases h1
 cases h1;have hmul:(n+1)*size=n*size+size:=by rw[Nat.add_mul,Nat.one_mul]
 have hle:n*size+size≤cur.toList.length:=by
  rw[aZ,hcs,←hmul];exact Nat.mul_le_mul_right size hnc
 refine⟨⟨by rw[ay,hx,hc,hmul],.inr ⟨g,cap,(cur.toList.take (n*size)++cs++cur.toList.drop (n*size+cs.length)).toArray,rfl,hb,?_,hnc,hcm,?_,?_⟩⟩,ey hg _ _ (by rw[←aZ];exact hle)⟩
 ·refine pO cs (n*size) w cur.toList (by simpa using hg) (by rw[hc];exact hle)
 ·rw[bg,ay,ay,bq,List.length_drop,hc,←hcs,←aZ]
  omega
 have hxs:cur.toList.take (n*size)=xs:=by
  have h2:=congrArg (List.take (n*size)) O3;rw[List.take_take,hmul,Nat.min_eq_left cK,bz hx] at h2;exact h2
 rw[hxs,bT,cj,hmul,←hx,←hc,←cj];exact bz (by rw[ay])
section
variable{F:Fence}{n:Nat}{P:Program}{l:List Oper}{Q:Exit→Act→World→Prop}{md:Region.Mode}{S:World→Prop}{c:Nat}
theorem fF(i j:Nat){oi oj:Oper}{r r':List Oper}{fuel:Nat}{listed:Array Bool}{a:Act}{w:an}(hi:l.drop i=oi::r)(hj:l.drop j=oj::r')
  (h1:∀K':Act→an→Prop,(∀a w,eY F n P md l.toArray Q S c fuel (listed.setIfInBounds i true) a w→K' a w)→bK F n P oi a w K' Q)
  (h2:∀K':Act→an→Prop,(∀a w,eY F n P md l.toArray Q S c fuel (listed.setIfInBounds j true) a w→K' a w)→bK F n P oj a w K' Q)
  (hr:bH md l.toArray listed=[i,j]:=by kernel_rfl) (hwi:bB oi (yielded l.toArray a.tmps)=true:=by kernel_rfl) (hwj:bB oj (yielded l.toArray a.tmps)=true:=by kernel_rfl)
  (KC:(listed.setIfInBounds i true).getD c true=true:=by kernel_rfl) (hcj:(listed.setIfInBounds j true).getD c true=true:=by kernel_rfl):eY F n P md l.toArray Q S c (fuel+1) listed a w:=by
 refine⟨fun h0=>absurd (hr▸h0) cM,fun k hk=>?_⟩;rw[hr] at hk;have hk:k=i∨k=j:=by simpa using hk
 rcases hk with rfl|rfl
 ·unfold wpOpIn
  rw[gh hi];dsimp only;rw[if_pos hwi];exact h1 _ fun _ _ h2=>⟨fun e=>(by rw[KC] at e;cases e),h2⟩
 unfold wpOpIn;rw[gh hj];dsimp only;rw[if_pos hwj];exact h2 _ fun _ _ h2=>⟨fun e=>(by rw[hcj] at e;cases e),h2⟩
end
theorem cZ.afa{w0 w w':an}{A:MA}{m:cV}(h:cZ w0 w A m)(hb:cE w w'){D:Nat}(hD:w.heap.size≤D)(hlt:D<w'.heap.size):cZ w0 w' {A with X:=fun b=>A.X b∨b=D} m:=by
 have h':=h.below hb;have hl:∀b,b<w.heap.size→A.lo b→({A with X:=fun b=>A.X b∨b=D}:MA).lo b:=fun b hb hlo=>⟨hlo.1,fun e=>by
  rcases e with e|e
  ·exact hlo.2 e
  omega⟩
 have hd:=h.data.mono hl;have uD:=nV.iN hd (dA (S:=fun _=>False) hb) (lZ hb) (fun _ _ _ e=>e);have ht:=(h.tok.more hl).below hb;exact⟨h'.blk,⟨uD.dP,uD.row,uD.v,uD.eu⟩,h'.tl,h'.tr,h'.nd,ht,h'.xk,h'.own,h'.oq,h'.cl,h'.kd,h'.lo,fun b e=>by
  rcases e with e|e
  ·exact h'.xz b e
  exact⟨fun z=>by have:=h.ze z;omega,by have:=h.bl.size;omega,by omega⟩,h'.pow,h'.mx,h'.bl,⟨h'.mG.lt,h'.mG.tr,h'.mG.eu⟩⟩
theorem xE(W:an)(D:Nat)(o:Obj):cQ (·=D) W (W.putObj D o):=⟨rfl,rfl,rfl,by simp[aY],fun b _ hnb=>aH (fun e=>hnb e)⟩
theorem cZ.ahD{w0 w:an}{A:MA}{m:cV}(h:cZ w0 w A m){D:Nat}(hX:A.X D){x:Option (List Deferred)}(hK:w.heap[D]?=some (.deferred x))(o:Obj):cZ w0 (w.putObj D o) A m:=by
 have hne:∀b k n,w.cell? ⟨b,k,none⟩=some (.b n)→b≠D:=fun b k n e e1=>by
  subst e1;simp[World.cell?,hK] at e
 refine h.vV (xE w D o) (fun b k n e=>((xE w D o).cell (p:=⟨b,k,none⟩) (World.block_lt_of_cell? _ _ e) (hne b k n e)).trans e) (fun b e=>?_);have e:b=D:=e;subst e;refine⟨hX,fun mm _ h2=>?_⟩;obtain⟨es,c,e,_⟩:=h2;rw[hK] at e;cases e
section
variable{B:Nat}{w0 w:World}{A:MA}{m:cV}{N db:Nat}{y:fV}{E:List Value}
theorem OQ(w:an)(a:Option Addr)(r:Int):
  aT prog 50 #[.pointer a,.i r] w fun e w'=>e=.returned (.func (.func 110) #[] #[.p w.heap.size,.p (w.heap.size+1)])∧w'=(w.alloc (.cells #[.pointer a] 24)).alloc (.cells #[.i r] 3):=by
 go_enter func50,ntmps50
 go_wp2
 go_ret
 exact⟨rfl,rfl⟩
theorem JI(h:BT B w0 w A m N db y E)(hN:N≤80000):aT prog 175 #[.p A.mb,.p db] w (iC B w0 w A db E (m.tU y.dO)):=by
 obtain⟨o,L,i,Ei,fa,fc,hE,hD⟩:=h.cells;have Jh:w.cell? ⟨db,20,none⟩=some (.i y.dO):=(h.Bz.tE 20 cL).trans (by rw[hE];rfl);obtain⟨nt,hnt⟩:∃n,n=m.eC.length:=⟨_,rfl⟩;have c2:w.cell? ⟨A.mb,2,none⟩=some (.slice A.ta nt A.tc):=h.gu.cells.2.2.1.trans (by rw[hnt]);have htl:=h.ok.tl;have HH:=cD (cC h (cC hN hnt));by_cases ho:cV.out y.dO m.dP.length
 ·have e1:m.tU y.dO=(m,oI 60):=by unfold cV.tU;rw[if_pos ho]
  rw[e1];have zz:=cD (gM (B:=B) (w:=w) h.gu h.Bz 60 (cQ.refl _ w));rcases Int.lt_or_le y.dO 0 with h1|h1
  ·have t17:decide (y.dO<0)=true:=by simpa using h1
   clear h hE hD hN htl ho e1 HH hnt h1;go_enter func175,ntmps175
   go_wp2_with fail
   go_ret
   exact zz.out
  have t17:decide (y.dO<0)=false:=by simp;omega
  have t25:decide ((nt:Int)≤y.dO)=true:=by
   unfold cV.out at ho;simp;omega
  clear h hE hD hN htl ho e1 HH hnt h1;go_enter func175,ntmps175
  go_wp2_with fail
  go_ret
  exact zz.out
 obtain⟨r,hr⟩:∃r:Nat,y.dO=(r:Int):=⟨y.dO.toNat,by unfold cV.out at ho;omega⟩;have hrl:r<m.dP.length:=by unfold cV.out at ho;omega
 have Wm:r<nt:=by rw[hnt,htl];exact hrl
 have t17:decide ((r:Int)<0)=false:=by simp
 have t25:¬(nt≤r):=by omega
 rw[hr] at Jh⊢;have HR:=cD (cC ho (cC hr (cC hrl Wm)));clear h hE hD hN htl ho hnt hr hrl Wm;refine(aA (n:=2)).1 ?_;refine callsIn_of_wp_marks func175 rfl trivial ?_ rfl;simp only[ntmps175,bg,aM,aR,Nat.reduceAdd,Nat.reduceSub,bN,bM,bY,bU,List.nil_append,List.cons_append];gi_wp2_with fail
 refine⟨trivial,?_⟩;refine(aA.2 (OQ _ _ _)).mono ?_;rintro e w' ⟨rfl,rfl⟩;gi_wp2
 obtain⟨W0,Bb⟩:∃W0,(((w.alloc (.cells #[.b 7,.z,.n,.I,.F,.F,.n] 35)).alloc (.cells #[.p A.mb] 24)).alloc (.cells #[.i r] 3))=W0:=⟨_,rfl⟩;have q1:W0.heap[w.heap.size]?=some (.cells (Dg (.n)) 35 (0,0)):=by
  rw[←Bb];exact(heap_alloc_old _ _ (by simp;omega)).trans ((heap_alloc_old _ _ cM).trans (aN w _))
 have q2:=(Boxed.new (w.alloc (.cells #[.b 7,.z,.n,.I,.F,.F,.n] 35)) 24 (.p A.mb)).alloc (.cells #[.i r] 3);have q3:=Boxed.new ((w.alloc (.cells #[.b 7,.z,.n,.I,.F,.F,.n] 35)).alloc (.cells #[.p A.mb] 24)) 3 (.i r);rw[bh] at q2;rw[bh,bh] at q3;rw[Bb] at q2 q3⊢;have hs0:W0.heap.size=w.heap.size+3:=by rw[←Bb];simp
 have BZ:cE w W0:=by rw[←Bb];exact cT (cT (cT (ah _ w) _) _) _
 have nU:=cD (cC q1 (cC q2 (cC q3 (cC hs0 BZ))));clear Bb q1 q2 q3 hs0 BZ Jh c2 t17 t25;refine wpIn_rangeFunc_ownH (α:=cO) rfl cK (gf:=110) (lb:=#[.p (w.heap.size+1),.p (w.heap.size+1+1)]) rfl trivial (aV func110 cJ rfl)
  (encs:=fun p=>#[.s p]) (Kp:=KL w.heap.size w.heap.size) (S:=fun ys=>ys=m.left r) (Sp:=fun pre=>pre <+: m.left r) (N:=48) (w0:=W0) ?seq
  (fun h k=>h.trans k) ?kb (ah _ _) (fun _=>rfl)
  (fun pre W=>Nh w pre W∧pre.length<6∧w.heap.size+3≤W.heap.size) (fun c pre W=>c=.exit 0∧Nh w pre W∧pre.length=6)
  (fun s A B row hs hg hr=>⟨C8 w _ (by have:=nU.out.2.2.2.1;omega) _ A B row hs.1 hg hr,hs.2.1,af hs.2.2 hg.size⟩)
  (fun c s A B row hs hg hr=>⟨hs.1,C8 w _ (by have:=nU.out.2.2.2.1;omega) _ A B row hs.2.1 hg hr,hs.2.2⟩)
  ⟨⟨_,nU.out.1,World.ownsRow_nil _ _ _ _,nU.out.2.2.2.2⟩,by simp,by have:=nU.out.2.2.2.1;omega⟩
  (fun x a' W=>a'={tmps:=#[.p A.mb,.p db,aj,aj,.I,.i r,.p w.heap.size,.s x,aj,aj,aj,.p db,.p db,.p db,.pointer (some ⟨db,20,none⟩),.i r,.i r,.F,.F,.i r,.p A.mb,.p A.mb,.pointer (some ⟨A.mb,2,none⟩),.slice A.ta nt A.tc,.i nt,.F,.F,.agg #[.b 7,.z,.n,.I,.F,.F,.n],.p A.mb,.i r,.func (.func 110) #[] #[.p (w.heap.size+1),.p (w.heap.size+1+1)],.s x,aj,aj,aj,aj,aj,aj,aj,aj,aj,aj,aj,aj,aj,aj,aj,aj,aj,aj,aj,aj,aj,aj,aj,aj,aj,aj,aj,aj,aj,aj,aj,aj,aj,aj,aj,aj,aj,aj,aj],defers:=[]})
  (fun x a' s A B row hs hg hr=>hs) ?assign ?body ?done ?stop
 case seq=>
  intro l J Jx W hW hJ hJx hY hJ0;obtain⟨q1,q2,q3,hs0,BZ⟩:=nU.out;have hB:=BZ.trans (hW.mono BZ.size);have hws:=hW.size;exact OR HH.out.1.gu HH.out.1.ok 1 l (w.heap.size+1) (w.heap.size+1+1) w.heap.size r HR.out.2.2.1 J Jx hY W hJ hB ((hW.block _ cK).trans q2) ((hW.block _ cK).trans q3) cK cK cK hJ0
 case kb=>
  intro W l o o' hl ho hc hw;have hs0:=nU.out.2.2.2.1;refine⟨⟨rfl,rfl,rfl,by simp[aY],fun b hb=>aH cK⟩,by simp[aY],fun b cs t fr _ _ e=>(aH (fun e1=>?_)).trans e⟩;subst e1;rw[e] at ho;cases ho;cases hc
 case assign=>
  rintro l pre x W K ⟨hI,Qs,Ia⟩ hK;have UT:=cD (hK _ _ (qA (ah _ W)) (gP cK (ah _ W)) ⟨hI,Qs,Ia⟩ rfl);clear hK hI;gi_wp2_with fail
  exact UT.out
 case body=>
  rintro l pre x a' W hl hloop ⟨⟨v,hv,hr,hb⟩,Qs,Ia⟩ rfl hlt;have hown:=hr;obtain⟨va,vc,rfl⟩:∃a c,v=.slice a pre.length c:=by
   rcases hr.2 with ⟨e1,e2⟩|⟨g,cap,cur,e1,_⟩
   ·exact⟨none,0,by rw[e1,e2]⟩
   exact⟨_,_,e1⟩
  have y1:∀w',cE W w'→w'.cell? ⟨w.heap.size,6,none⟩=some (.slice va pre.length vc):=fun w' h=>aG _ _ 6 _ 35 (0,0) ((h.block _ (aB hv)).trans hv)
  have hxl:(pre.flatMap oy).length=pre.length*7:=hr.1;have hS:cE W W.drew:=(ah _ W).drew;obtain⟨wa,vO⟩:=cF ((W.alloc (.cells #[.B,.z,.n,.I,.F,.F,.n] 35)).drew);have ka:wa.heap[W.heap.size]?=some (.cells #[.B,.z,.n,.I,.F,.F,.n] 35 (0,0)):=by rw[vO];exact aN W _
  have hba:cE W wa:=by rw[vO];exact(cT (ah _ W) _).drew
  have Kw:wa.ownsRow (w.heap.size+3) 35 7 (.slice va pre.length vc) pre.length (pre.flatMap oy):=lE hr hba;have hca:∀j u,([.B,.z,.n,.I,.F,.F,.n]:List aE)[j]?=some u→wa.cell? ((⟨W.heap.size,0,none⟩:Addr).add j)=some u:=fun j u hu=>by
   rw[Addr.add_lit,aD,aG _ _ j _ 35 (0,0) ka];simpa using hu
  obtain⟨i0,wS,hz0,hz1,hz2⟩:=info_parts Sj;obtain⟨v',w6,UJ,hown',hgrow,zu⟩:=gC (P:=prog) (w:=wa) (w.heap.size+3) 33 33 35 i0 (.agg #[.B,.z,.n,.I,.F,.F,.n]) 7 88 underlying33 wS hz0 hz1 hz2 rfl cL (.slice va pre.length vc) _ _ Kw ⟨W.heap.size,0,none⟩ 1 1 _ rfl hca (by intro u hu;simp only[List.mem_cons,List.not_mem_nil,or_false] at hu;rcases hu with rfl|rfl|rfl|rfl|rfl|rfl|rfl<;>rfl) (by unfold maxLen;omega) cK (by have:=hba.size;omega);obtain⟨g',cap',rfl⟩:=ownsRow_succ hown';obtain⟨E8,sA⟩:=yt (cs:=oy x) hown' hxl rfl rfl;obtain⟨w7,pI⟩:∃a,a=w6.setCells g' (pre.length*7) [.b 2,.s x,.n,.i (-1),.F,.F,.n]:=⟨_,rfl⟩;rw[show oy x=[.b 2,.s x,.n,.i (-1),.F,.F,.n] from rfl,←pI] at E8;have hg':w.heap.size+3≤g':=(hown'.lt g' rfl).1;have XK:∀b,(aO va pre.length vc).ownBlock=some b→w.heap.size+3≤b:=fun b e=>(hr.lt b e).1
  have MX:cQ (fun b=>(aO va pre.length vc).ownBlock=some b∨W.heap.size≤b) W w7:=by
   rw[pI];refine((dA hba).trans ((gz hgrow).mono (fun b _ e=>.inl e))).trans ((iw w6 g' _ _).mono (fun b _ e=>?_));have e:b=g':=e;subst e;rcases zu b rfl with h|h
   ·exact .inl h
   exact .inr (af hba.size h)
  have Wz:=aB hv;have k6:w6.heap[w.heap.size]?=some (.cells (Dg (.slice va pre.length vc)) 35 (0,0)):=((gz hgrow).same ((hba.block _ Wz).trans hv) (fun e=>by have:=XK _ e;omega));have k7:w7.heap[w.heap.size]?=some (.cells (Dg (.slice va pre.length vc)) 35 (0,0)):=MX.same hv (fun e=>by
   rcases e with e|e
   ·have:=XK _ e;omega
   omega)
  have c7:w7.cell? ⟨w.heap.size,6,none⟩=some (.slice va pre.length vc):=aG _ _ 6 _ 35 (0,0) k7;have f7:w7.frozen? ⟨w.heap.size,6,none⟩=false:=by simp[bF,k7]
  have FIN:∀w8,w8.heap[w.heap.size]?=some (.cells (Dg (.slice (some ⟨g',0,none⟩) (pre.length+1) cap')) 35 (0,0))→w8.ownsRow (w.heap.size+3) 35 7 (.slice (some ⟨g',0,none⟩) (pre.length+1) cap') (pre.length+1) (pre.flatMap oy++[.b 2,.s x,.n,.i (-1),.F,.F,.n])→
    cQ (fun b=>b=w.heap.size∨(aO va pre.length vc).ownBlock=some b∨W.heap.size≤b) W w8→KeepsFrom W0.heap.size W w8∧KL w.heap.size w.heap.size W w8∧Nh w (pre++[x]) w8∧w8.cell? ⟨w.heap.size,6,none⟩=some (.slice (some ⟨g',0,none⟩) (pre.length+1) cap'):=by
   intro w8 k8 ho8 O6;have Pc:Below w.heap.size W w8:=O6.below (Nat.le_of_lt Wz) (fun b e=>by
    rcases e with e|e|e
    ·omega
    ·have:=XK b e;omega
    ·omega)
   refine⟨⟨O6.size,fun b o _ ho hno=>O6.same ho (fun e=>?_)⟩,⟨Pc,O6.size,fun b cs t fr h1 h2 e=>O6.same e (fun e'=>?_)⟩,⟨_,k8,?_,hb.trans Pc⟩,aG _ _ 6 _ 35 (0,0) k8⟩
   ·rcases e with rfl|e|e
    ·rw[hv] at ho;cases ho;cases hno
    ·obtain⟨cur,SJ⟩:=vz hr e
     rw[SJ] at ho;cases ho;cases hno
    ·have:=(bA.1 ho).1
     omega
   ·rcases e' with e'|e'|e'
    ·exact h1 e'
    ·obtain⟨cur,SJ⟩:=vz hr e'
     rw[SJ] at e;cases e;exact h2 rfl
    ·have:=aB e
     omega
   ·rw[List.flatMap_append,ay]
    simpa [oy] using ho8
  have hne:g'≠w.heap.size:=by omega
  have hgS:∀b,b=g'→((aO va pre.length vc).ownBlock=some b∨W.heap.size≤b):=fun b e=>by
   subst e;rcases zu b rfl with h|h
   ·exact .inl h
   exact .inr (af hba.size h)
  have hK6:cQ (fun b=>(aO va pre.length vc).ownBlock=some b∨W.heap.size≤b) W w6:=(dA hba).trans ((gz hgrow).mono (fun b _ e=>.inl e));obtain⟨w8,uC⟩:∃a,a=w7.setCell ⟨w.heap.size,6,none⟩ (.slice (some ⟨g',0,none⟩) (pre.length+1) cap'):=⟨_,rfl⟩;have hA:=FIN w8 (by rw[uC,heap_setCell_same w7 w.heap.size 6 _ 35 _ k7];rfl) (by
   have aiD:cQ (·=w.heap.size) w7 w8:=by rw[uC];exact(cQ.refl (·=w.heap.size) w7).setCell (p:=⟨w.heap.size,6,none⟩) rfl _
   exact fA E8 aiD (fun g e1 e2=>by cases e1;exact hne e2)) (by
   rw[uC];exact((MX.mono (fun b _ e=>.inr e)).setCell (p:=⟨w.heap.size,6,none⟩) (.inl rfl) _))
  have c6:w6.cell? ⟨w.heap.size,6,none⟩=some (.slice va pre.length vc):=aG _ _ 6 _ 35 (0,0) k6;have f6:w6.frozen? ⟨w.heap.size,6,none⟩=false:=by simp[bF,k6]
  obtain⟨x7,hx7⟩:∃a,a=w6.setCell ⟨w.heap.size,6,none⟩ (.slice (some ⟨g',0,none⟩) (pre.length+1) cap'):=⟨_,rfl⟩;have hkx:cQ (·=w.heap.size) w6 x7:=by rw[hx7];exact(cQ.refl (·=w.heap.size) w6).setCell (p:=⟨w.heap.size,6,none⟩) rfl _
  have XV:=fA hown' hkx (fun g e1 e2=>by cases e1;exact hne e2);obtain⟨Sr,adm⟩:=yt (cs:=oy x) XV hxl rfl rfl;obtain⟨x8,hx8⟩:∃a,a=x7.setCells g' (pre.length*7) [.b 2,.s x,.n,.i (-1),.F,.F,.n]:=⟨_,rfl⟩;rw[show oy x=[.b 2,.s x,.n,.i (-1),.F,.F,.n] from rfl,←hx8] at Sr;have kx7:x7.heap[w.heap.size]?=some (.cells (Dg (.slice (some ⟨g',0,none⟩) (pre.length+1) cap')) 35 (0,0)):=by rw[hx7,heap_setCell_same w6 w.heap.size 6 _ 35 _ k6];rfl
  have aag:cQ (·=g') x7 x8:=by rw[hx8];exact iw x7 g' _ _
  have hB:=FIN x8 (aag.same kx7 (fun e=>hne e.symm)) Sr (((hK6.mono (fun b _ e=>.inr e)).trans (hkx.mono (fun b _ e=>.inl e))).trans (aag.mono (fun b _ e=>.inr (hgS b e))));have fm:Hid (cG 35 7):=cD cJ;have yY:=cD sA;have Ee:=cD (cC vO (cC pI (cC uC (cC hx7 hx8))));have HA:=cD hA;have HB8:=cD hB;have HTX:=cD adm;have HL6:=cD (cC Qs Ia);clear ka vO pI uC hx7 hx8 hA hB adm Qs Ia hv hr hb hown Kw hca wS hz0 hz1 hz2 hown' hgrow zu E8 sA XK MX Wz k6 k7 FIN hgS hK6 hkx XV Sr kx7 aag hl hloop hlt;gi_wp2_with fail
  refine fB (S:=fun w'=>cE W w') (c:=6) ?_;refine fP 0 rfl (fun _=>hS) (fun w'=>by go_simp<;>rfl) ?_;simp only[cR];refine fI 1 rfl hS (fun w' hS'=>by have:=y1 w' hS';go_simp<;>rfl) ?_;simp only[cR];refine fP 2 rfl (fun _=>hS) (fun w'=>by go_simp<;>rfl) ?_;simp only[cR];refine fP 3 rfl (fun _=>hS) (fun w'=>by go_simp<;>rfl) ?_;simp only[cR];refine fP 4 rfl (fun _=>hS) (fun w'=>by go_simp<;>rfl) ?_;simp only[cR];refine fK 5 rfl fun K' gv=>?_
  gi_wp2_with fail
  rw[←Ee.out.1];refine gv _ _ hba ?_;clear gv hS;refine fC 6 rfl fun K' gv=>?_
  refine mw (.tmp 33) (.tmp 37) 33 rfl _ _ _ w6 rfl rfl UJ (gv _ _ ?_);clear gv;simp only[cR];have i7:(pre.length:Int)<(pre.length:Int)+1:=by omega
  refine fP 7 rfl (fun h=>absurd (Eq.trans cJ h) (by decide:¬(true:Bool)=false)) (fun w'=>by go_simp<;>rfl) ?_;simp only[cR];refine fP 9 rfl (fun h=>absurd (Eq.trans cJ h) (by decide:¬(true:Bool)=false)) (fun w'=>by go_simp<;>rfl) ?_;simp only[cR];refine fF 8 10 rfl rfl (fun K' gv=>?A) (fun K' gv=>?B)
  case' A=>
   refine kN 35 (.tmp 39) (.tmp 35) rfl g' (pre.length*7) #[.b 2,.s x,.n,.i (-1),.F,.F,.n] rfl rfl yY.out fm.out (by simp[aq]) ?_
   try dsimp only
   rw[←Ee.out.2.1];refine gv _ _ ?_;clear gv c6 f6 UJ
   try simp only[bP,au,aI,aJ]
   refine fC 10 rfl fun K' gv=>?_
   gi_wp2_with fail
   rw[←Ee.out.2.2.1];refine fD ?_ cJ _;have YR:=HA;clear c7 f7
  case' B=>
   clear c7 f7 UJ;gi_wp2_with fail
   rw[←Ee.out.2.2.2.1];clear c6 f6
   try simp only[bP,au,aI,aJ]
   refine fC 8 rfl fun K' gv=>?_
   refine kN 35 (.tmp 39) (.tmp 35) rfl g' (pre.length*7) #[.b 2,.s x,.n,.i (-1),.F,.F,.n] rfl rfl HTX.out fm.out (by simp[aq]) ?_
   try dsimp only
   rw[←Ee.out.2.2.2.2];refine gv _ _ ?_;clear gv
   try simp only[bP,au,aI,aJ]
   refine fD ?_ cJ _;have YR:=HB8
  all_goals
   have c8:=YR.out.2.2.2;clear HA HB8;by_cases h6:pre.length=5
   ·have t44:((pre.length:Int)+1==6)=true:=by rw[h6];rfl
    gi_wp2
    exact⟨YR.out.1,rfl,YR.out.2.2.1,by rw[ay,h6];rfl⟩
   have t44:((pre.length:Int)+1==6)=false:=by simp;omega
   have hp6:=HL6.out.1;gi_wp2
   exact⟨YR.out.1,YR.out.2.1,YR.out.2.2.1,by rw[ay,List.length_singleton];omega,af HL6.out.2 YR.out.1.size⟩
 case' done=>
  rintro D ys W hD hys ⟨⟨v,hv,hr,hb⟩,Qs,Ia⟩ hK;have hP:(m.left r).take 6=ys:=by rw[←hys];exact List.take_of_length_le cK
  clear hys Qs Ia
 case' stop=>
  rintro D c ys W hD hpre ⟨rfl,⟨v,hv,hr,hb⟩,Qs⟩ hK;have hP:(m.left r).take 6=ys:=by
   obtain⟨rest,hpre⟩:=hpre;rw[←hpre];exact bz Qs
  clear hpre Qs
 all_goals
  obtain⟨va,vc,rfl⟩:∃a c,v=.slice a ys.length c:=by
   rcases hr.2 with ⟨e1,e2⟩|⟨g,cap,cur,e1,_⟩
   ·exact⟨none,0,by rw[e1,e2]⟩
   exact⟨_,_,e1⟩
  obtain⟨n,hn⟩:=cF ys.length;have hv':=hv;rw[←hn] at hv';have c6:W.cell? ⟨w.heap.size,6,none⟩=some (.slice va n vc):=aG _ _ 6 _ 35 (0,0) hv';have WE:w.heap.size+3≤D∧D<W.heap.size:=⟨by have:=nU.out.2.2.2.1;omega,(bA.1 hK).1⟩;have c3:W.cell? ⟨A.mb,3,none⟩=some (.p A.kb):=(HH.out.1.gu.below hb).cells.2.2.2.1;have QE:=Ie W A.kb A.lo m.toks (HH.out.1.gu.below hb).tok r;rw[Ma HH.out.1.ok HR.out.2.2.1] at QE;obtain⟨Ye,wT⟩:∃b,b=(m.tok r).held:=⟨_,rfl⟩;rw[←wT] at QE;obtain⟨ep,sO⟩:∃x:Int,x=(((if Ye=true then (m.tok r).ep else 0:Nat)):Int):=⟨_,rfl⟩;rw[←sO] at QE;have QE:=cD QE;have HF:=cD (cC hv (cC hr (cC hb (cC hK (cC hP (cC hn (cC WE wT)))))));have hout:=cD HR.out.1;clear hv hr hb hK hP WE wT sO hD hv';by_cases hy:n=0
  ·subst hy
   clear hn;gi_wp2_with fail
   refine⟨trivial,?_⟩;refine(aA.2 QE.out).mono ?_;rintro e W2 ⟨rfl,dI⟩;have iK:=cD dI;clear dI;cases Ye with
   |false=>
    gi_wp2
    obtain⟨hv,hr,hb,hK,hP,hn,WE,wT⟩:=HF.out;have hK2:=(iK.out.block D WE.2).trans hK;refine⟨by simp,.inl ⟨_,_,rfl,bC hK2,?_⟩⟩;have e1:m.tU (r:Int)=(m,oI 61):=by
     unfold cV.tU;rw[if_neg (by rw[←HR.out.2.1];exact hout.out),if_pos (by rw[aX];exact wT.symm)]
    have MU:cE w (W2.putObj D (.deferred none)):=(hb.trans (iK.out.mono hb.size)).trans (belowK_b (w:=w) (aW _) W2 D _ _ cK hK2 rfl rfl);refine⟨_,results_tmp rfl _ _ _,?_⟩;rw[e1];exact gM (HH.out.1.gu.below MU) (HH.out.1.Bz.below MU) 61 (dA MU)
   |true=>
   gi_wp2
   obtain⟨hv,hr,hb,hK,hP,hn,WE,wT⟩:=HF.out;have hK2:=(iK.out.block D WE.2).trans hK;refine⟨by simp,.inl ⟨_,_,rfl,bC hK2,?_⟩⟩;have h0:m.left r=[]:=by
    have e2:=aP hn.symm;rw[e2] at hP;cases hl:m.left r with
    |nil=>rfl
    |cons a b=>rw[hl] at hP;simp at hP
   have e1:m.tU (r:Int)=(m,oI 0):=by
    unfold cV.tU;rw[if_neg (by rw[←HR.out.2.1];exact hout.out),if_neg (by rw[aX,←wT];simp),aX,if_pos h0]
   have MU:cE w (W2.putObj D (.deferred none)):=(hb.trans (iK.out.mono hb.size)).trans (belowK_b (w:=w) (aW _) W2 D _ _ cK hK2 rfl rfl);refine⟨_,results_tmp rfl _ _ _,?_⟩;rw[e1];exact gM (HH.out.1.gu.below MU) (HH.out.1.Bz.below MU) 0 (dA MU)
  have t47:0<n:=by omega
  have No:Hid (W.rangeAt w.heap.size 0 [.b 7,.z,.n,.I,.F,.F,.slice va n vc]):=cD (dJ (by have:=HF.out.1;rw[←hn] at this;exact this));have fm:Hid (cG 35 7):=cD cJ;have HS3:Hid (cG 47 13):=cD iH;have gG:Hid ((#[.I,.z,.n,.U,.U,.U,.I,.U,.V,.V,.V,.n,.n]:Array aE).all (·.oneCell')=true):=cD (by simp[aq]);have HAS:Hid (aT prog 247 #[.p A.mb,.p db,.i r,.agg #[.b 7,.z,.n,.I,.F,.F,.slice va n vc],.agg #[.I,.U]] W (Uw W.heap.size w0 W {A with X:=fun b=>A.X b∨b=D} db E (m.asked r (m.vu r) ⟨0,0⟩) Ye)):=cD (by
   obtain⟨hv,hr,hb,hK,hP,hn',WE,wT⟩:=HF.out;have h:=HH.out.1;have h6:ys.length≤6:=by rw[←hP,bq];omega
   have hpl:∀p∈ys,p.length≤64:=fun p hp=>by
    rw[←hP] at hp;have h1:=List.mem_of_mem_take hp;rw[cV.left_eq] at h1;have h2:=(List.mem_filter.1 h1).1;have h3:∀q∈iu (m.dQ r),q.length≤64:=fun q hq=>by
     have:=OV.1 hq;obtain⟨x,hx,rfl⟩:=bL.1 this;exact((h.ok.tree r HR.out.2.2.1).node x hx).1
    exact h3 p h2
   have hin:=Vp (F:=A.F) hr (by rw[←hn'];exact t47) h6 hpl;have ho:m.vu r=⟨⟨7,[],[],0,false,false⟩,ys.map fun p=>⟨2,p,[],-1,false,false⟩⟩:=by unfold cV.vu;rw[hP]
   rw[wT,ho,hn'];refine Eb (h.gu.afa hb cK WE.2) h.ok HH.out.2.1 HR.out.2.2.1 hin ⟨by unfold mH.seq;simpa using h6,fun p hp=>?_⟩ (dh:=⟨0,0⟩) ⟨⟨by decide,by decide⟩,⟨by decide,by decide⟩⟩ (h.Bz.below hb) (.inl h.X) (aW _);unfold mH.seq at hp;simp only[if_true,bL] at hp;obtain⟨q,_,rfl⟩:=hp;exact bS _)
  clear hn;gi_wp2_with (first
   |(refine jN (fun _=>trivial) cN 35 (.tmp 6) rfl w.heap.size 0 rfl [.b 7,.z,.n,.I,.F,.F,.slice va n vc] _ No.out underlying35 rfl fm.out ?_)
   |fail)
  refine⟨trivial,?_⟩;refine(aA.2 HAS.out).mono ?_;rintro e W2 ⟨hDE,rfl⟩;obtain⟨⟨c',e0,R,ri,Lr,hce,hDB,_,hI,_,hzz⟩,⟨va',vc',ov',C',hM,adJ⟩,hk⟩:=hDE;obtain⟨cc,hcc⟩:∃x:Int,x=if Ye=false then 61 else 0:=⟨_,rfl⟩
  rw[←hcc] at hce⊢;have Pb:cc=c':=by injection hce with hce;injection hce with _ hce
  rw[←Pb] at hzz;have HZZ:=cD hzz;clear hzz Pb;have yY:Hid (W2.there db 23 13):=cD (hDB.there 23 13 cL);obtain⟨W3,Je⟩:∃x,x=W2.setCells db 23 [.I,.z,.n,.U,.U,.U,.I,.U,.V,.V,.V,.n,.n]:=⟨_,rfl⟩;have uR:=cD Je;have HG:=cD (cC hDB (cC hI (cC hM (cC hk hcc))));have HOV:=cD adJ;clear adJ;clear hDB hI hM hk hcc Je hce;gi_wp2_with (first
   |(refine lB (fun _=>trivial) cN 47 (.tmp 58) (.tmp 56) rfl db 23 #[.I,.z,.n,.U,.U,.U,.I,.U,.V,.V,.V,.n,.n] rfl rfl yY.out HS3.out gG.out ?_;rw[←uR.out])
   |fail)
  obtain⟨hv,hr,hb,hK,hP,hn',WE,wT⟩:=HF.out;obtain⟨hDB,hI,hM,hk,hcc⟩:=HG.out;have h:=HH.out.1;have ao3:db<w.heap.size:=h.Bz.lt;have hK2:W2.heap[D]?=some (.deferred (some [])):=hk.same hK (fun e=>by
   rcases e with e|e
   ·have e:A.Z D:=e
    have:=h.gu.ze e;omega
   omega)
  have xJ:cQ (·=db) W2 W3:=by rw[uR.out];exact iw W2 db 23 _
  have Jg:W3.heap[D]?=some (.deferred (some [])):=xJ.same hK2 (fun e=>by have e:D=db:=e;omega);refine⟨by simp,.inl ⟨_,_,rfl,bC Jg,?_⟩⟩;refine⟨_,results_tmp rfl _ _ _,?_⟩;obtain⟨aeG,hU⟩:=hDB.acL (R':=zR) rfl (fun x hx n e=>by
   subst e;simp[zR] at hx)
  have hM3:=hM.Mf (o:=23) (cs:=zR) hDB (.inl h.X) hU;have e3:W3=W2.setCells db 23 zR:=uR.out;rw[←e3] at aeG hM3;have hM4:=(hM3.ahD (.inr rfl) Jg (.deferred none)).zi (X:=A.X) (fun b e=>by
   have:=hM3.xz b (.inl e);exact⟨this.1,this.2.1,by simpa [aY] using this.2.2⟩) (fun b e=>fun e2=>e.2 (.inl e2))
  have Fa:=xE W3 D (.deferred none);have hne:m.left r≠[]:=fun e=>by
   rw[e] at hP;have:ys=[]:=by rw[←hP];rfl
   rw[this] at hn';simp at hn';omega
  have hre:m.tU (r:Int)=((m.asked r (m.vu r) ⟨0,0⟩).1,⟨cc,lX,[],(m.asked r (m.vu r) ⟨0,0⟩).2.i⟩):=by
   unfold cV.tU cV.asked;rw[if_neg (by rw[←HR.out.2.1];exact hout.out),aX,hcc];cases Ye with
   |false=>rw[if_pos wT.symm,if_pos wT.symm];rfl
   |true=>rw[if_neg (by rw[←wT];simp),if_neg hne,if_neg (by rw[←wT];simp)];rfl
  rw[hre];have qC:cQ (fun b=>A.Z b∨b=db) w (W3.putObj D (.deferred none)):=by
   have k1:cQ (fun b=>A.Z b∨b=db) w W3:=((dA hb).trans hk).trans (xJ.mono (fun b _ e=>.inr e));refine⟨k1.os,k1.tape,k1.output,af k1.size (by simp[aY]),fun b hlt hnb=>?_⟩;exact(aH cK).trans (k1.block b hlt hnb)
  refine⟨⟨cc,0,zR,ri,Lr,rfl,aeG.kept Fa (fun e=>by have e:db=D:=e;omega),jV _ _ _,?_,by by_cases hc:cc=0<;>simp[hc],fun hc=>⟨rfl,(HZZ.out hc).2.1,(HZZ.out hc).2.2.1,(HZZ.out hc).2.2.2.1,rfl,rfl⟩⟩,⟨va',vc',ov',C',hM4,fun b e=>(HOV.out b e).imp id (fun e2=>af hb.size e2)⟩,qC⟩;have hI3:=hI.kept xJ (fun b dI e=>?_)
  ·exact(hI3.kE Fa (fun b _ ⟨cs,t,fr,hc⟩ e=>by have e:b=D:=e;rw[e,Jg] at hc;cases hc)).mono (fun b dI=>by
    have eO:W.heap.size≤b:=dI.1;have:=hb.size;have:=h.hB;exact⟨by omega,hM4.AJ (dI.2 _ hM.cells.2.2.2.2.2.2)⟩)
  have e:b=db:=e;have dI:W.heap.size≤b:=dI.1;have:=hb.size;omega
end
def Lg(k:Nat):Option Nat:=if k=1 then some 171 else if k=2 then some 169 else if k=3 then some 170 else if k=4 then some 172 else if k=5 then some 173 else if k=6 then some 174 else if k=7 then some 175 else none
section
variable{B:Nat}{w0 w:World}{A:MA}{m:cV}{N db:Nat}{y:fV}{E:List Value}
theorem WZ(h:BT B w0 w A m N db y E)(hN:N≤80000){f:Nat}(hf:Lg y.kind=some f):aT prog f #[.p A.mb,.p db] w (iC B w0 w A db E (m.apply y)):=by
 unfold Lg at hf;unfold cV.apply;by_cases h1:y.kind=1
 ·rw[if_pos h1] at hf;cases hf;rw[h1];exact Gf h hN
 rw[if_neg h1] at hf;by_cases h2:y.kind=2
 ·rw[if_pos h2] at hf;cases hf;rw[h2];exact JJ h.gu h.ok h.Bz h.X h.hB
 rw[if_neg h2] at hf;by_cases h3:y.kind=3
 ·rw[if_pos h3] at hf;cases hf;rw[h3];exact Gh h.gu h.ok h.hN h.Tn h.owner h.Bz h.X h.hB
 rw[if_neg h3] at hf;by_cases h4:y.kind=4
 ·rw[if_pos h4] at hf;cases hf;rw[h4];exact JH h
 rw[if_neg h4] at hf;by_cases h5:y.kind=5
 ·rw[if_pos h5] at hf;cases hf;rw[h5];exact Ra h
 rw[if_neg h5] at hf;by_cases h6:y.kind=6
 ·rw[if_pos h6] at hf;cases hf;rw[h6];exact NP h
 rw[if_neg h6] at hf;by_cases h7:y.kind=7
 ·rw[if_pos h7] at hf;cases hf;rw[h7];exact JI h hN
 rw[if_neg h7] at hf;cases hf
theorem LF(h:Lg y.kind=none):m.apply y=(m,oI 1):=by
 unfold Lg at h;unfold cV.apply;split
 all_goals first
  |rfl
  |(rename_i e;rw[e] at h;simp at h)
end
theorem yc.mG{w:an}{B n:Nat}{y:fV}{o:di}{L:List di}{i:ei}{Ei:List dr}{fa:Option Addr}(h:yc w (fU B) y o L i Ei fa)(hn:w.heap.size≤n):
  yc w (fun b=>B≤b∧(b<n∨y.eu.dF=[])) y o L i Ei fa∧dK w (fun b=>B≤b∧b<n) i.sa y.eu.de:=by
 have g:∀b,fU B b→b<w.heap.size→B≤b∧(b<n∨y.eu.dF=[]):=fun b h1 h2=>⟨h1,.inl cK⟩
 refine⟨⟨h.leaf.both g,h.pn,h.like.both g,fun k q hq=>?_,⟨h.eu.de.mono (fun b h2 h1=>g b h1 h2),h.eu.like.both g,h.eu.row,fun ad e=>⟨h.eu.new ad e,?_⟩⟩,h.fr.mono (fun b h2 h1=>g b h1 h2)⟩,h.eu.de.mono (fun b h2 h1=>⟨h1,by omega⟩)⟩
 ·obtain⟨b,e1,e2,e3,e4⟩:=h.row k q hq
  exact⟨b,e1,g b e2 e3,e3,e4⟩
 by_cases he:y.eu.dF=[]
 ·exact .inr he
 have h0:0<Ei.length:=by
  rw[h.eu.like.1];exact List.length_pos_iff.2 he
 obtain⟨b,off,e1,e2,_⟩:=h.eu.row 0 _ (ag h0);rw[e1] at e;cases e;exact .inl (Nat.lt_of_lt_of_le e2 hn)
theorem Rj(k:Nat):(dL k Zm)=Lg k:=by
 unfold Lg Zm;simp only[dL];by_cases h1:k=1
 ·subst h1;rfl
 by_cases h2:k=2
 ·subst h2;rfl
 by_cases h3:k=3
 ·subst h3;rfl
 by_cases h4:k=4
 ·subst h4;rfl
 by_cases h5:k=5
 ·subst h5;rfl
 by_cases h6:k=6
 ·subst h6;rfl
 by_cases h7:k=7
 ·subst h7;rfl
 simp[h1,h2,h3,h4,h5,h6,h7,aQ h1,aQ h2,aQ h3,aQ h4,aQ h5,aQ h6,aQ h7]
theorem LH.look{w:an}{b:Nat}(h:LH w b)(k:Nat)(hk:k<256):∃v,v=((Lg k).map Th).getD .nilFunc∧∀W,cE w W→(Instr.lookup 148 (.map (some b)) (.b k) true).run prog W=.ok (.tuple #[v,.bool (Lg k).isSome]) W:=by
 obtain⟨l,hl0⟩:=Du hk;refine⟨_,rfl,fun W hW=>?_⟩;have hl:=(dS.of_block h (hW.block _ (dS.lt h))).mT iZ eN underlying148 (z:=.nilFunc) cJ (a:=k) hl0;rw[Rj] at hl;exact hl
theorem Lf{k f:Nat}(h:Lg k=some f):∀args w,(callFunc f args).run prog w=.ok (.enter f args) w:=by
 unfold Lg at h;split at h
 ·cases h;exact aV func171 cJ rfl
 split at h
 ·cases h;exact aV func169 cJ rfl
 split at h
 ·cases h;exact aV func170 cJ rfl
 split at h
 ·cases h;exact aV func172 cJ rfl
 split at h
 ·cases h;exact aV func173 cJ rfl
 split at h
 ·cases h;exact aV func174 cJ rfl
 split at h
 ·cases h;exact aV func175 cJ rfl
 cases h
theorem PD{w0 w w2 w6:an}{A:MA}{m:cV}{N db:Nat}{y:fV}{E:List aE}(h:cZ w0 w A m)(ok:m.Ok N)(hN:N≤1000000)(hy:mE y)(dI:cE w w2)(uE:cE w2 w6)(hdb:w2.heap.size≤db)
  {o:di} {L:List di} {i:ei} {Ei:List dr} {fa:Option Addr} {fc:Nat} (hE:E=y.cells o i fa fc) (hD:yc w2 (fU w.heap.size) y o L i Ei fa) (k6:w6.heap[db]?=some (.cells (E++zR++zI).toArray 49 (0,0))):
  BT w.heap.size w0 w6 {A with X:=fun b=>A.X b∨b=db} m N db y E:=by
 have hb:cE w w6:=dI.trans (uE.mono dI.size);obtain⟨AY,UP⟩:=hD.mG (n:=db) hdb;refine⟨h.afa hb (af dI.size hdb) (aB k6),ok,hN,hy,⟨o,L,i,Ei,fa,fc,hE,AY.Dw (dA (S:=fun _=>False) uE) (fun _ _ _ e=>e)⟩,fun o' i' Qz Tg hE'=>?_,⟨k6,by rw[hE];rfl,rfl,rfl,fun x hx n e=>?_,fun x hx n e=>?_⟩,.inr rfl,hb.size,fun b hz=>h.ze hz,fun b e=>h.mG.lt b e⟩
 ·have e1:y.cells o i fa fc=y.cells o' i' Qz Tg:=hE.symm.trans hE'
  have e2:=congrArg (fun l:List aE=>l[16]?) e1;have e3:some (aO i.sa y.eu.de.length i.sc)=some (aO i'.sa y.eu.de.length i'.sc):=e2
  injection e3 with e4
  injection e4 with e5
  rw[←e5];exact UP.below uE
 ·subst e
  simp[zR] at hx
 subst e;simp[zI] at hx
def gp(w0 w:an)(A:MA)(x:cV×kH)(e:Ending)(w':an):Prop:=
 ∃(E R:List aE) (r:ei) (L:List dr),e=.returned (.agg (E++R++cU x.2.i r).toArray)∧E.length=23∧(E.toArray:Array aE).all (·.oneCell')=true∧R.length=13∧fQ w' (fU w.heap.size) (.agg R.toArray) x.2.e x.2.a x.2.r∧ez w' (fun b=>w.heap.size≤b∧yb w' A.mb b) r L x.2.i∧
  (∃va vc ov C,cZ w0 w' (A.GG va vc ov C) x.1∧∀b,ov.ownBlock=some b→A.ov.ownBlock=some b∨w.heap.size≤b)∧cQ A.Z w w'
theorem cZ.XA{w0 w:an}{A:MA}{m:cV}(h:cZ w0 w A m){X F:Nat→Prop}(h1:∀b,X b→A.X b)(h2:∀b,F b→A.F b):cZ w0 w {A with X:=X,F:=F} m:=by
 have hl:∀b,b<w.heap.size→A.lo b→({A with X:=X,F:=F}:MA).lo b:=fun b hb hlo=>⟨hlo.1,fun e=>hlo.2 (h1 b e)⟩
 have hd:=h.data.mono hl;exact⟨h.blk,⟨hd.dP,hd.row,hd.v,hd.eu⟩,h.tl,h.tr,h.nd,h.tok.more hl,h.xk,h.own,h.oq,h.cl,h.kd,h.lo,fun b e=>h.xz b (h1 b e),h.pow,h.mx,h.bl,⟨fun b e=>h.mG.lt b (h2 b e),fun r b hr=>by
  obtain⟨lo,mb,T,hlo⟩:=h.mG.tr r b hr;exact⟨lo,mb,T,fun k hk e=>hlo k hk (h2 k e)⟩,fun i x c hx hc=>(h.mG.eu i x c hx hc).both (fun k hk _ e=>hk (h2 k e))⟩⟩
def MA.app(A:MA)(n db:Nat):MA:={A with X:=fun b=>(A.X b∨b=n)∨b=db,F:=fun b=>A.F b∨b=n}
theorem Zr{e0:Int}{p:cO}{rr:Raw}{ka:Option Addr}{kn kc:Nat}{pa:Option Addr}{pn pc:Nat}:((eL e0 p rr ka kn kc pa pn pc).toArray:Array aE).all (·.oneCell')=true:=by
 simp[eL,Raw.cells,eU.cells,aq]
theorem qV{w:an}{lo:Nat→Prop}{R:List aE}{e:Int}{a:I7}{rs:List wU}(h:fQ w lo (.agg R.toArray) e a rs):(R.toArray:Array aE).all (·.oneCell')=true:=by
 obtain⟨rr,ka,kc,pa,pc,h1,_⟩:=h
 injection h1 with h1
 have h2:R=eL e a.cW rr ka a.kids.length kc pa rs.length pc:=by simpa using congrArg Array.toList h1
 rw[h2];exact Zr
theorem vY{E R:List aE}{x:fW}{r:ei}(hE:(E.toArray:Array aE).all (·.oneCell')=true)(hR:(R.toArray:Array aE).all (·.oneCell')=true):((E++R++cU x r).toArray:Array aE).all (·.oneCell')=true:=by
 simp only[List.all_toArray,List.all_append] at*;rw[hE,hR];simp[cU,aq]
theorem C7{w:an}{lo:Nat→Prop}{R:List aE}{e:Int}{a:I7}{rs:List wU}(h:fQ w lo (.agg R.toArray) e a rs):R[0]?=some (.i e):=by
 obtain⟨rr,ka,kc,pa,pc,h1,_⟩:=h
 injection h1 with h1
 have h2:R=eL e a.cW rr ka a.kids.length kc pa rs.length pc:=by simpa using congrArg Array.toList h1
 rw[h2];rfl
theorem xX{w0 w w6 w7:an}{A:MA}{m:cV}(h:cZ w0 w A m){Y:cV×kH}{E R:List aE}(hone:(E.toArray:Array aE).all (·.oneCell')=true){r:ei}{L:List dr}{db:Nat}{cs:Array aE}(uE:cE w w6)(hdb:w.heap.size<db)(hk:cQ (fun b=>(A.app w.heap.size db).Z b∨b=db) w6 w7)
  (hres:w7.heap[w.heap.size]?=some (.cells cs 49 (0,0))) (hst:∃va vc ov C,cZ w0 w7 ((A.app w.heap.size db).GG va vc ov C) Y.1∧∀b,ov.ownBlock=some b→A.ov.ownBlock=some b∨w6.heap.size≤b) (hD:DB w7 db E R (cU Y.2.i r)) (hR:fQ w7 (fU (w.heap.size+1)) (.agg R.toArray) Y.2.e Y.2.a Y.2.r) (hI:ez w7 (fun b=>w.heap.size+1≤b∧yb w7 A.mb b) r L Y.2.i):
  gp w0 w A Y (.returned (.agg (E++R++cU Y.2.i r).toArray)) (w7.setCells w.heap.size 0 (E++R++cU Y.2.i r)):=by
 have O7:=iw w7 w.heap.size 0 (E++R++cU Y.2.i r);obtain⟨va,vc,ov,C,hm,DE⟩:=hst;have Wp:=(hm.Il O7 (fun b e=>by
   have e:b=w.heap.size:=e;subst e;exact⟨.inl (.inr rfl),.inr rfl,gT hres⟩)).XA (X:=A.X) (F:=A.F) (fun b e=>.inl (.inl e)) (fun b e=>.inl e)
 refine⟨E,R,r,L,rfl,hD.le,hone,hD.lr,(hR.dZ O7 (fun k hk _ e=>?_)).mono (fun k hk=>af (Nat.le_succ _) hk),(hI.kept O7 (fun k hk e=>?_)).mono (fun k hk=>⟨af (Nat.le_succ _) hk.1,Wp.AJ (hk.2 _ hm.cells.2.2.2.2.2.2)⟩),?_,?_⟩
 ·have e:k=w.heap.size:=e
  have hk:w.heap.size+1≤k:=hk;omega
 ·have e:k=w.heap.size:=e
  have hk:w.heap.size+1≤k:=hk.1;omega
 ·exact⟨va,vc,ov,C,Wp,fun b e=>(DE b e).imp id (fun e2=>af uE.size e2)⟩
 have k1:cQ (fun b=>A.Z b∨b=db∨b=w.heap.size) w (w7.setCells w.heap.size 0 (E++R++cU Y.2.i r)):=((dA uE).trans (hk.mono (fun b _ e=>e.imp id .inl))).trans (O7.mono (fun b _ e=>.inr (.inr e)));exact⟨k1.os,k1.tape,k1.output,k1.size,fun b hlt hnb=>k1.block b hlt (fun e=>by
  rcases e with e|e|e
  ·exact hnb e
  ·omega
  omega)⟩
theorem Qa{w0 w w6 w7:an}{A:MA}{Y:cV×kH}{E:List aE}{db:Nat}{cc:Int}(hdb:w.heap.size<db)(hk:cQ (fun b=>(A.app w.heap.size db).Z b∨b=db) w6 w7)
  (hst:∃va vc ov C,cZ w0 w7 ((A.app w.heap.size db).GG va vc ov C) Y.1∧∀b,ov.ownBlock=some b→A.ov.ownBlock=some b∨w6.heap.size≤b) (hD:DB w7 db E zR zI):
  cQ (fun b=>(A.app w.heap.size db).Z b∨b=db) w6 (w7.setCell ⟨db,23,none⟩ (.i cc))∧(∃va vc ov C,cZ w0 (w7.setCell ⟨db,23,none⟩ (.i cc)) ((A.app w.heap.size db).GG va vc ov C) Y.1∧∀b,ov.ownBlock=some b→A.ov.ownBlock=some b∨w6.heap.size≤b)∧DB (w7.setCell ⟨db,23,none⟩ (.i cc)) db E (zR.set 0 (.i cc)) zI:=by
 obtain⟨MY,hU⟩:=hD.acN (k:=0) (v:=.i cc) cL (fun n e=>by cases e);obtain⟨va,vc,ov,C,hm,DE⟩:=hst;exact⟨hk.setCell (p:=⟨db,23,none⟩) (.inr rfl) _,⟨va,vc,ov,C,hm.Rf hD (.inr rfl) hU,DE⟩,MY⟩
end
