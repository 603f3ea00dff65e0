/- Part 37. -/
import Derived.Test.YtdpaejbaoefdjaaGreatDoorQ36
open List renaming getElem?_eq_some_iff → aa,getElem?_eq_getElem → ag,setIfInBounds_toArray → au,length_append → ay,mem_of_getElem? → aC,set_cons_zero → aI,set_cons_succ → aJ,length_cons → aM,eq_nil_of_length_eq_zero → aP,length_nil → aR,length_map → aS,getElem?_map → aU,size_toArray → bg,length_take → bq,take_left' → bz,mem_map → bL,toList_toArray → bT,append_toArray → bU,filter_append → bW,take_add_one → bX,push_toArray → bY,flatMap_cons → bZ,append_assoc → cj
open Nat renaming le_trans → af,zero_add → aD,le_refl → aW,zero_le → bS
open Go.RowKit.Below renaming refl → ah
open Go renaming undef → aj,World → an,callsIn_wide → aA,lt_of_block → aB,Value → aE,wpAnyH_done → aF,cell_of_row → aG,wpList_load_mid → aL,heap_alloc_new → aN,Calls → aT,run_takeDeferred → bC,getD_set_ne → bG
open Go.Value renaming oneCell' → aq,slice → aO
open Go.World renaming putObj_heap_other → aH,putObj → aY,size_alloc → bh,frozen? → bF
open Option renaming map_eq_some_iff → aK
open Ne renaming symm → aQ
open Go.Proofs renaming enters_of → aV
open Int renaming toNat_natCast → aX
open Array renaming length_toList → aZ,getElem?_eq_some_iff → bA,replicate_zero → bM,replicate_succ → bN
open Bool renaming and_eq_true → bu
open Go.Region renaming wanted → bB,ready → bH,binds → bJ
open Go.Oper renaming wpIn → bK
open Go.Act renaming put → bP
open Go.Result renaming andThen_ok → bQ
namespace Go.Proofs.YtdpaejbaoefdjaaGreatDoor
open Go.Proofs.Tryz
set_option maxRecDepth 100000
set_option maxHeartbeats 64000000
set_option linter.unusedVariables false
set_option linter.unusedSimpArgs false
section
open Go.RowKit Go.Shelf Go.MapKept Go.ChangeMaps
section
variable{w:World}{lo:Nat→Prop}{y:fR}{o:cV}{L:List cV}{i:dS}{Ei:List cZ}{fa:Option Addr}
theorem yM.at_(h:yM w lo y o L i Ei fa)(hy:mC y):Cx w 2 o.pa (y.parts.map fun p=>⟨p.kind,p.data.length,0⟩):=fun k j hk=>by
 simp only[aU,aK] at hk;obtain⟨p,hp,rfl⟩:=hk;have hkl:=(aa.1 hp).1;obtain⟨q,hq⟩:∃q,L[k]?=some q:=⟨_,ag (by rw[h.like.1];exact hkl)⟩;obtain⟨g,e1,_,e3,e4⟩:=h.row k q hq;obtain⟨hl,e5,e6,e7⟩:=h.like.2 k q p hq hp;have hps:=hy.parts p (aC hp);exact⟨g,0,q,[],e1,e3,by rw[aD];exact e4,by rw[hl.kind,hl.len,e6],by rw[e6];rfl,by rw[hl.len];unfold maxLen;have:=hps.data;omega,fun k i hk=>by simp at hk⟩
theorem yM.ajF{F:Nat→Prop}(hF:∀b,lo b→¬F b)(h:yM w lo y o L i Ei fa)(hy:mC y):Af F w o ⟨y.op,y.parts⟩ (cS.uP y):=by
 have hpl:y.parts.length=L.length:=h.like.1.symm;have N5:o.pn=y.parts.length:=by rw[h.pn,hpl]
 refine⟨h.leaf.both (fun b hl hb=>⟨hb,hF b hl⟩),fun w' hb=>?_,fun h0=>?_⟩
 ·have:=yD 2 w' o (y.parts.map fun p=>⟨p.kind,p.data.length,0⟩) (by rw[aS];exact N5) ((h.at_ hy).below hb) (by rw[h.leaf.len];unfold maxLen;have:=hy.op.data;omega)
  rw[h.leaf.kind,h.leaf.len] at this;exact this
 unfold cS.uP gz at h0;split at h0
 ·cases h0
 rename_i h1
 split at h0
 ·cases h0
 rename_i h2
 rw[aS] at h1;by_cases h7:y.op.kind=7
 ·refine .inr ⟨h7,N5,hy.pl,fun k p hk=>?_⟩
  have hkl:=(aa.1 hk).1;obtain⟨q,hq⟩:∃q,L[k]?=some q:=⟨_,ag (by rw[h.like.1];exact hkl)⟩;obtain⟨g,e1,_,e3,e4⟩:=h.row k q hq;obtain⟨hl,e5,e6,e7⟩:=h.like.2 k q p hq hk;have hps:=hy.parts p (aC hk);have hmem:(⟨p.kind,p.data.length,0⟩:fo)∈y.parts.map fun p=>(⟨p.kind,p.data.length,0⟩:fo):=List.mem_map_of_mem (aC hk)
  have qy:fo.bad ⟨p.kind,p.data.length,0⟩=false:=by
   cases hb:fo.bad ⟨p.kind,p.data.length,0⟩ with
   |false=>rfl
   |true=>exact absurd (List.any_eq_true.2 ⟨_,hmem,hb⟩) h2
  unfold fo.bad at qy;simp at qy;exact⟨g,0,q,e1,e3,by rw[aD];exact e4,hl.both (fun b hl hb=>⟨hb,hF b hl⟩),by omega,by omega,by have:=hps.path;omega,by have:=hps.data;omega⟩
 refine .inl ⟨h7,?_,?_,?_,?_,?_⟩
 ·have hc:¬(decide (y.op.kind=7)≠decide (0<y.parts.length)):=fun e=>h1 (.inr (.inr (.inr e)))
  rw[decide_eq_false h7] at hc;have:¬(0<y.parts.length):=fun e=>hc (by rw[decide_eq_true e];decide)
  omega
 ·show 1≤y.op.kind
  omega
 ·show y.op.kind≤6
  omega
 ·show y.op.path.length≤900
  have:=hy.op.path;omega
 show y.op.data.length≤1000000;have:=hy.op.data;omega
theorem yM.rg(h:yM w lo y o L i Ei fa):pX w w.heap.size o.pa (y.parts.map (·.path)):=fun k p hk=>by
 simp only[aU,aK] at hk;obtain⟨p',hp,rfl⟩:=hk;have hkl:=(aa.1 hp).1;obtain⟨q,hq⟩:∃q,L[k]?=some q:=⟨_,ag (by rw[h.like.1];exact hkl)⟩;obtain⟨g,e1,_,e3,e4⟩:=h.row k q hq;obtain⟨hl,_⟩:=h.like.2 k q p' hq hp;refine⟨g,0,⟨q.kind,q.da,q.dn,q.dc,q.gS,q.seq,q.mM,q.pa,q.pn,q.pc⟩,e1,e3,?_⟩;rw[aD,←hl.path];exact e4
end
theorem Cb{P:Program}{oi:Oper}{a:Act}{w:an}{op:BinOp}{ty ty2:TypeId}{x y:Operand}(ho:oi.op=.binOp op ty x y ty2){u v r:aE}(hx:a.eval x=u)(hy:a.eval y=v)(hg:(eqGuard op ty x y u v).run P w=.ok () w)(hr:(binOp op ty u v).run P w=.ok r w):(execOp a.eval oi).run P w=.ok (.value r) w:=by
 unfold execOp;simp only[ho,hx,hy,Sem.run_bind,hg,hr,bQ,Sem.run_pure]
section
variable{B:Nat}{w0 w:World}{A:MA}{m:cS}{N db:Nat}{y:fR}{E:List Value}
theorem iq.from{w1:an}{x:cS×jt}{e:Ending}{w':an}(h:iq B w0 w1 A db E x e w')(hk:Kept (fun b=>A.Z b∨b=db) w w1):iq B w0 w A db E x e w':=⟨h.ret,by
 obtain⟨va,vc,ov,C,hm,ho⟩:=h.st;exact⟨va,vc,ov,C,hm,fun b e=>(ho b e).imp id (fun e2=>af hk.size e2)⟩,hk.trans h.kept⟩
theorem cU.dH(h:cU w0 w A m):gA w w.heap.size A.ra m.dH:=h.data.dH.sl
theorem G9(h:CD B w0 w A m N db y E)(hN:N≤80000):aT prog 171 #[.p A.mb,.p db] w (iq B w0 w A db E (m.write y)):=by
 obtain⟨o,L,i,Ei,fa,fc,hE,hD⟩:=h.cells;have hm:=h.fS;have hle:E.length=23:=h.Ch.le;have hone:(E.toArray:Array aE).all (·.oneCell')=true:=by rw[hE];simp[fR.cells,gF,aq]
 have OJ:Hid (w.rangeAt db 0 E):=cE (fun j u hu=>by
  rw[aD];exact(h.Ch.tT j (by have:=(aa.1 hu).1;omega)).trans hu)
 obtain⟨w1,hw1⟩:=cG (w.alloc (.cells #[.B,.U,.U,.I,.U,.B,.z,.n,.I,.F,.F,.n,.I,.V,.I,.V,.n,.n,.U,.I,.I,.V,.n] 42));have de:cF w w1:=by rw[hw1];exact cR (ah _ w) _
 have k1:w1.heap[w.heap.size]?=some (.cells #[.B,.U,.U,.I,.U,.B,.z,.n,.I,.F,.F,.n,.I,.V,.I,.V,.n,.n,.U,.I,.I,.V,.n] 42 (0,0)):=by rw[hw1];exact aN w _
 obtain⟨w2,eS⟩:=cG (w1.setCells w.heap.size 0 E);have k2:w2.heap[w.heap.size]?=some (.cells E.toArray 42 (0,0)):=by rw[eS];exact fG k1 hle
 have dz:cF w w2:=by rw[eS];exact iy (w1:=w) de 0 E (aW _)
 have hxl:w.heap.size<w2.heap.size:=aB k2;have hsz:E.toArray.size=23:=by simpa using hle
 have zP:Hid (w1.there w.heap.size 0 E.toArray.size):=cE (by rw[hsz];exact dR k1 0 23 cN);have Ah:Hid (cH 42 E.toArray.size):=cE (by rw[hsz];exact cJ);have Ag:Hid (cH 42 E.length):=cE (by rw[hle];exact cJ);have qP:Hid (cH 35 7):=cE cK;have rX:Hid (cH 31 2):=cE cK;have gu:=cE hone;have HW:=cE (cD hw1 eS);obtain⟨V6,op,oa,on,oc,ov,os,oe,qa,qn,qc⟩:=o;have yx:∀w',cF w2 w'→w'.rangeAt w.heap.size 0 E:=fun w' hb=>dD ((hb.block _ hxl).trans k2)
 have yo:∀w',cF w2 w'→w'.rangeAt w.heap.size 5 [.b V6,.s op,.slice oa on oc,.i ov,.bool os,.bool oe,.slice qa qn qc]:=fun w' hb j u hu=>by
  have:=yx w' hb (5+j) u (by
   rw[hE];have hj:=(aa.1 hu).1;simp only[aM,aR] at hj;rcases(show j=0∨j=1∨j=2∨j=3∨j=4∨j=5∨j=6 by omega) with rfl|rfl|rfl|rfl|rfl|rfl|rfl<;>exact hu)
  rwa [aD] at this
 have ys:∀w',cF w2 w'→w'.rangeAt w.heap.size 3 [.i y.os,.u (y.on:Int)]:=fun w' hb j u hu=>by
  have:=yx w' hb (3+j) u (by
   rw[hE];have hj:=(aa.1 hu).1;simp only[aM,aR] at hj;rcases(show j=0∨j=1 by omega) with rfl|rfl<;>exact hu)
  rwa [aD] at this
 have hin:=hD.ajF (F:=A.F) (fun b hb e=>by have:=h.fB b e;have:=hb.1;omega) h.US;have GO:=cE (hin.chk w2 dz);unfold cV.val cV.cells at GO;dsimp only at GO;obtain⟨ce,hce⟩:=cG (cS.uP y);rw[←hce] at GO;have HH:=cE (cD h (cD hN (cD dz (cD hce (cD hD (cD hin hxl))))));clear h hN hm hle hone hw1 de k1 eS k2 hxl hsz dz hE hD hin hce;go_enter func171,ntmps171
 go_wp2_with (first
  |(refine aL rfl 42 (.tmp 11) rfl db 0 rfl E _ OJ.out underlying42 rfl Ag.out ?_)
  |(rw[←HW.out.1];refine wpList_store_mid rfl 42 (.tmp 5) (.tmp 12) rfl w.heap.size 0 E.toArray rfl rfl zP.out Ah.out gu.out ?_;rw[bT,←HW.out.2])
  |(refine aL rfl 35 (.tmp 13) rfl w.heap.size 5 rfl [.b V6,.s op,.slice oa on oc,.i ov,.bool os,.bool oe,.slice qa qn qc] _ (yo w2 (ah _ _)) underlying35 rfl qP.out ?_)
  |fail)
 refine GO.out.mono ?_;rintro e w3 ⟨rfl,eE⟩;have Df:=eE;have H3:=cE eE;clear eE;by_cases hc0:ce=0
 ·subst hc0
  have BM:cU w0 w3 A m:=HH.out.1.fS.below (HH.out.2.2.1.trans (H3.out.mono HH.out.2.2.1.size));obtain⟨ns,oV⟩:∃n,n=m.site:=⟨_,rfl⟩;have f0:∀w',cF w3 w'→w'.cell? ⟨A.mb,0,none⟩=some (.i (ns:Int)):=fun w' hb=>(BM.below hb).cells.1.trans (by rw[oV])
  obtain⟨nr,J5⟩:∃n,n=m.dH.length:=⟨_,rfl⟩;have HNR:=cE J5;have f1:∀w',cF w3 w'→w'.cell? ⟨A.mb,1,none⟩=some (.slice A.ra nr A.rc):=fun w' hb=>(BM.below hb).cells.2.1.trans (by rw[J5])
  clear J5;have f4:∀w',cF w3 w'→w'.cell? ⟨A.mb,4,none⟩=some (.p A.sb):=fun w' hb=>(BM.below hb).cells.2.2.2.2.1
  have nN:∀w',cF w3 w'→cF w2 w':=fun w' hb=>H3.out.trans (hb.mono H3.out.size)
  have g3:∀w',cF w3 w'→w'.cell? ⟨w.heap.size,3,none⟩=some (.i y.os):=fun w' hb=>ys w' (nN w' hb) 0 _ rfl
  have g4:∀w',cF w3 w'→w'.cell? ⟨w.heap.size,4,none⟩=some (.u (y.on:Int)):=fun w' hb=>ys w' (nN w' hb) 1 _ rfl
  obtain⟨b5,jE⟩:∃b,b=(!ia y.os y.on&&(y.os != (ns:Int)||!m.live y.on)):=⟨_,rfl⟩;have VP:=cE jE;have MY:=cE (cD BM oV);have hne:∀W,cF w3 W→_:=fun W _=>Nl y.os y.on W
  have HLV:Hid (∀W,cF w3 W→aT prog 246 #[.p A.sb,.u (y.on:Int)] W fun e w'=>e=.returned (.bool (m.live y.on))∧∃k,w'=W.drewN k):=cE (fun W hW=>BC A.sb A.gb m.site m.last y.on m.gone W (BM.below hW).yR (by have:=HH.out.1.ok.site;have:=HH.out.1.ok.vl;exact⟨by omega,by omega⟩) (by have:=HH.out.1.US.on;exact⟨by omega,by omega⟩));obtain⟨lv,hlv⟩:∃b,b=m.live y.on:=⟨_,rfl⟩;rw[←hlv] at HLV jE;have asf:=cE hlv;clear BM oV hlv Df GO;go_wp2_with fail
  go_cut [43] (fun v wc=>v=.bool b5∧cF w3 wc)
  case first=>
   refine rB fun wd hS=>?_
   refine tI 0 rfl hS ?_;refine tL 1 rfl hS 31 (.tmp 19) w.heap.size 3 [.i y.os,.u (y.on:Int)] (fun w' h=>ys w' (nN w' h)) underlying31 rX.out ?_;simp only[cQ];cases oV:ia y.os y.on with
   |true=>
    rw[oV] at hne jE;simp only[Bool.not_true,Bool.false_and] at jE hne;subst jE;refine tI 2 rfl hS ?_;simp only[cQ];refine iZ 3 rfl cK cK cK cO hS (fun w' hS'=>Cb rfl rfl rfl (by go_simp<;>rfl) (hne w' hS')) (fun _ _ _ h=>h) ?_;simp only[cQ];refine tI 4 rfl hS ?_;refine tN 5 rfl hS ?_;refine tN 6 rfl hS ?_;refine tN 7 rfl hS ?_;simp only[cQ];refine tN 8 rfl hS ?_;refine tN 9 rfl hS ?_;refine tN 10 rfl hS ?_;refine tN 11 rfl hS ?_;simp only[cQ];refine tN 12 rfl hS ?_;refine tN 13 rfl hS ?_;refine tN 14 rfl hS ?_;refine tN 15 rfl hS ?_;simp only[cQ];refine tN 16 rfl hS ?_;refine tN 17 rfl hS ?_;refine tN 18 rfl hS ?_;refine tN 19 rfl hS ?_;simp only[cQ];refine tN 20 rfl hS ?_;refine tN 21 rfl hS ?_;refine tN 22 rfl hS ?_;refine tN 23 rfl hS ?_;simp only[cQ];refine tI 24 rfl hS ?_;simp only[cQ];refine aF cK ?_ _;go_wp2_with fail
    go_meet
    case rel=>exact⟨rfl,hS⟩
   |false=>
   rw[oV] at hne jE;simp only[Bool.not_false,Bool.true_and] at jE hne;by_cases ho:y.os=(ns:Int)
   ·have t12:(y.os != (ns:Int))=false:=by simp[ho]
    rw[t12] at jE;simp only[Bool.false_or] at jE;subst jE;clear ho;refine tI 2 rfl hS ?_;simp only[cQ];refine iZ 3 rfl cK cK cK cO hS (fun w' hS'=>Cb rfl rfl rfl (by go_simp<;>rfl) (hne w' hS')) (fun _ _ _ h=>h) ?_;simp only[cQ];refine tI 4 rfl hS ?_;refine tI 5 rfl hS ?_;refine tI 6 rfl hS ?_;refine tJ 7 rfl hS g3 ?_;simp only[cQ];refine tI 8 rfl hS ?_;refine tI 9 rfl hS ?_;refine tI 10 rfl hS ?_;refine tJ 11 rfl hS f0 ?_;simp only[cQ];refine tI 12 rfl hS ?_;refine tI 13 rfl hS ?_;refine tI 14 rfl hS ?_;refine tI 15 rfl hS ?_;simp only[cQ];refine tI 16 rfl hS ?_;refine tJ 17 rfl hS f4 ?_;refine tI 18 rfl hS ?_;refine tI 19 rfl hS ?_;simp only[cQ];refine tJ 20 rfl hS g4 ?_;simp only[cQ];refine cI 21 rfl ?_;refine(HLV.out wd hS).mono ?_;rintro e w4 ⟨rfl,k,rfl⟩;have eM:=below_drewN hS k;refine⟨eM,?_⟩;simp only[cQ];refine tI 22 rfl eM ?_;refine tI 23 rfl eM ?_;refine tI 24 rfl eM ?_;simp only[cQ];refine aF cK ?_ _;go_wp2_with fail
    go_meet
    case rel=>exact⟨rfl,eM⟩
   have t12:(y.os != (ns:Int))=true:=by simpa using ho
   rw[t12] at jE;simp only[Bool.true_or] at jE;subst jE;clear ho;refine tI 2 rfl hS ?_;simp only[cQ];refine iZ 3 rfl cK cK cK cO hS (fun w' hS'=>Cb rfl rfl rfl (by go_simp<;>rfl) (hne w' hS')) (fun _ _ _ h=>h) ?_;simp only[cQ];refine tI 4 rfl hS ?_;refine tI 5 rfl hS ?_;refine tI 6 rfl hS ?_;refine tJ 7 rfl hS g3 ?_;simp only[cQ];refine tI 8 rfl hS ?_;refine tI 9 rfl hS ?_;refine tI 10 rfl hS ?_;refine tJ 11 rfl hS f0 ?_;simp only[cQ];refine tI 12 rfl hS ?_;refine tI 13 rfl hS ?_;refine tN 14 rfl hS ?_;refine tN 15 rfl hS ?_;simp only[cQ];refine tN 16 rfl hS ?_;refine tN 17 rfl hS ?_;refine tN 18 rfl hS ?_;refine tN 19 rfl hS ?_;simp only[cQ];refine tN 20 rfl hS ?_;refine tN 21 rfl hS ?_;refine tN 22 rfl hS ?_;refine tI 23 rfl hS ?_;simp only[cQ];refine tI 24 rfl hS ?_;simp only[cQ];refine aF cK ?_ _;go_wp2_with fail
   go_meet
   case rel=>exact⟨rfl,hS⟩
  case rest=>
  obtain⟨rfl,hbc⟩:=hcut;have uV:=cE hbc;clear jE hne;cases b5 with
  |true=>
   clear hbc;go_wp2
   go_ret
   obtain⟨h,hN,dz,hce,hD,hin,hxl⟩:=HH.out;have hb:=(dz.trans (H3.out.mono dz.size)).trans (uV.out.mono (af dz.size H3.out.size));have hw:m.write y=(m,nX 63):=by
    have h1:=VP.out.symm;rw[MY.out.2] at h1;unfold cS.write;rw[if_neg (by rw[←hce];simp),if_pos];cases hq:ia y.os y.on with
    |true=>rw[hq] at h1;simp at h1
    |false=>
    rw[hq] at h1;refine⟨rfl,?_⟩;by_cases ho:y.os=(m.site:Int)
    ·right
     simpa [ho] using h1
    exact .inl ho
   rw[hw];exact gJ (h.fS.below hb) (h.Ch.below hb) 63 (dm hb)
  |false=>
  obtain⟨h,hN,dz,hce,hD,hin,hxl⟩:=HH.out;obtain⟨BM,oV⟩:=MY.out;have eE:=dz.trans (H3.out.mono dz.size);obtain⟨R,hR⟩:=cG (oU m.dH y.op.path (y.parts.map (·.path)));have HAL:Hid (∀W,cF w3 W→aT prog 28 #[.slice A.ra nr A.rc,.agg #[.b V6,.s op,.slice oa on oc,.i ov,.bool os,.bool oe,.slice qa qn qc]] W fun e w'=>e=.returned (.tuple #[.i R.1,.i R.2])∧cF W w'):=cE (by
   have hq:qn=(y.parts.map (·.path)).length:=by rw[aS,←hD.like.1];exact hD.pn
   have hp:op=y.op.path:=hD.leaf.path;rw[hq,hp,hR,HNR.out];exact JG BM.max A.ra A.rc m.dH (by have:=h.ok.rl;omega) (fun r hr=>by have:=h.ok.dH r hr;omega) BM.dH _ _ _ _ _ qa qc y.op.path (y.parts.map (·.path)) (by have:=h.US.op.path;omega) (by rw[aS];have:=h.US.pl;omega) (fun r hr=>by
    obtain⟨p,hp,rfl⟩:=bL.1 hr;have:=(h.US.parts p hp).path;omega) ((hD.rg).later eE))
  have Sc:=cE hR;have hnw:¬(ia y.os y.on=false∧(y.os≠(m.site:Int)∨m.live y.on=false)):=by
   have h1:=VP.out.symm;rw[oV] at h1;rintro⟨h2,h3⟩;rw[h2] at h1;rcases h3 with h3|h3
   ·simp[h3] at h1
   simp[h3] at h1
  have Wt:=cE hnw;clear h hN dz hce hD hin hxl BM oV eE hR hnw hbc;have hS:cF w3 wc.drew:=uV.out.drew;go_wp2_with fail
  refine(wpIn_wide (n:=0)).1 (fB (S:=fun w'=>cF w3 w') (c:=11) ?_);refine fJ 0 hS ?_;simp only[cQ];refine fJ 1 hS ?_;simp only[cQ];refine fJ 2 hS ?_;simp only[cQ];refine fI 3 rfl hS (fun w' hS'=>by have:=f1 w' hS';go_simp<;>rfl) ?_;simp only[cQ];refine fJ 4 hS ?_;simp only[cQ];refine fI 5 rfl hS (fun w' hS'=>pJ 35 (.tmp 49) rfl w.heap.size 5 rfl _ _ (yo w' (nN w' hS')) underlying35 rfl qP.out) ?_;simp only[cQ];refine fK 6 rfl fun K' gp=>?_
  gi_wp2_with fail
  refine⟨trivial,rfl,(aA.2 (HAL.out wc.drew hS)).mono ?_⟩;rintro e w5 ⟨rfl,jE⟩;have oP:=hS.trans (jE.mono hS.size);have Sb:=cE oP;clear jE hS;refine gp _ _ oP ?_;clear gp;refine fJ 7 oP ?_;simp only[cQ];refine fJ 8 oP ?_;simp only[cQ];refine fJ 9 oP ?_;simp only[cQ];refine fJ 10 oP ?_;simp only[cQ];refine fC 11 rfl fun K' gp=>?_
  gi_wp2
  refine fD ?_ cK _;obtain⟨R1,R2⟩:=R;dsimp only;by_cases RX:R2=0
  ·subst RX
   obtain⟨h,hN,dz,hce,hD,hin,hxl⟩:=HH.out;have hb:=(dz.trans (H3.out.mono dz.size)).trans (Sb.out.mono (af dz.size H3.out.size));have hr2:(jH m.dH (if y.parts.map (·.path)=[] then [y.op.path] else y.parts.map (·.path))).2=0:=by
    have:(oU m.dH y.op.path (y.parts.map (·.path))).2=0:=by rw[←Sc.out]
    exact this
   have kH:R1=(jH m.dH (if y.parts.map (·.path)=[] then [y.op.path] else y.parts.map (·.path))).1:=by
    have:(oU m.dH y.op.path (y.parts.map (·.path))).1=R1:=by rw[←Sc.out]
    exact this.symm
   obtain⟨q1,q2⟩:=cS.Fe hr2;rw[←kH] at q1 q2;obtain⟨r,rfl⟩:∃r:Nat,R1=r:=⟨R1.toNat,by omega⟩;have hw:m.write y=m.asked r ⟨y.op,y.parts⟩ ⟨y.os,y.on⟩:=by
    have e1:oU m.dH y.op.path (y.parts.map (·.path))=((r:Int),0):=Sc.out.symm;unfold cS.write;rw[if_neg (by rw[←hce];simp),if_neg Wt.out,e1,if_neg cN];rfl
   have HAS:=cE ((Fb (h.fS.below hb) h.ok hN (r:=r) cL (by have:=hin.below hb;rw[←hce] at this;exact this) (cS.EZ h.US hce.symm) (who:=⟨y.os,y.on⟩) ⟨h.US.os,by have:=h.US.on;exact⟨by show(0:Int)≤(y.on:Int);omega,by show(y.on:Int)<_;omega⟩⟩ (h.Ch.below hb) h.X (af h.hB hb.size)).mono fun _ _ h=>h.1);unfold cV.val cV.cells CQ at HAS;dsimp only at HAS;have HKB:Hid (Kept (fun b=>A.Z b∨b=db) w w5):=cE (dm hb);have HWQ:=cE hw;have yo5:=yo w5 (nN w5 Sb.out);have ys5:=ys w5 (nN w5 Sb.out);have HY5:=cE (cD yo5 ys5);clear h hN dz hce hD hin hxl hb hr2 kH q1 q2 hw oP yo5 ys5;go_wp2_with (first
    |(refine aL rfl 35 (.tmp 60) rfl w.heap.size 5 rfl [.b V6,.s op,.slice oa on oc,.i ov,.bool os,.bool oe,.slice qa qn qc] _ HY5.out.1 underlying35 rfl qP.out ?_)
    |(refine aL rfl 31 (.tmp 62) rfl w.heap.size 3 rfl [.i y.os,.u (y.on:Int)] _ HY5.out.2 underlying31 rfl rX.out ?_)
    |fail)
   refine HAS.out.mono ?_;rintro e w6 he;have aki:=he.ret;obtain⟨c,e0,Rq,rq,Lq,rfl,_⟩:=aki;have HE:=cE he;clear he;go_wp2
   go_ret
   rw[HWQ.out];exact HE.out.from HKB.out
  have t55:(R2 != 0)=true:=by simpa using RX
  have HR2:=cE RX;clear RX;go_wp2
  go_ret
  obtain⟨h,hN,dz,hce,hD,hin,hxl⟩:=HH.out;have hb:=(dz.trans (H3.out.mono dz.size)).trans (Sb.out.mono (af dz.size H3.out.size));have hw:m.write y=(m,nX R2):=by
   have hr:(oU m.dH y.op.path (y.parts.map (·.path))).2=R2:=by rw[←Sc.out]
   unfold cS.write;rw[if_neg (by rw[←hce];simp),if_neg Wt.out,if_pos (by rw[hr];exact HR2.out),hr]
  rw[hw];exact gJ (h.fS.below hb) (h.Ch.below hb) R2 (dm hb)
 have t6:(ce != 0)=true:=by simpa using hc0
 have HC0:=cE hc0;clear hc0 Df;go_wp2
 go_ret
 obtain⟨h,hN,dz,hce,hD,hin,hxl⟩:=HH.out;have hw:m.write y=(m,nX ce):=by unfold cS.write;rw[if_pos (by rw[←hce];exact HC0.out),←hce]
 rw[hw];have hb:=dz.trans (H3.out.mono dz.size);exact gJ (h.fS.below hb) (h.Ch.below hb) ce (dm hb)
end
theorem acy(x:gK)(s n:Nat):chB x s n=!cS.oM x s n:=by
 have e:∀a b:Bool,(a==b)=!(a != b):=by decide
 have h1:decide (x.ew<0)=!decide (0≤x.ew):=by by_cases h:x.ew<0<;>simp[h]<;>omega
 have h2:decide ((s:Int)≤x.ew)=!decide (x.ew<(s:Int)):=by by_cases h:x.ew<(s:Int)<;>simp[h]<;>omega
 have h3:decide (x.seq<1)=!decide (1≤x.seq):=by by_cases h:x.seq<1<;>simp[h]<;>omega
 have h4:decide ((x.stamp.length:Int)≠(s:Int))=!decide (x.stamp.length=s):=by by_cases h:x.stamp.length=s<;>simp[h]<;>omega
 have h5:decide (x.stamp.getD x.ew.toNat 0≠x.seq - 1)=!decide (x.stamp.getD x.ew.toNat 0=x.seq - 1):=by simp
 unfold chB cS.oM;rw[h1,h2,h3,h4,h5,e];have h6:(wrB x n != clB x)=((decide (0≤x.dK)&&decide (x.dK<(n:Int))&&decide (0<x.ep)&&decide (x.cl=0)&&decide (x.dB≠[])) != (decide (x.dK=-1)&&decide (x.ep=0)&&decide (0<x.cl)&&decide (x.dB=[]))):=by
  have e1:decide (x.dB≠[])=decide (0<x.dB.length):=by cases x.dB<;>simp
  have e2:decide (x.dB=[])=decide (x.dB.length=0):=by cases x.dB<;>simp
  rw[e1,e2];rfl
 rw[h6];generalize ((decide (0≤x.dK)&&decide (x.dK<(n:Int))&&decide (0<x.ep)&&decide (x.cl=0)&&decide (x.dB≠[])) != (decide (x.dK=-1)&&decide (x.ep=0)&&decide (0<x.cl)&&decide (x.dB=[])))=q6;generalize decide (0≤x.ew)=q1;generalize decide (x.ew<(s:Int))=q2;generalize decide (1≤x.seq)=q3;generalize decide (x.stamp.length=s)=q4;generalize decide (x.stamp.getD x.ew.toNat 0=x.seq - 1)=q5
 revert q1 q2 q3 q4 q5 q6
 decide
theorem LC{x:gK}{s n:Nat}(h:cS.oM x s n=true)(hc:x.cl=0):0≤x.dK∧x.dK<(n:Int):=by
 unfold cS.oM at h;simp only[bu] at h;have h4:=h.2;rw[decide_eq_false (show¬(0<x.cl) by omega)] at h4;simp only[Bool.and_false,Bool.false_and,Bool.bne_false,bu,decide_eq_true_eq] at h4;exact⟨h4.1.1.1.1,h4.1.1.1.2⟩
theorem LD{x:gK}{s n:Nat}(h:cS.oM x s n=true):0≤x.ew∧x.ew<(s:Int)∧x.stamp.getD x.ew.toNat 0=x.seq - 1:=by
 unfold cS.oM at h;simp only[bu,decide_eq_true_eq] at h;exact⟨h.1.1.1.1.1,h.1.1.1.1.2,h.1.2⟩
theorem cS.Fv(m:cS)(r:Nat):m.dV r (m.at_ r,m.nodes r)=m:=by
 unfold cS.dV cS.at_ cS.nodes;have:m.trees.set r ((m.trees.getD r (0,[])).1,(m.trees.getD r (0,[])).2)=m.trees:=by
  refine List.ext_getElem? (fun k=>?_);rw[List.getElem?_set];split
  ·rename_i e
   subst e;split
   ·rename_i h
    simp[List.getD,ag h]
   rename_i h
   rw[List.getElem?_eq_none (Nat.le_of_not_lt h)]
  rfl
 rw[this]
theorem OZ{w0 w:an}{A:MA}{m:cS}{N:Nat}(h:cU w0 w A m)(ok:m.Ok N)(hN:N≤1000000){r tb:Nat}(htb:A.tb[r]?=some tb){x:gK}(hx:Dq x){i:dS}{Ei:List cZ}{lo:Nat→Prop}(hI:eu w lo i Ei x):
  aT prog 249 #[.p tb,.slice i.ea x.dB.length i.ec] w fun e w'=>e=.returned (.i (dM (m.root r) (m.nodes r) x.dB).1)∧cU w0 w' A (if (dM (m.root r) (m.nodes r) x.dB).1=0 then m.dV r (m.at_ r+1,(dM (m.root r) (m.nodes r) x.dB).2) else m)∧Kept (·=tb) w w':=by
 have hrl:r<m.dH.length:=by rw[←ok.tl,←h.tl];exact(aa.1 htb).1
 have ha:=ok.ats r hrl;have hlen:Ei.length=x.dB.length:=hI.like.1;have h16:=hx.dB.1;have:=jx.apply (h.tr r tb htb).1 (h.nO.tr r tb htb) h.nO.lt ha.1 cL i.ea i.ec Ei x.dB hI.like hI.row (fun e he=>(hx.dB.2 e he).fit) cL;rw[hlen] at this;refine this.mono ?_;rintro e w' ⟨rfl,⟨hT,hF⟩,hk⟩;refine⟨rfl,?_,hk⟩;have hne:nG (m.root r) (m.nodes r) x.dB≠[]:=by
  have:m.root r∈(nG (m.root r) (m.nodes r) x.dB).map (·.1):=by
   unfold nG;split
   ·exact((ok.tree r hrl).all hx.dB.2).inv.has
   exact(ok.tree r hrl).inv.has
  intro e;rw[e] at this;cases this
 have hM:=h.dV (t:=(atA (m.root r) (m.at_ r) (m.nodes r) x.dB,nG (m.root r) (m.nodes r) x.dB)) htb hk hT hF hne;unfold atA nG at hM;by_cases h0:(dM (m.root r) (m.nodes r) x.dB).1=0
 ·simp only[if_pos h0] at hM⊢
  exact hM
 simp only[if_neg h0] at hM⊢
 rwa [cS.Fv] at hM
theorem FY{w w':an}{B db:Nat}{S:Nat→Prop}{i:dS}{Ei:List cZ}{x:gK}(h:eu w (fun b=>B≤b∧(b<db∨x.dB=[])) i Ei x)(hs:dr w (fun b=>B≤b∧b<db) i.sa x.stamp)(hk:Kept S w w')(hS:∀b,B≤b→b<db→¬S b):eu w' (fun b=>B≤b) i Ei x:=by
 by_cases he:x.dB=[]
 ·refine⟨(hs.kept hk (fun b hb _=>hS b hb.1 hb.2)).mono (fun b _ hb=>hb.1),⟨h.like.1,fun k r e h1 h2=>by rw[he] at h2;simp at h2⟩,fun k q hq=>?_,fun ad e=>(h.new ad e).1⟩
  have e0:=h.like.1;rw[he] at e0;rw[aP e0] at hq;simp at hq
 have h':eu w (fun b=>B≤b∧b<db) i Ei x:=h.mono (fun b hb=>⟨hb.1,hb.2.resolve_right he⟩);exact(h'.Ev hk (fun b hb _=>hS b hb.1 hb.2)).mono (fun b hb=>hb.1)
def vE(m:cS)(x:gK):cS:=if m.takes x=true∧x.cl=0 then m.dV x.dK.toNat (m.at_ x.dK.toNat+1,(dM (m.root x.dK.toNat) (m.nodes x.dK.toNat) x.dB).2) else m
def YK(w0 w2:an)(A:MA)(m:cS)(x:gK)(v:aE)(wc:an):Prop:=v=.bool (!m.takes x)∧cU w0 wc A (vE m x)∧Kept (fun b=>b∈A.tb) w2 wc
section
variable{B:Nat}{w0 w:World}{A:MA}{m:cS}{N db:Nat}{y:fR}{E:List Value}
theorem vD{x:gK}(h:m.takes x=false):vE m x=m:=by unfold vE;rw[if_neg (by rw[h];simp)]
theorem Kz(h:CD B w0 w A m N db y E):aT prog 172 #[.p A.mb,.p db] w (iq B w0 w A db E (m.take y.dY)):=by
 obtain⟨o,L,i,Ei,fa,fc,hE,hD⟩:=h.cells;have hm:=h.fS;obtain⟨x,hx⟩:=cG y.dY;have ahi:Hid (w.rangeAt db 12 (cT x i)):=cE (fun j u hu=>by
  have hj:j<7:=(aa.1 hu).1;refine(h.Ch.tT (12+j) cL).trans ?_;rw[hE,hx] at*;rcases(show j=0∨j=1∨j=2∨j=3∨j=4∨j=5∨j=6 by omega) with rfl|rfl|rfl|rfl|rfl|rfl|rfl<;>exact hu)
 obtain⟨ns,oV⟩:∃n,n=x.stamp.length:=⟨_,rfl⟩;obtain⟨ne,hne⟩:∃n,n=x.dB.length:=⟨_,rfl⟩;have hit:cT x i=[.i x.ew,.v (x.seq:Int),.i x.dK,.v (x.ep:Int),.slice i.sa ns i.sc,.slice i.ea ne i.ec,.u (x.cl:Int)]:=by unfold cT;rw[oV,hne]
 rw[hit] at ahi;obtain⟨w2,eS⟩:=cG (w.alloc (.cells #[.i x.ew,.v (x.seq:Int),.i x.dK,.v (x.ep:Int),.slice i.sa ns i.sc,.slice i.ea ne i.ec,.u (x.cl:Int)] 40));have dz:cF w w2:=by rw[eS];exact cR (ah _ w) _
 have k2:w2.heap[w.heap.size]?=some (.cells #[.i x.ew,.v (x.seq:Int),.i x.dK,.v (x.ep:Int),.slice i.sa ns i.sc,.slice i.ea ne i.ec,.u (x.cl:Int)] 40 (0,0)):=by rw[eS];exact aN w _
 have hxl:=aB k2;have h2:=hm.below dz;have Zr:∀b∈A.tb,b≠w.heap.size∧b<w.heap.size:=fun b hb=>by have:=hm.Dx (A.zt hb);exact⟨by omega,this⟩
 have eY:Hid (cH 40 7):=cE cK;have hap:=h2.apart;have km:∀w',Kept (fun b=>b∈A.tb) w2 w'→∀k,w'.cell? ⟨A.mb,k,none⟩=w2.cell? ⟨A.mb,k,none⟩:=fun w' hk k=>hk.cell (p:=⟨A.mb,k,none⟩) (aB h2.blk) (fun e=>(hap.t _ e).1 rfl)
 obtain⟨nsi,C9⟩:∃n,n=m.site:=⟨_,rfl⟩;obtain⟨nr,J5⟩:∃n,n=m.dH.length:=⟨_,rfl⟩;obtain⟨nt,hnt⟩:∃n,n=m.trees.length:=⟨_,rfl⟩;obtain⟨nv,uA⟩:∃n,n=m.v.length:=⟨_,rfl⟩;have f0:∀w',Kept (fun b=>b∈A.tb) w2 w'→w'.cell? ⟨A.mb,0,none⟩=some (.i (nsi:Int)):=fun w' hk=>(km w' hk 0).trans (h2.cells.1.trans (by rw[C9]))
 have f1:∀w',Kept (fun b=>b∈A.tb) w2 w'→w'.cell? ⟨A.mb,1,none⟩=some (.slice A.ra nr A.rc):=fun w' hk=>(km w' hk 1).trans (h2.cells.2.1.trans (by rw[J5]))
 have f2:∀w',Kept (fun b=>b∈A.tb) w2 w'→w'.cell? ⟨A.mb,2,none⟩=some (.slice A.ta nt A.tc):=fun w' hk=>(km w' hk 2).trans (h2.cells.2.2.1.trans (by rw[hnt]))
 have f5:∀w',Kept (fun b=>b∈A.tb) w2 w'→w'.cell? ⟨A.mb,5,none⟩=some (.slice A.va nv A.vc):=fun w' hk=>(km w' hk 5).trans (h2.cells.2.2.2.2.2.1.trans (by rw[uA]))
 have gI:∀w',Kept (fun b=>b∈A.tb) w2 w'→w'.rangeAt w.heap.size 0 [.i x.ew,.v (x.seq:Int),.i x.dK,.v (x.ep:Int),.slice i.sa ns i.sc,.slice i.ea ne i.ec,.u (x.cl:Int)]:=fun w' hk=>dD (hk.same k2 (fun e=>(Zr _ e).1 rfl))
 have g0:∀w',Kept (fun b=>b∈A.tb) w2 w'→w'.cell? ⟨w.heap.size,0,none⟩=some (.i x.ew):=fun w' hk=>gI w' hk 0 _ rfl
 have g2:∀w',Kept (fun b=>b∈A.tb) w2 w'→w'.cell? ⟨w.heap.size,2,none⟩=some (.i x.dK):=fun w' hk=>gI w' hk 2 _ rfl
 have g5:∀w',Kept (fun b=>b∈A.tb) w2 w'→w'.cell? ⟨w.heap.size,5,none⟩=some (.slice i.ea ne i.ec):=fun w' hk=>gI w' hk 5 _ rfl
 have g6:∀w',Kept (fun b=>b∈A.tb) w2 w'→w'.cell? ⟨w.heap.size,6,none⟩=some (.u (x.cl:Int)):=fun w' hk=>gI w' hk 6 _ rfl
 have Od:=hD.dY.below dz;rw[←hx] at Od;have amw:Hid (dr w (fun b=>B≤b∧b<db) i.sa x.stamp):=cE (by rw[hx];exact h.nO o i fa fc hE);have J3:Dq x:=by rw[hx];exact h.US.dY
 obtain⟨c1,hc1⟩:∃c,c=cS.oM x m.v.length m.dH.length:=⟨_,rfl⟩;obtain⟨k1,hk1⟩:∃k:Int,k=if c1 then 0 else 1:=⟨_,rfl⟩
 have HCH:Hid (∀W,cF w2 W→aT prog 27 #[.agg #[.i x.ew,.v (x.seq:Int),.i x.dK,.v (x.ep:Int),.slice i.sa ns i.sc,.slice i.ea ne i.ec,.u (x.cl:Int)],.i (nv:Int),.i (nr:Int)] W fun e w'=>e=.returned (.i k1)∧cF W w'):=cE (fun W hW=>by
  have:=G1 W x i m.v.length (m.dH.length:Int) _ (Od.below hW).stamp J3.seq (by have:=J3.stamp.1;omega);rw[acy,←hc1] at this;unfold eN at this;rw[hit,←uA,←J5] at this;rw[hk1];cases c1<;>exact this)
 obtain⟨c3,hc3⟩:∃c,c=cS.ready x m.v:=⟨_,rfl⟩;have OJ:Hid (∀W,cF w2 W→aT prog 248 #[.agg #[.i x.ew,.v (x.seq:Int),.i x.dK,.v (x.ep:Int),.slice i.sa ns i.sc,.slice i.ea ne i.ec,.u (x.cl:Int)],.slice A.va nv A.vc] W fun e w'=>e=.returned (.bool c3)∧cF W w'):=cE (fun W hW=>by
  have:=G0 W x i A.va A.vc m.v _ _ (Od.below hW).stamp (h2.below hW).data.v J3.seq (by have:=J3.stamp.1;omega) (by have:=h.ok.vl;omega);unfold eN at this;rw[hit,←uA,show WX x m.v=cS.ready x m.v from rfl,←hc3] at this;exact this)
 obtain⟨ax,N9⟩:∃a,a=dM (m.root x.dK.toNat) (m.nodes x.dK.toNat) x.dB:=⟨_,rfl⟩;have HT:Hid (m.takes x=(c1&&!decide (x.ew=(nsi:Int))&&c3&&(decide (0<x.cl)||decide (ax.1=0)))):=cE (by unfold cS.takes;rw[←hc1,←hc3,←N9,C9]);have HH:=cE (cD h (cD h2 (cD dz (cD Od (cD J3 (cD hx (cD Zr (cD k2 (cD C9 (cD J5 (cD hnt (cD uA (cD oV (cD hne (cD N9 (cD hc1 hD))))))))))))))));have HW:=cE eS;have Wv:=cE hk1;clear hk1;rw[←hx];have hS0:cF w2 w2.drew:=(ah _ w2).drew;clear h hE hD hm hx oV hne hit eS dz k2 hxl h2 Zr hap km C9 J5 hnt uA Od J3 hc1 hc3 N9;go_enter func172,ntmps172
 go_wp2_with (first
  |(refine aL rfl 40 (.tmp 9) rfl db 12 rfl [.i x.ew,.v (x.seq:Int),.i x.dK,.v (x.ep:Int),.slice i.sa ns i.sc,.slice i.ea ne i.ec,.u (x.cl:Int)] _ ahi.out underlying40 rfl eY.out ?_)
  |fail)
 rw[←HW.out];go_cut [60] (fun v wc=>YK w0 w2 A m x v wc)
 case first=>
  refine wp_region_held_drew (S:=fun w'=>Kept (fun b=>b∈A.tb) w2 w') cK (dm hS0) (fun hS=>?_);generalize w2.drew=wd at hS hS0⊢;refine tL 0 rfl hS 40 (.tmp 5) w.heap.size 0 [.i x.ew,.v (x.seq:Int),.i x.dK,.v (x.ep:Int),.slice i.sa ns i.sc,.slice i.ea ne i.ec,.u (x.cl:Int)] gI underlying40 eY.out ?_;refine tI 1 rfl hS ?_;refine tI 2 rfl hS ?_;refine tI 3 rfl hS ?_;simp only[cQ];refine tJ 4 rfl hS f5 ?_;refine tI 5 rfl hS ?_;refine tI 6 rfl hS ?_;refine tI 7 rfl hS ?_;simp only[cQ];refine tI 8 rfl hS ?_;refine tJ 9 rfl hS f1 ?_;refine tI 10 rfl hS ?_;simp only[cQ];refine cI 11 rfl ?_;refine(HCH.out wd hS0).mono ?_;rintro e w3 ⟨rfl,eE⟩;have CN:=hS0.trans (eE.mono hS0.size);have dU:Kept (fun b=>b∈A.tb) w2 w3:=dm CN;refine⟨dU,?_⟩;clear eE;simp only[cQ];cases c1 with
  |false=>
   obtain rfl:k1=1:=Wv.out;clear Wv;refine tI 12 rfl dU ?_;refine tI 13 rfl dU ?_;refine tN 14 rfl dU ?_;refine tN 15 rfl dU ?_;simp only[cQ];refine tN 16 rfl dU ?_;refine tN 17 rfl dU ?_;refine tN 18 rfl dU ?_;refine tN 19 rfl dU ?_;simp only[cQ];refine tN 20 rfl dU ?_;refine tI 21 rfl dU ?_;refine tI 22 rfl dU ?_;refine tN 23 rfl dU ?_;simp only[cQ];refine tN 24 rfl dU ?_;refine tN 25 rfl dU ?_;refine tN 26 rfl dU ?_;refine tN 27 rfl dU ?_;simp only[cQ];refine tN 28 rfl dU ?_;refine tN 29 rfl dU ?_;refine tI 30 rfl dU ?_;refine tI 31 rfl dU ?_;simp only[cQ];refine tN 32 rfl dU ?_;refine tN 33 rfl dU ?_;refine tN 34 rfl dU ?_;refine tN 35 rfl dU ?_;simp only[cQ];refine tN 36 rfl dU ?_;refine tN 37 rfl dU ?_;refine tN 38 rfl dU ?_;refine tN 39 rfl dU ?_;simp only[cQ];refine tN 40 rfl dU ?_;refine tN 41 rfl dU ?_;refine tN 42 rfl dU ?_;refine tN 43 rfl dU ?_;simp only[cQ];refine tN 44 rfl dU ?_;refine tN 45 rfl dU ?_;refine tN 46 rfl dU ?_;refine tN 47 rfl dU ?_;simp only[cQ];refine tN 48 rfl dU ?_;refine tI 49 rfl dU ?_;simp only[cQ];refine aF cK ?_ _;go_wp2_with fail
   go_meet
   have ht:m.takes x=false:=by rw[HT.out];simp
   exact⟨by rw[ht];rfl,by rw[vD ht];exact HH.out.2.1.below CN,dU⟩
  |true=>
  obtain rfl:k1=0:=Wv.out;clear Wv;by_cases ho:x.ew=(nsi:Int)
  ·have t20:(x.ew==(nsi:Int))=true:=by simpa using ho
   have ht:m.takes x=false:=by rw[HT.out];simp[ho]
   clear ho;refine tI 12 rfl dU ?_;refine tI 13 rfl dU ?_;refine tI 14 rfl dU ?_;refine tJ 15 rfl dU g0 ?_;simp only[cQ];refine tI 16 rfl dU ?_;refine tI 17 rfl dU ?_;refine tI 18 rfl dU ?_;refine tJ 19 rfl dU f0 ?_;simp only[cQ];refine tI 20 rfl dU ?_;refine tI 21 rfl dU ?_;refine tI 22 rfl dU ?_;refine tN 23 rfl dU ?_;simp only[cQ];refine tN 24 rfl dU ?_;refine tN 25 rfl dU ?_;refine tN 26 rfl dU ?_;refine tN 27 rfl dU ?_;simp only[cQ];refine tN 28 rfl dU ?_;refine tN 29 rfl dU ?_;refine tI 30 rfl dU ?_;refine tI 31 rfl dU ?_;simp only[cQ];refine tN 32 rfl dU ?_;refine tN 33 rfl dU ?_;refine tN 34 rfl dU ?_;refine tN 35 rfl dU ?_;simp only[cQ];refine tN 36 rfl dU ?_;refine tN 37 rfl dU ?_;refine tN 38 rfl dU ?_;refine tN 39 rfl dU ?_;simp only[cQ];refine tN 40 rfl dU ?_;refine tN 41 rfl dU ?_;refine tN 42 rfl dU ?_;refine tN 43 rfl dU ?_;simp only[cQ];refine tN 44 rfl dU ?_;refine tN 45 rfl dU ?_;refine tN 46 rfl dU ?_;refine tN 47 rfl dU ?_;simp only[cQ];refine tN 48 rfl dU ?_;refine tI 49 rfl dU ?_;simp only[cQ];refine aF cK ?_ _;go_wp2_with fail
   go_meet
   case rel=>exact⟨by rw[ht];rfl,by rw[vD ht];exact HH.out.2.1.below CN,dU⟩
  have t20:(x.ew==(nsi:Int))=false:=by simpa using ho
  have HO:=cE ho;clear ho;refine tI 12 rfl dU ?_;refine tI 13 rfl dU ?_;refine tI 14 rfl dU ?_;refine tJ 15 rfl dU g0 ?_;simp only[cQ];refine tI 16 rfl dU ?_;refine tI 17 rfl dU ?_;refine tI 18 rfl dU ?_;refine tJ 19 rfl dU f0 ?_;simp only[cQ];refine tI 20 rfl dU ?_;refine tI 21 rfl dU ?_;refine tI 22 rfl dU ?_;refine tL 23 rfl dU 40 (.tmp 5) w.heap.size 0 [.i x.ew,.v (x.seq:Int),.i x.dK,.v (x.ep:Int),.slice i.sa ns i.sc,.slice i.ea ne i.ec,.u (x.cl:Int)] gI underlying40 eY.out ?_;simp only[cQ];refine tI 24 rfl dU ?_;refine tI 25 rfl dU ?_;refine tI 26 rfl dU ?_;refine tJ 27 rfl dU f5 ?_;simp only[cQ];refine cI 28 rfl ?_;refine(OJ.out w3 CN).mono ?_;rintro e w4 ⟨rfl,hb4⟩;have hB4:=CN.trans (hb4.mono CN.size);have eM:Kept (fun b=>b∈A.tb) w2 w4:=dm hB4;refine⟨eM,?_⟩;clear hb4 CN dU;simp only[cQ];cases c3 with
  |false=>
   refine tI 29 rfl eM ?_;refine tI 30 rfl eM ?_;refine tI 31 rfl eM ?_;refine tN 32 rfl eM ?_;simp only[cQ];refine tN 33 rfl eM ?_;refine tN 34 rfl eM ?_;refine tN 35 rfl eM ?_;refine tN 36 rfl eM ?_;simp only[cQ];refine tN 37 rfl eM ?_;refine tN 38 rfl eM ?_;refine tN 39 rfl eM ?_;refine tN 40 rfl eM ?_;simp only[cQ];refine tN 41 rfl eM ?_;refine tN 42 rfl eM ?_;refine tN 43 rfl eM ?_;refine tN 44 rfl eM ?_;simp only[cQ];refine tN 45 rfl eM ?_;refine tN 46 rfl eM ?_;refine tN 47 rfl eM ?_;refine tN 48 rfl eM ?_;simp only[cQ];refine tI 49 rfl eM ?_;simp only[cQ];refine aF cK ?_ _;go_wp2_with fail
   go_meet
   have ht:m.takes x=false:=by rw[HT.out];simp
   exact⟨by rw[ht];rfl,by rw[vD ht];exact HH.out.2.1.below hB4,eM⟩
  |true=>
  by_cases hcl:x.cl=0
  ·have mX:∃r tb tg nh,x.dK=((r:Nat):Int)∧A.tb[r]?=some tb∧A.ta=some ⟨tg,nh,none⟩∧(r:Int)<(nt:Int)∧(∀w',Kept (fun b=>b∈A.tb) w2 w'→w'.cell? ⟨tg,nh+r,none⟩=some (.p tb))∧m.takes x=decide (ax.1=0)∧aT prog 249 #[.p tb,.slice i.ea ne i.ec] w4 fun e w'=>e=.returned (.i ax.1)∧cU w0 w' A (vE m x)∧Kept (fun b=>b∈A.tb) w4 w':=by
    obtain⟨h,h2,dz,Od,J3,hx,Zr,k2,C9,J5,hnt,uA,oV,hne,N9,hc1,hD⟩:=HH.out;have akj:=LC hc1.symm hcl;obtain⟨r,hr⟩:∃r:Nat,x.dK=(r:Int):=⟨x.dK.toNat,by omega⟩;have hrl:r<m.dH.length:=by omega
    have hrt:x.dK.toNat=r:=by omega
    obtain⟨tb,htb⟩:∃b,A.tb[r]?=some b:=⟨_,ag (by rw[h2.tl,h.ok.tl];exact hrl)⟩;obtain⟨tg,nh,CG,htl,htlt,htc⟩:=h2.data.row r tb htb;have QE:m.takes x=decide (ax.1=0):=by rw[HT.out,hcl];simp[HO.out]
    refine⟨r,tb,tg,nh,hr,htb,CG,by rw[hnt,h.ok.tl];omega,fun w' hk=>(hk.cell (p:=⟨tg,nh+r,none⟩) htlt (fun e=>htl.1 (A.zt e))).trans htc,QE,?_⟩;have:=OZ (h2.below hB4) h.ok h.hN htb J3 (Od.below hB4);rw[←hne] at this;rw[hrt] at N9;rw[←N9] at this;refine this.mono ?_;rintro e w' ⟨e1,hM,hk⟩;refine⟨e1,?_,hk.mono (fun b _ e=>by have e:b=tb:=e;exact e▸aC htb)⟩;unfold vE;rw[QE,hrt,←N9];by_cases h0:ax.1=0
    ·rw[if_pos ⟨by simpa using h0,hcl⟩]
     rwa [if_pos h0] at hM
    rw[if_neg (fun e=>h0 (by simpa using e.1))]
    rwa [if_neg h0] at hM
   obtain⟨r,tb,tg,nh,hr,htb,CG,XY,ftr,QE,ahS⟩:=mX;have Sd:=cE ahS;have f2r:∀w',Kept (fun b=>b∈A.tb) w2 w'→w'.cell? ⟨A.mb,2,none⟩=some (.slice (some ⟨tg,nh,none⟩) nt A.tc):=fun w' hk=>by rw[←CG];exact f2 w' hk
   have g2r:∀w',Kept (fun b=>b∈A.tb) w2 w'→w'.cell? ⟨w.heap.size,2,none⟩=some (.i (r:Int)):=fun w' hk=>by rw[←hr];exact g2 w' hk
   have t34:((x.cl:Int)==0)=true:=by simpa using hcl
   have Jb:(0:Int)≤(r:Int):=by omega
   have akh:r<nt:=by omega
   obtain⟨a0,ha0⟩:∃a,a=ax.1:=⟨_,rfl⟩;rw[←ha0] at Sd QE;have HTK:=cE QE;clear QE ha0 ahS CG htb hcl f2 g2 hr;refine tI 29 rfl eM ?_;refine tI 30 rfl eM ?_;refine tI 31 rfl eM ?_;refine tI 32 rfl eM ?_;simp only[cQ];refine tJ 33 rfl eM g6 ?_;refine tI 34 rfl eM ?_;refine tI 35 rfl eM ?_;refine tI 36 rfl eM ?_;simp only[cQ];refine tI 37 rfl eM ?_;refine tI 38 rfl eM ?_;refine tJ 39 rfl eM f2r ?_;refine tI 40 rfl eM ?_;simp only[cQ];refine tJ 41 rfl eM g2r ?_;refine tI 42 rfl eM ?_;refine tJ 43 rfl eM ftr ?_;refine tI 44 rfl eM ?_;simp only[cQ];refine tJ 45 rfl eM g5 ?_;simp only[cQ];refine cI 46 rfl ?_;refine Sd.out.mono ?_;rintro e w5 ⟨rfl,hM5,hk5⟩;have oP:=eM.trans hk5;have RE:=cE hM5;refine⟨oP,?_⟩;clear hM5 hk5;simp only[cQ];by_cases h0:a0=0
   ·subst h0
    refine tI 47 rfl oP ?_;refine tI 48 rfl oP ?_;refine tI 49 rfl oP ?_;simp only[cQ];refine aF cK ?_ _;go_wp2_with fail
    go_meet
    case rel=>exact⟨by rw[HTK.out];rfl,RE.out,oP⟩
   have t47:(a0 != 0)=true:=by simpa using h0
   have H0:=cE h0;clear h0;refine tI 47 rfl oP ?_;refine tI 48 rfl oP ?_;refine tI 49 rfl oP ?_;simp only[cQ];refine aF cK ?_ _;go_wp2_with fail
   go_meet
   case rel=>exact⟨by rw[HTK.out,decide_eq_false H0.out];rfl,RE.out,oP⟩
  have t34:((x.cl:Int)==0)=false:=by simpa using hcl
  have ht:m.takes x=true:=by rw[HT.out];simp[HO.out];omega
  have akR:=cE hcl;clear hcl;refine tI 29 rfl eM ?_;refine tI 30 rfl eM ?_;refine tI 31 rfl eM ?_;refine tI 32 rfl eM ?_;simp only[cQ];refine tJ 33 rfl eM g6 ?_;refine tI 34 rfl eM ?_;refine tI 35 rfl eM ?_;refine tN 36 rfl eM ?_;simp only[cQ];refine tN 37 rfl eM ?_;refine tN 38 rfl eM ?_;refine tN 39 rfl eM ?_;refine tN 40 rfl eM ?_;simp only[cQ];refine tN 41 rfl eM ?_;refine tN 42 rfl eM ?_;refine tN 43 rfl eM ?_;refine tN 44 rfl eM ?_;simp only[cQ];refine tN 45 rfl eM ?_;refine tN 46 rfl eM ?_;refine tN 47 rfl eM ?_;refine tI 48 rfl eM ?_;simp only[cQ];refine tI 49 rfl eM ?_;simp only[cQ];refine aF cK ?_ _;go_wp2_with fail
  go_meet
  case rel=>exact⟨by rw[ht];rfl,by unfold vE;rw[if_neg (fun e=>akR.out e.2)];exact HH.out.2.1.below hB4,eM⟩
 case rest=>
 obtain⟨rfl,RY,CJ⟩:=hcut;obtain⟨b,hb⟩:=cG (m.takes x);rw[←hb];have HB:=cE hb;have HMC:=cE (cD RY CJ);clear hb;cases b with
 |false=>
  clear RY CJ;go_wp2
  go_ret
  have e1:m.take x=(m,nX 62):=by unfold cS.take;rw[if_pos HB.out.symm]
  rw[e1];obtain⟨RY,CJ⟩:=HMC.out;rw[vD HB.out.symm] at RY;obtain⟨h,h2,dz,_⟩:=HH.out;exact gJ (B:=B) RY ((h.Ch.below dz).kept CJ (fun e=>(h.fS.xz db h.X).1 (A.zt e))) 62 ((dm dz).trans (CJ.mono (fun b _ e=>.inl (A.zt e))))
 |true=>
 obtain⟨m1,Ab⟩:∃a,a=(if 0<x.cl then m.jq (x.ew,x.cl) else m.dV x.dK.toNat (m.at_ x.dK.toNat+1,(dM (m.root x.dK.toNat) (m.nodes x.dK.toNat) x.dB).2)):=⟨_,rfl⟩;have RF:=cE Ab;have HOG:Hid (0≤x.ew∧x.ew<(m.v.length:Int)∧x.ew≠(m.site:Int)):=cE (by
  have ht:=HB.out;rw[HT.out] at ht;have h1:c1=true:=by cases c1 with|true=>rfl|false=>simp at ht
  have h2:decide (x.ew=(nsi:Int))=false:=by
   cases hd:decide (x.ew=(nsi:Int)) with
   |false=>rfl
   |true=>rw[hd,h1] at ht;simp at ht
  obtain⟨h,_,dz,Od,J3,hx,Zr,k2,C9,J5,hnt,uA,oV,hne,N9,hc1,hD⟩:=HH.out;rw[h1] at hc1;have:=LD hc1.symm;rw[C9] at h2;exact⟨this.1,this.2.1,of_decide_eq_false h2⟩)
 have q6:=g6 wc CJ;refine(Decidable.em (0<x.cl)).elim (fun hcl=>?pos) (fun hcl=>?neg)
 case' pos=>
  have t63:decide ((0:Int)<(x.cl:Int))=true:=by simpa using hcl
  rw[if_pos hcl] at Ab;have GF:Hid (cU w0 wc A m∧iM wc A.sb A.gb m.site m.last m.gone∧A.mb≠A.gb∧0<x.cl∧A.gb≠w.heap.size):=by
   have RY:=HMC.out.1;have e1:vE m x=m:=by unfold vE;rw[if_neg (fun e=>by omega)]
   rw[e1] at RY;have:=HH.out.1.fS.Dx A.zg;exact cE ⟨RY,RY.yR,RY.apart.ms.2.1,hcl,by omega⟩
  have f4:∀w',Kept (·=A.gb) wc w'→w'.cell? ⟨A.mb,4,none⟩=some (.p A.sb):=fun w' hk=>(hk.cell (p:=⟨A.mb,4,none⟩) (aB GF.out.1.blk) GF.out.2.2.1).trans GF.out.1.cells.2.2.2.2.1
  have gx:∀w',Kept (·=A.gb) wc w'→w'.rangeAt w.heap.size 0 [.i x.ew,.v (x.seq:Int),.i x.dK,.v (x.ep:Int),.slice i.sa ns i.sc,.slice i.ea ne i.ec,.u (x.cl:Int)]:=fun w' hk=>dD (hk.same (HMC.out.2.same HH.out.2.2.2.2.2.2.2.1 (fun e=>(HH.out.2.2.2.2.2.2.1 _ e).1 rfl)) (fun e=>GF.out.2.2.2.2 e.symm))
  have x0:∀w',Kept (·=A.gb) wc w'→w'.cell? ⟨w.heap.size,0,none⟩=some (.i x.ew):=fun w' hk=>gx w' hk 0 _ rfl
  have x6:∀w',Kept (·=A.gb) wc w'→w'.cell? ⟨w.heap.size,6,none⟩=some (.u (x.cl:Int)):=fun w' hk=>gx w' hk 6 _ rfl
  have HLE:Hid (∀W,cF wc W→aT prog 250 #[.p A.sb,.agg #[.i x.ew,.u (x.cl:Int)]] W fun e w'=>e=.returned (.tuple #[])∧cU w0 w' A m1∧Kept (·=A.gb) W w'):=cE (fun W hW=>by
   have Oa:=GF.out.1.below hW;have J3:=HH.out.2.2.2.2.1;refine(Qm A.sb A.gb m.site m.last m.gone x.ew (x.cl:Int) W Oa.yR ⟨by have:=J3.ew;omega,by have:=J3.ew;omega⟩ ⟨by omega,by have:=J3.cl;omega⟩ HOG.out.2.2 cL).mono ?_;rintro e w' ⟨e1,hs,hk⟩;refine⟨e1,?_,hk⟩;rw[Ab];exact Oa.KE hk (fun b e=>.inr e) hs)
  have hBd:cF wc wc.drew:=(ah _ wc).drew;have HC:=cE hcl;clear Ab hcl RY CJ f0 f1 f2 f5 g0 g2 g5 g6 gI hS0;go_wp2_with fail
  clear q6;refine wp_region_held_drew (S:=fun w'=>Kept (·=A.gb) wc w') cK (dm hBd) (fun hS=>?_);generalize wc.drew=wd at hS hBd⊢;refine tI 0 rfl hS ?_;refine tI 1 rfl hS ?_;refine tI 2 rfl hS ?_;refine tJ 3 rfl hS f4 ?_;simp only[cQ];refine tI 4 rfl hS ?_;refine tJ 5 rfl hS x0 ?_;refine tI 6 rfl hS ?_;refine tJ 7 rfl hS x6 ?_;simp only[cQ];refine tI 8 rfl hS ?_;simp only[cQ];refine cI 9 rfl ?_;refine(HLE.out wd hBd).mono ?_;rintro e wl ⟨rfl,hml,hkl⟩;have acd:=hS.trans hkl;refine⟨acd,?_⟩;have QT:Kept (fun b=>A.Z b) w2 wl:=(HMC.out.2.mono (fun b _ e=>A.zt e)).trans (acd.mono (fun b _ e=>by have e:b=A.gb:=e;exact e▸A.zg));have HL:=cE (cD hml QT);clear hml QT hkl hS hBd;simp only[cQ];refine aF cK ?_ _;clear acd f4 gx x0 x6 HLE GF HC t63;go_wp2_with fail
 case' neg=>
  have t63:¬(0<x.cl):=hcl;rw[if_neg hcl] at Ab;obtain⟨wl,hwl⟩:=cG wc;subst hwl;have HL:=cE (show cU w0 wl A m1∧Kept (fun b=>A.Z b) w2 wl from⟨by
   have h1:=HMC.out.1;unfold vE at h1;rw[if_pos ⟨HB.out.symm,by omega⟩] at h1;rw[Ab];exact h1,HMC.out.2.mono (fun b _ e=>A.zt e)⟩)
  clear Ab hcl RY CJ f0 f1 f2 f5 g0 g2 g5 g6 gI hS0;go_wp2_with fail
  clear q6 t63
 all_goals
  obtain⟨hml,QT⟩:=HL.out;obtain⟨h,h2,dz,Od,J3,hx,Zr,k2,C9,J5,hnt,uA,oV,hne,N9,hc1,hD⟩:=HH.out;have sZ:m1.v=m.v:=by rw[RF.out];split<;>rfl
  have kl:=QT.same k2 (fun e=>by have:=h.fS.Dx e;omega);have z5:∀w',cF wl w'→w'.cell? ⟨A.mb,5,none⟩=some (.slice A.va nv A.vc):=fun w' hb=>(hml.below hb).cells.2.2.2.2.2.1.trans (by rw[sZ,uA])
  have z0:∀w',cF wl w'→w'.cell? ⟨w.heap.size,0,none⟩=some (.i x.ew):=fun w' hb=>aG _ _ 0 _ 40 (0,0) ((hb.block _ (aB kl)).trans kl)
  have Az:Hid (∀W,cF wl W→aT prog 251 #[.slice A.va nv A.vc,.i x.ew] W (jI W (lE m.v x.ew.toNat))):=cE (fun W hW=>by
   have hog:=HOG.out;have LK:=(hml.below hW).data.v;rw[sZ] at LK;have:=NU W A.va A.vc _ m.v x.ew.toNat cL (by have:=h.ok.vl;omega) (by have:=cS.wO h.ok.vN x.ew.toNat;have:=h.hN;omega) LK
   rwa [show((x.ew.toNat:Nat):Int)=x.ew by omega,←uA] at this)
  have BN:(lE m.v x.ew.toNat).length=nv:=by rw[cS.pM,uA]
  have HN:=cE (cD sZ (cD kl BN));have hS:cF wl wl.drew:=(ah _ wl).drew;clear hml QT h h2 dz Od J3 hx Zr k2 C9 J5 hnt uA oV hne N9 hc1 hD sZ kl BN;refine(wpIn_wide (n:=0)).1 (fB (S:=fun w'=>cF wl w') (c:=10) ?_);refine fJ 0 hS ?_;simp only[cQ];refine fJ 1 hS ?_;simp only[cQ];refine fJ 2 hS ?_;simp only[cQ];refine fJ 3 hS ?_;simp only[cQ];refine fI 4 rfl hS (fun w' hS'=>by have:=z5 w' hS';go_simp<;>rfl) ?_;simp only[cQ];refine fJ 5 hS ?_;simp only[cQ];refine fI 6 rfl hS (fun w' hS'=>by have:=z0 w' hS';go_simp<;>rfl) ?_;simp only[cQ];refine fK 7 rfl fun K' gp=>?_
  gi_wp2_with fail
  refine⟨trivial,rfl,(aA.2 (Az.out wl.drew hS)).mono ?_⟩;rintro e w8 yt;obtain⟨a2,k2,rfl,_,yt,CI⟩:=yt.sl;have jL:cF wl w8:=hS.trans (CI.mono hS.size);have h9:=(HL.out.1.below jL).aej (a:=a2) (c:=k2) (V:=lE m.v x.ew.toNat) (yt.mono (fun b _ hb=>HL.out.1.NI (af hS.size hb)));rw[HN.out.2.2] at h9⊢;have Aa:=(HL.out.1.below jL).blk;have ab2:w8.cell? ⟨A.mb,5,none⟩=some (.slice A.va nv A.vc):=z5 w8 jL;have abW:w8.frozen? ⟨A.mb,5,none⟩=false:=by
   have Aa:w8.heap[A.mb]?=_:=Aa;simp[bF,Aa]
  obtain⟨w9,nL⟩:=cG (w8.setCell ⟨A.mb,5,none⟩ (.slice a2 nv k2));have Wn:Kept (·=A.mb) w8 w9:=by rw[nL];exact(Kept.refl (·=A.mb) w8).setCell (p:=⟨A.mb,5,none⟩) rfl _
  rw[←nL] at h9;have VB:=cE nL;have Ob:Kept (fun b=>A.Z b) w2 w9:=(HL.out.2.trans (dm jL)).trans (Wn.mono (fun b _ e=>by have e:b=A.mb:=e;exact e▸A.zm));have H9:=cE (cD h9 Ob);refine gp _ _ jL ?_;clear gp nL h9 Wn Aa yt CI Ob;refine fJ 8 jL ?_;simp only[cQ];refine fJ 9 jL ?_;simp only[cQ];refine fC 10 rfl fun K' gp=>?_
  gi_wp2_with fail
  rw[←VB.out];refine fD ?_ cK _;clear ab2 abW z0 z5 hS jL;have HD9:Hid (DB w9 db E zR zI):=cE (by
   obtain⟨h,h2,dz,_⟩:=HH.out;exact(h.Ch.below dz).kept H9.out.2 (fun e=>(h.fS.xz db h.X).1 e))
  have HIB:Hid (w9.rangeAt w.heap.size 0 [.i x.ew,.v (x.seq:Int),.i x.dK,.v (x.ep:Int),.slice i.sa ns i.sc,.slice i.ea ne i.ec,.u (x.cl:Int)]):=cE (by
   obtain⟨h,h2,dz,_,_,_,_,k2,_⟩:=HH.out;exact dD (H9.out.2.same k2 (fun e=>by have:=h.fS.Dx e;omega)))
  have zP:Hid (w9.there db 36 7):=cE (HD9.out.there 36 7 cM);have gu:Hid ((#[.i x.ew,.v (x.seq:Int),.i x.dK,.v (x.ep:Int),.slice i.sa ns i.sc,.slice i.ea ne i.ec,.u (x.cl:Int)]:Array aE).all (·.oneCell')=true):=cE (by simp[aq]);obtain⟨kq,yq⟩:=cG (w9.setCells db 36 [.i x.ew,.v (x.seq:Int),.i x.dK,.v (x.ep:Int),.slice i.sa ns i.sc,.slice i.ea ne i.ec,.u (x.cl:Int)]);have YR:=cE yq;clear yq;go_wp2_with (first
   |(refine aL rfl 40 (.tmp 5) rfl w.heap.size 0 rfl [.i x.ew,.v (x.seq:Int),.i x.dK,.v (x.ep:Int),.slice i.sa ns i.sc,.slice i.ea ne i.ec,.u (x.cl:Int)] _ HIB.out underlying40 rfl eY.out ?_)
   |(refine wpList_store_mid rfl 40 (.tmp 87) (.tmp 85) rfl db 36 #[.i x.ew,.v (x.seq:Int),.i x.dK,.v (x.ep:Int),.slice i.sa ns i.sc,.slice i.ea ne i.ec,.u (x.cl:Int)] rfl rfl zP.out eY.out gu.out ?_;rw[←YR.out])
   |fail)
  go_ret
  obtain⟨h,h2,dz,Od,J3,hx,Zr,k2,C9,J5,hnt,uA,oV,hne,N9,hc1,hD⟩:=HH.out;have hit:cT x i=[.i x.ew,.v (x.seq:Int),.i x.dK,.v (x.ep:Int),.slice i.sa ns i.sc,.slice i.ea ne i.ec,.u (x.cl:Int)]:=by unfold cT;rw[oV,hne]
  have yq:=YR.out;rw[←hit] at yq;obtain⟨agD,hU⟩:=HD9.out.ael (I':=cT x i) rfl (zf _ _);have h10:=H9.out.1.Nk (o:=36) (cs:=cT x i) HD9.out h.X hU;rw[←yq] at agD h10;have alg:Kept (·=db) w9 kq:=by rw[yq];exact ic w9 db 36 _
  have hall:Kept (fun b=>A.Z b∨b=db) w2 kq:=(H9.out.2.mono (fun b _ e=>.inl e)).trans (alg.mono (fun b _ e=>.inr e));have e1:m.take x=(m.DH x,⟨0,l5,[],x⟩):=by unfold cS.take;rw[if_neg (by rw[←HB.out];simp)]
  have e2:m.DH x={m1 with v:=lE m.v x.ew.toNat}:=by unfold cS.DH;rw[←RF.out]
  have alj:eu kq (fun b=>B≤b) i Ei x:=FY Od ((amw.out).below dz) hall (fun b de dz e=>by
   rcases e with e|e
   ·have:=h.zB b e;omega
   omega)
  rw[e1,e2];exact⟨⟨0,0,zR,i,Ei,rfl,agD,jP _ _ _,alj.mono (fun b hb=>⟨hb,h10.Bt (fun e=>by have:=h.zB b (A.zo e);have hb:B≤b:=hb;omega)⟩),rfl,fun h=>absurd rfl h⟩,⟨_,_,A.ov,A.C,h10,fun b e=>.inl e⟩,(dm dz).trans hall⟩
end
attribute [local go_sem] Oper.semAt_some
section
variable{F:Fence}{n:Nat}{P:Program}{ops:Array Oper}{Q:Exit→Act→World→Prop}{md:Region.Mode}{S:World→Prop}{c:Nat}
theorem AA{i:Nat}{oi:Oper}{v:aE}(LZ:c≠i)(hro:F.round=none∨∀(j:Nat) (o:Oper) c,ops[j]?=some o→o.op≠.defer c)(hi:ops[i]?=some oi)(hsel:∀(j:Nat) (o:Oper) cs b,ops[j]?=some o→o.op≠.select cs b)
  (hQ:∀c a w,Q (.panic c) (a.put oi.dst v) w→Q (.panic c) a w):
  ∀(fuel:Nat) (listed:Array Bool) (a:Act) (w:an),
   (∀j oj,ops[j]?=some oj→j≠i→listed.getD j true=false→(∀e∈oj.after,bJ md e=true→e.on≠i)→oi.apart ops oj=true)→
   i∈bH md ops listed→iX P ops (fun _=>True) oi v a→(listed.getD c true=false→S w)→
   eO F n P md ops Q S c fuel (listed.setIfInBounds i true) (a.put oi.dst v) w→eO F n P md ops Q S c (fuel+1) listed a w:=by
 intro fuel
 induction fuel with
 |zero=>
  intro listed a w _ hr hy hS H;refine⟨fun h=>(by rw[h] at hr;cases hr),fun j hj=>?_⟩;by_cases hji:j=i
  ·subst hji;exact hy.op (hro.imp_right fun h c=>h _ _ c hi) hi trivial ⟨fun hc=>hS (by rwa [bG true (aQ LZ)] at hc),H⟩
  have:=ready_mono hj hji;rw[H.1] at this;cases this
 |succ fuel ih=>
  intro listed a w hfree hr hy hS H;refine⟨fun h=>(by rw[h] at hr;cases hr),fun j hj=>?_⟩;by_cases hji:j=i
  ·subst hji;exact hy.op (hro.imp_right fun h c=>h _ _ c hi) hi trivial ⟨fun hc=>hS (by rwa [bG true (aQ LZ)] at hc),H⟩
  have h1:=H.2 j (ready_mono hj hji);obtain⟨Ui,oj,RP,hall⟩:=mem_ready.1 hj;have hnot:∀e∈oj.after,bJ md e=true→e.on≠i:=fun e he hb heq=>by
   have h1:=hall e he hb;have h0:=(mem_ready.1 hr).1;rw[heq] at h1;rcases Nat.lt_or_ge i listed.size with h'|h'
   ·simp[h'] at h0 h1;rw[h0] at h1;cases h1
   simp[Array.getElem?_eq_none h'] at h1
  have h2:=yP (hro.imp_right fun h c=>h _ _ c RP) RP (hfree j oj RP hji Ui hnot) (fun cs b=>hsel i oi cs b hi) (fun cs b=>hsel j oj cs b RP) hQ hy h1;have LX:∀k ok,ops[k]?=some ok→k≠i→(listed.setIfInBounds j true).getD k true=false→
    (∀e∈ok.after,bJ md e=true→e.on≠i)→oi.apart ops ok=true:=fun k ok hk hki hun hno=>by
   refine hfree k ok hk hki ?_ hno;by_cases hjk:j=k
   ·subst hjk;exact Ui
   ·rw[bG true hjk] at hun;exact hun
  refine wpOpIn_mono (fun a' w' h3=>?_) h2;have hcm:(listed.setIfInBounds i true).setIfInBounds j true=(listed.setIfInBounds j true).setIfInBounds i true:=Array.setIfInBounds_comm _ _ (aQ hji);have h4:=h3.2.2;rw[hcm] at h4;have hSw:(listed.setIfInBounds j true).getD c true=false→S w':=fun hc=>h3.2.1 (by rw[hcm,bG true (aQ LZ)];exact hc)
  exact⟨hSw,ih (listed.setIfInBounds j true) a' w' LX (ready_mono hr (aQ hji)) h3.1 hSw h4⟩
end
section
variable{F:Fence}{n:Nat}{P:Program}{l:List Oper}{Q:Exit→Act→World→Prop}{md:Region.Mode}{S:World→Prop}{c:Nat}
theorem fP(i:Nat){oi:Oper}{r:List Oper}{v:aE}{fuel:Nat}{listed:Array Bool}{a:Act}{w:an}(hi:l.drop i=oi::r)(hS:listed.getD c true=false→S w)(hy:∀w',(execOp a.eval oi).run P w'=.ok (.value v) w')
  (h:eO F n P md l.toArray Q S c fuel (listed.setIfInBounds i true) (a.put oi.dst v) w)
  (hro:F.round=none∨vX l=true:=by first|exact .inl rfl|exact .inr cK) (hab:∀w,oi.about P w a.eval=none:=by intro w;rfl)
  (hs:Region.noSelect l.toArray=true:=by kernel_rfl) (hf:Region.free md l.toArray listed i=true:=by kernel_rfl) (hr:(bH md l.toArray listed).contains i=true:=by kernel_rfl)
  (hw:bB oi (yielded l.toArray a.tmps)=true:=by kernel_rfl) (LZ:c≠i:=by decide)
  (hQ:∀c a w,Q (.panic c) (a.put oi.dst v) w→Q (.panic c) a w:=by exact fun _ _ _ h=>h):eO F n P md l.toArray Q S c (fuel+1) listed a w:=
 AA LZ (hro.imp_right qv) (fV hi) (Region.noSelect_spec hs) hQ fuel listed a w (Region.free_spec (fV hi) hf) (by simpa using hr) ⟨.inl ⟨hw,fun w' _=>hy w'⟩,hab⟩ hS h
end
structure KL(n₀ bo:Nat)(W W':an):Prop where
 below:Below n₀ W W'
 size:W.heap.size≤W'.heap.size
 cells:∀b cs t fr,b≠bo→t≠35→W.heap[b]?=some (.cells cs t fr)→W'.heap[b]?=some (.cells cs t fr)
theorem KL.trans{n₀ bo:Nat}{a b c:an}(h:KL n₀ bo a b)(k:KL n₀ bo b c):KL n₀ bo a c:=⟨h.below.trans k.below,af h.size k.size,fun x cs t fr h1 h2 e=>k.cells x cs t fr h1 h2 (h.cells x cs t fr h1 h2 e)⟩
theorem gy{n₀ bo:Nat}{W W':an}(hn:n₀≤W.heap.size)(hb:cF W W'):KL n₀ bo W W':=⟨hb.mono hn,hb.size,fun b cs t fr _ _ e=>(hb.block b (aB e)).trans e⟩
theorem KL.box{n₀ bo:Nat}{W W':an}(h:KL n₀ bo W W'){b:Nat}{t:TypeId}{v:aE}(h1:b≠bo)(h2:t≠35)(e:Boxed W b t v):Boxed W' b t v:=h.cells b _ t _ h1 h2 e
theorem TR.aa5{w0 w:an}{b:Nat}{root:cP}{at_:Int}{M:List (cP×Nd)}(R:TR w0 w b root at_ M):
  aT prog 111 #[.p b] w fun e w'=>∃v,e=.returned v∧rV w' w.heap.size v (gU M)∧cF w w':=by
 obtain⟨lo,mb,T⟩:=R.tree;exact T.DU R.short R.fit.path
namespace cS
def Em(m:cS)(r:Nat)(p:cP):Bool:=m.gone.contains (((dF p (m.nodes r)).getD iN).num.os,((dF p (m.nodes r)).getD iN).num.on)
theorem left_eq(m:cS)(r:Nat):m.left r=(gU (m.nodes r)).filter (Em m r):=rfl
def nH(m:cS)(r i:Nat):List cP:=((gU (m.nodes r)).take i).filter (Em m r)
section
variable{m:cS}{r i:Nat}{p:cP}
theorem Eh(h:(gU (m.nodes r))[i]?=some p)(hp:Em m r p=true):nH m r (i+1)=nH m r i++[p]:=by
 unfold nH;rw[bX,h,bW];simp[hp]
theorem Lv(h:(gU (m.nodes r))[i]?=some p)(hp:Em m r p=false):nH m r (i+1)=nH m r i:=by
 unfold nH;rw[bX,h,bW];simp[hp]
theorem Ql(m:cS)(r:Nat):nH m r (gU (m.nodes r)).length=m.left r:=by rw[left_eq];unfold nH;rw[List.take_length]
theorem Qk(m:cS)(r i:Nat):(nH m r i).length≤i:=by
 unfold nH;refine af (List.length_filter_le _ _) ?_;rw[bq];omega
theorem Qj(m:cS)(r i:Nat):nH m r i <+: m.left r:=by
 rw[left_eq];unfold nH;exact(List.take_prefix i _).filter _
end
end cS
theorem kE{F:Fence}{n:Nat}{P:Program}{o:Oper}{a:Act}{w:an}{K:Act→an→Prop}{Q:Exit→Act→an→Prop}(ty:TypeId)(x y:Operand)(hop:o.op=.store ty x y)
  (b off:Nat) (cells:Array aE) (hx:a.eval x=.pointer (some ⟨b,off,none⟩)) (hy:a.eval y=.agg cells) (ht:w.there b off cells.size) (hi:(P.info? ty).map (·.size)=some cells.size) (h1:cells.all (·.oneCell')=true)
  (hK:K (a.put o.dst aj) (w.setCells b off cells.toList)):bK F n P o a w K Q:=by
 unfold bK;refine⟨?_,?_⟩
 ·simp[Oper.about,hop]
 rw[Oper.semAt_plain F _ _ (by rw[hop];intro c hc';cases hc')];unfold execOp;simp only[hop,hx,hy,Instr.storeAt,Instr.sureAddr,Sem.run_bind,Sem.run_pure,bQ,run_storeVar_mid w b off ty cells ht hi h1];exact hK
section
variable{w0 wb:World}{A:MA}{m:cS}{N:Nat}
theorem En(hm:cU w0 wb A m)(ok:m.Ok N)(n l b1 b2 bo r:Nat)(hr:r<m.dH.length)(J Jx:List cP→an→Prop)
  (hY:∀pre p W,J pre W→pre.length<48→YieldAt Fence.wide (n - 1) prog l #[.s p] W fun e W'=>
   (e=.returned (.T)∧J (pre++[p]) W'∧KL wb.heap.size bo W W')∨(e=.returned (.F)∧Jx (pre++[p]) W'))
  (W:an) (hJ:AbidesFrom W.heap.size J) (hW:cF wb W) (h1:Boxed W b1 24 (.p A.mb)) (h2:Boxed W b2 3 (.i r)) (l1:b1≠bo) (l2:b2≠bo) (l3:bo<W.heap.size) (h0:J [] W):
  CallsIn Fence.wide n prog 110 #[.func (.yield l) #[] #[],.p b1,.p b2] W fun e W'=>(∃v,e=.returned v)∧
   ((∃ys,ys=m.left r∧J ys W')∨(∃pre,pre <+: m.left r∧Jx pre W')):=by
 obtain⟨tb,htb⟩:∃b,A.tb[r]?=some b:=⟨_,ag (by rw[hm.tl,ok.tl];exact hr)⟩;obtain⟨tg,nh,CG,htl,htlt,htc⟩:=hm.data.row r tb htb;obtain⟨nt,hnt⟩:∃n,n=m.trees.length:=⟨_,rfl⟩;have XY:(r:Int)<(nt:Int):=by rw[hnt,ok.tl];omega
 have akh:r<nt:=by omega
 have Jb:(0:Int)≤(r:Int):=by omega
 have HW:Hid (∀W',KL wb.heap.size bo W W'→cU w0 W' A m∧W'.cell? ⟨b1,0,none⟩=some (.p A.mb)∧W'.cell? ⟨b2,0,none⟩=some (.i r)∧W'.cell? ⟨A.mb,2,none⟩=some (.slice (some ⟨tg,nh,none⟩) nt A.tc)∧W'.cell? ⟨tg,nh+r,none⟩=some (.p tb)∧W'.cell? ⟨A.mb,4,none⟩=some (.p A.sb)):=cE (fun W' hk=>by
  have hb:=hW.trans hk.below;have hm':=hm.below hb;exact⟨hm',(hk.box l1 cM h1).cell,(hk.box l2 cM h2).cell,hm'.cells.2.2.1.trans (by rw[CG,hnt]),(hb.cell (p:=⟨tg,nh+r,none⟩) htlt).trans htc,hm'.cells.2.2.2.2.1⟩)
 have HN:Hid (wb.heap.size≤W.heap.size∧A.tb[r]?=some tb∧bo<W.heap.size):=cE ⟨hW.size,htb,l3⟩;have RG:=cE (cD hJ (cD hY (cD h0 (cD ok hr))));clear hm h1 h2 l1 l2 l3 hW CG htl htlt htc hnt hr hJ hY h0 ok htb;have klW:∀{W'},cF W W'→KL wb.heap.size bo W W':=fun hb=>gy HN.out.1 hb
 have HPA:Hid (aT prog 111 #[.p tb] W.drew fun e w'=>∃g cap,e=.returned (.slice (some ⟨g,0,none⟩) (gU (m.nodes r)).length cap)∧(∃cs,w'.heap[g]?=some (.cells cs 9 (0,0)))∧g≠bo∧(∀i p,(gU (m.nodes r))[i]?=some p→w'.cell? ⟨g,i,none⟩=some (.s p))∧Below W.drew.heap.size W.drew w'):=cE (by
  have hd:cF W W.drew:=(ah _ W).drew;have hT:=(HW.out _ (klW hd)).1.tr r tb HN.out.2.1;refine hT.1.aa5.mono ?_;rintro e w' ⟨v,rfl,hR,hb⟩;rcases hR.2 with ⟨_,h0⟩|⟨g,cap,cur,rfl,zn,hg,_⟩
  ·rw[pK] at h0
   exact absurd (aP h0) hT.2
  rcases hR.at with ⟨h,_⟩|⟨g',cap',h,_,_,_,_,hc⟩
  ·cases h
  cases h;exact⟨g,cap,rfl,⟨_,hg⟩,fun e=>by have h1:=HN.out.2.2;have h2:=hd.size;omega,hc,hb⟩)
 have c0:∀w',cF W w'→w'.cell? ⟨b1,0,none⟩=some (.p A.mb):=fun w' hb=>(HW.out w' (klW hb)).2.1
 have c4:∀w',cF W w'→w'.cell? ⟨b2,0,none⟩=some (.i r):=fun w' hb=>(HW.out w' (klW hb)).2.2.1
 have c3:∀w',cF W w'→w'.cell? ⟨A.mb,2,none⟩=some (.slice (some ⟨tg,nh,none⟩) nt A.tc):=fun w' hb=>(HW.out w' (klW hb)).2.2.2.1
 have c6:∀w',cF W w'→w'.cell? ⟨tg,nh+r,none⟩=some (.p tb):=fun w' hb=>(HW.out w' (klW hb)).2.2.2.2.1
 obtain⟨k,hk⟩:=cG ((gU (m.nodes r)).length);rw[←hk] at HPA;have HK:=cE hk;have hS:cF W W.drew:=(ah _ W).drew;clear hk;refine callsIn_of_wp func110 rfl trivial ?_ rfl;simp only[ntmps110,bg,aM,aR,Nat.reduceAdd,Nat.reduceSub,bN,bM,bY,bU,List.nil_append,List.cons_append];gi_wp2_with fail
 refine fB (S:=fun w'=>cF W w') (c:=8) ?_;refine fI 0 rfl hS (fun w' hS'=>by have:=c0 w' hS';go_simp<;>rfl) ?_;simp only[cQ];refine fJ 1 hS ?_;simp only[cQ];refine fJ 2 hS ?_;simp only[cQ];refine fI 3 rfl hS (fun w' hS'=>by have:=c3 w' hS';go_simp<;>rfl) ?_;simp only[cQ];refine fI 4 rfl hS (fun w' hS'=>by have:=c4 w' hS';go_simp<;>rfl) ?_;simp only[cQ];refine fJ 5 hS ?_;simp only[cQ];refine fI 6 rfl hS (fun w' hS'=>by have:=c6 w' hS';go_simp<;>rfl) ?_;simp only[cQ];refine fP 9 rfl (fun _=>hS) (fun w'=>by go_simp<;>rfl) ?_;simp only[cQ];refine fK 7 rfl fun K' gp=>?_
 gi_wp2_with fail
 refine⟨trivial,(fun h=>(by cases h)),(aA.2 HPA.out).mono ?_⟩;rintro e W1 ⟨g,cap,rfl,⟨cs,hg⟩,EF,hrow,de⟩;have yw:cF W W1:=hS.trans (de.mono hS.size);have hJ1:J (cS.nH m r 0) W1:=RG.out.1 _ _ _ none RG.out.2.2.1 ⟨yw.os,yw.tape,yw.output,yw.size,fun b hb _=>yw.block b hb⟩ (fun _ e=>by cases e);have GG:=cE (cD hg (cD EF (cD hrow (klW yw))));refine gp _ _ yw ?_;clear gp hg EF hrow de hS HPA c0 c3 c4 c6;refine fC 8 rfl fun K' gp=>?_
 gi_wp2_with fail
 refine fD ?_ cK _;clear yw;gi_wp2_with fail
 gi_loopw [17] (fun p wr=>∃i:Nat,i≤k∧p=.i i∧KL wb.heap.size bo W1 wr∧J (cS.nH m r i) wr)
  (fun p _=>k - (intOf p).toNat)
 case atStart=>exact⟨0,by omega,rfl,gy (af HN.out.1 GG.out.2.2.2.size) (ah _ _),hJ1⟩
 obtain⟨i,hi,rfl,Yl,CL⟩:=hrel;by_cases hlt:i<k
 ·obtain⟨p,hp⟩:∃x,(gU (m.nodes r))[i]?=some x:=⟨_,ag (by rw[←HK.out];exact hlt)⟩
  have ZZ:=GG.out.2.2.2.trans Yl;have i1:(0:Int)≤i:=by omega
  have i2:(i:Int)<k:=by omega
  have hpc:wr.cell? ⟨g,i,none⟩=some (.s p):=by
   have e1:=GG.out.2.2.1 i p hp;have e2:=GG.out.1;rw[aG _ _ i _ 9 (0,0) e2] at e1;rw[aG _ _ i _ 9 (0,0) (Yl.cells g _ _ _ GG.out.2.1 cM e2)];exact e1
  have HB:=cE (cD Yl (cD CL (cD ZZ (cD hp hi))));clear Yl CL hp hi hJ1;obtain⟨nd,hnd⟩:∃d,d=(dF p (m.nodes r)).getD iN:=⟨_,rfl⟩;obtain⟨bx,nN⟩:∃d,d=(dF p (m.nodes r)).isSome:=⟨_,rfl⟩;have Kf:=cE hnd;have ZH:wb.heap.size≤wr.heap.size:=af HN.out.1 ZZ.size;have ahC:Hid (∀W',cF wr W'→aT prog 112 #[.p tb,.s p] W' fun e w'=>∃q:Raw,e=.returned (.tuple #[q.val,.bool bx])∧q.num=nd.num∧cF W' w'):=cE (fun W' hb=>by
   have hT:=((HW.out _ (HB.out.2.2.1.trans (gy ZH hb))).1.tr r tb HN.out.2.1).1;have hpl:p.length≤1000:=rK (fun x hx=>by have:=((RG.out.2.2.2.1.tree r RG.out.2.2.2.2).node x hx).1;omega) p (aC HB.out.2.2.2.1);refine(hT.get p (by unfold maxLen;omega)).mono ?_;rintro e w' ⟨q,rfl,hq,hb',_⟩;exact⟨q,by rw[nN],by rw[hnd];exact hq.num,hb'⟩)
  have d0:∀w',cF wr w'→w'.cell? ⟨b1,0,none⟩=some (.p A.mb):=fun w' hb=>(HW.out w' (HB.out.2.2.1.trans (gy ZH hb))).2.1
  have d4:∀w',cF wr w'→w'.cell? ⟨b2,0,none⟩=some (.i r):=fun w' hb=>(HW.out w' (HB.out.2.2.1.trans (gy ZH hb))).2.2.1
  have d3:∀w',cF wr w'→w'.cell? ⟨A.mb,2,none⟩=some (.slice (some ⟨tg,nh,none⟩) nt A.tc):=fun w' hb=>(HW.out w' (HB.out.2.2.1.trans (gy ZH hb))).2.2.2.1
  have d6:∀w',cF wr w'→w'.cell? ⟨tg,nh+r,none⟩=some (.p tb):=fun w' hb=>(HW.out w' (HB.out.2.2.1.trans (gy ZH hb))).2.2.2.2.1
  have iY:=cE nN;have hS:cF wr wr.drew:=(ah _ wr).drew;clear hnd nN ZZ;gi_wp2_with fail
  refine fB (S:=fun w'=>cF wr w') (c:=14) ?_;refine fI 0 rfl hS (fun w' hS'=>by have:=d0 w' hS';go_simp<;>rfl) ?_;simp only[cQ];refine fJ 1 hS ?_;simp only[cQ];refine fJ 2 hS ?_;simp only[cQ];refine fI 3 rfl hS (fun w' hS'=>by have:=d3 w' hS';go_simp<;>rfl) ?_;simp only[cQ];refine fI 4 rfl hS (fun w' hS'=>by have:=d4 w' hS';go_simp<;>rfl) ?_;simp only[cQ];refine fJ 5 hS ?_;simp only[cQ];refine fI 6 rfl hS (fun w' hS'=>by have:=d6 w' hS';go_simp<;>rfl) ?_;simp only[cQ];refine fJ 7 hS ?_;simp only[cQ];have eY:Hid (cH 44 9):=cE cK;clear hpc;refine fE 8 12 rfl rfl (fun K' gp=>?A) (fun K' gp=>?B)
  case' A=>
   gi_wp2_with fail
   refine⟨trivial,(fun h=>(by cases h)),(aA.2 (ahC.out _ hS)).mono ?_⟩;rintro e W2 ⟨⟨qa,qn,qc,qm⟩,rfl,hqm,dz⟩;have hqm:qm=nd.num:=hqm;subst hqm;have oW:cF wr W2:=hS.trans (dz.mono hS.size);refine gp _ _ oW ?_;clear gp dz hS;unfold Raw.val Raw.cells eL.cells;refine fJ 9 oW ?_;simp only[cQ];refine fJ 10 oW ?_;simp only[cQ];refine fJ 11 oW ?_;simp only[cQ];obtain⟨W2a,Gh⟩:∃x,x=W2.alloc (.cells #[.n,.U,.U,.U,.I,.U,.V,.V,.V] 44):=⟨_,rfl⟩;have ka:W2a.heap[W2.heap.size]?=some (.cells #[.n,.U,.U,.U,.I,.U,.V,.V,.V] 44 (0,0)):=by rw[Gh];exact aN W2 _
   have QU:cF wr W2a:=by rw[Gh];exact cR oW _
   have HNB:wr.heap.size≤W2.heap.size:=oW.size;refine fK 12 rfl fun K' gp=>?_
   gi_wp2_with fail
   rw[←Gh];refine gp _ _ QU ?_;clear gp;have zP:Hid (W2a.there W2.heap.size 0 9):=cE (dR ka 0 9 cN);obtain⟨W3,J8⟩:∃x,x=W2a.setCells W2.heap.size 0 [.slice qa qn qc,.u nd.num.gS,.u nd.num.C5,.u nd.num.next,.i nd.num.os,.u nd.num.on,.v nd.num.made,.v nd.num.EY,.v nd.num.DG]:=⟨_,rfl⟩;have k3:W3.heap[W2.heap.size]?=some (.cells #[.slice qa qn qc,.u nd.num.gS,.u nd.num.C5,.u nd.num.next,.i nd.num.os,.u nd.num.on,.v nd.num.made,.v nd.num.EY,.v nd.num.DG] 44 (0,0)):=by rw[J8];exact fG ka rfl
   have hnb:wr.heap.size≤W2.heap.size:=HNB;have dU:cF wr W3:=by rw[J8];exact QU.trans ((ic W2a W2.heap.size 0 _).below QU.size (fun b e=>by have e:b=W2.heap.size:=e;omega))
   refine fK 13 rfl fun K' gp=>?_
   refine kE 44 (.tmp 6) (.tmp 31) rfl W2.heap.size 0 #[.slice qa qn qc,.u nd.num.gS,.u nd.num.C5,.u nd.num.next,.i nd.num.os,.u nd.num.on,.v nd.num.made,.v nd.num.EY,.v nd.num.DG] rfl rfl zP.out eY.out (by simp[aq]) ?_
   try dsimp only
   rw[←J8];refine gp _ _ dU ?_;have H3:=cE (cD k3 (cD dU hnb));clear gp J8 k3 dU hnb zP
   try dsimp only
   clear ka QU oW Gh HNB;generalize W2.heap.size=nb at H3⊢
  case' B=>
   obtain⟨W2a,Gh⟩:∃x,x=(wr.alloc (.cells #[.n,.U,.U,.U,.I,.U,.V,.V,.V] 44)).drew:=⟨_,rfl⟩;have ka':W2a.heap[wr.heap.size]?=some (.cells #[.n,.U,.U,.U,.I,.U,.V,.V,.V] 44 (0,0)):=by rw[Gh];exact aN wr _
   have QU:cF wr W2a:=by rw[Gh];exact(cR (ah _ wr) _).drew
   have HNB:wr.heap.size≤wr.heap.size:=aW _;gi_wp2_with fail
   rw[←Gh];refine gp _ _ QU ?_;clear gp hS Gh;refine fK 8 rfl fun K' gp=>?_
   gi_wp2_with fail
   refine⟨trivial,(fun h=>(by cases h)),(aA.2 (ahC.out _ QU)).mono ?_⟩;rintro e W2 ⟨⟨qa,qn,qc,qm⟩,rfl,hqm,dz⟩;have hqm:qm=nd.num:=hqm;subst hqm;have oW:cF wr W2:=QU.trans (dz.mono QU.size);have ka:W2.heap[wr.heap.size]?=some (.cells #[.n,.U,.U,.U,.I,.U,.V,.V,.V] 44 (0,0)):=(dz.block _ (aB ka')).trans ka';refine gp _ _ oW ?_;clear gp dz;unfold Raw.val Raw.cells eL.cells;refine fJ 9 oW ?_;simp only[cQ];refine fJ 10 oW ?_;simp only[cQ];refine fJ 11 oW ?_;simp only[cQ];have zP:Hid (W2.there wr.heap.size 0 9):=cE (dR ka 0 9 cN);obtain⟨W3,J8⟩:∃x,x=W2.setCells wr.heap.size 0 [.slice qa qn qc,.u nd.num.gS,.u nd.num.C5,.u nd.num.next,.i nd.num.os,.u nd.num.on,.v nd.num.made,.v nd.num.EY,.v nd.num.DG]:=⟨_,rfl⟩;have k3:W3.heap[wr.heap.size]?=some (.cells #[.slice qa qn qc,.u nd.num.gS,.u nd.num.C5,.u nd.num.next,.i nd.num.os,.u nd.num.on,.v nd.num.made,.v nd.num.EY,.v nd.num.DG] 44 (0,0)):=by rw[J8];exact fG ka rfl
   have hnb:wr.heap.size≤wr.heap.size:=HNB;have dU:cF wr W3:=by rw[J8];exact oW.trans ((ic W2 wr.heap.size 0 _).below oW.size (fun b e=>by have e:b=wr.heap.size:=e;omega))
   refine fK 13 rfl fun K' gp=>?_
   refine kE 44 (.tmp 6) (.tmp 31) rfl wr.heap.size 0 #[.slice qa qn qc,.u nd.num.gS,.u nd.num.C5,.u nd.num.next,.i nd.num.os,.u nd.num.on,.v nd.num.made,.v nd.num.EY,.v nd.num.DG] rfl rfl zP.out eY.out (by simp[aq]) ?_
   try dsimp only
   rw[←J8];refine gp _ _ dU ?_;have H3:=cE (cD k3 (cD dU hnb));clear gp J8 k3 dU hnb zP
   try dsimp only
   clear ka ka' QU oW HNB;obtain⟨nb,hnb⟩:∃x,x=wr.heap.size:=⟨_,rfl⟩;rw[←hnb];have H3:Hid (W3.heap[nb]?=_∧cF wr W3∧wr.heap.size≤nb):=cE (by rw[hnb];exact H3.out);clear hnb
  all_goals
   refine fC 14 rfl fun K' gp=>?_
   gi_wp2_with fail
   refine fD ?_ cK _;clear d0 d3 d4 d6;obtain⟨hit,LV⟩:∃b,b=cS.Em m r p:=⟨_,rfl⟩;have hnn:wb.heap.size≤W3.heap.size:=af ZH H3.out.2.1.size;have J9:KL wb.heap.size bo W W3:=HB.out.2.2.1.trans (gy ZH H3.out.2.1);have JV:Hid (∀W',cF W3 W'→aT prog 113 #[.p A.sb,.agg #[.i nd.num.os,.u nd.num.on]] W' fun e w'=>e=.returned (.bool hit)∧cF W' w'):=cE (fun W' hb=>by
    have hs:=(HW.out _ (J9.trans (gy hnn hb))).1.yR;have oV:=(RG.out.2.2.2.1.tree r RG.out.2.2.2.2).nd p;rw[←Kf.out] at oV;refine(BV A.sb A.gb m.site m.last m.gone nd.num.os nd.num.on W' hs ⟨by have:=oV.os;omega,by have:=oV.os;omega⟩ oV.num.on).mono ?_;rintro e w' ⟨e1,hk⟩;refine⟨?_,hk.below (aW _) (fun _ e=>e.elim)⟩;rw[e1,LV];unfold cS.Em;rw[←Kf.out])
   have f0:∀w',cF W3 w'→w'.cell? ⟨b1,0,none⟩=some (.p A.mb):=fun w' hb=>(HW.out w' (J9.trans (gy hnn hb))).2.1
   have f3:∀w',cF W3 w'→w'.cell? ⟨A.mb,4,none⟩=some (.p A.sb):=fun w' hb=>(HW.out w' (J9.trans (gy hnn hb))).2.2.2.2.2
   have f5:∀w',cF W3 w'→w'.rangeAt nb 4 [.i nd.num.os,.u nd.num.on]:=fun w' hb=>by
    have kb:=(hb.block _ (aB H3.out.1)).trans H3.out.1;intro j u hu;have hj:=(aa.1 hu).1;simp only[aM,aR] at hj;rw[aG _ _ _ _ 44 (0,0) kb];rcases(show j=0∨j=1 by omega) with rfl|rfl<;>exact hu
   have rX:Hid (cH 31 2):=cE cK;have hS:cF W3 W3.drew:=(ah _ W3).drew;have M1:=cE LV;have uU:=cE (cD J9 hnn);have QW:∀W',cF W3 W'→J (cS.nH m r i) W':=fun W' hb=>by
    have hb':cF wr W':=H3.out.2.1.trans (hb.mono H3.out.2.1.size);have hsz:W.heap.size≤wr.heap.size:=HB.out.2.2.1.size;exact RG.out.1 _ _ _ none HB.out.2.1 ⟨hb'.os,hb'.tape,hb'.output,hb'.size,fun b hb _=>hb'.block b hb⟩ (fun _ e=>by cases e)
   have HJ3:=cE QW;clear J9 QW LV hnn ZH;have aqq:k≤48:=by
    rw[HK.out,pK];exact(RG.out.2.2.2.1.tree r RG.out.2.2.2.2).len
   cases hit with
   |false=>
    gi_wp2_with fail
    refine fB (S:=fun w'=>cF W3 w') (c:=12) ?_;refine fI 0 rfl hS (fun w' hS'=>by have:=f0 w' hS';go_simp<;>rfl) ?_;simp only[cQ];refine fJ 1 hS ?_;simp only[cQ];refine fJ 2 hS ?_;simp only[cQ];refine fI 3 rfl hS (fun w' hS'=>by have:=f3 w' hS';go_simp<;>rfl) ?_;simp only[cQ];refine fJ 4 hS ?_;simp only[cQ];refine fI 5 rfl hS (fun w' hS'=>pJ 31 (.tmp 37) rfl nb 4 rfl _ _ (f5 w' hS') underlying31 rfl rX.out) ?_;simp only[cQ];refine fK 6 rfl fun K' gp=>?_
    gi_wp2_with fail
    refine⟨trivial,(fun h=>(by cases h)),(aA.2 (JV.out _ hS)).mono ?_⟩;rintro e W4 ⟨rfl,hb4⟩;have eM:cF W3 W4:=hS.trans (hb4.mono hS.size);refine gp _ _ eM ?_;clear gp hb4;refine fJ 7 eM ?_;simp only[cQ];refine fN 8 rfl eM ?_;simp only[cQ];refine fN 9 rfl eM ?_;simp only[cQ];refine fM 10 rfl eM ?_;simp only[cQ];refine fN 11 rfl eM ?_;simp only[cQ];refine fC 12 rfl fun K' gp=>?_
    gi_wp2_with fail
    refine fD ?_ cK _;have JS:=cE eM;clear f0 f3 f5 hS eM;gi_wp2
    obtain⟨Yl,CL,ZZ,hp,hi⟩:=HB.out;exact⟨⟨i+1,by omega,by go_num,Yl.trans ((gy (af HN.out.1 ZZ.size) H3.out.2.1).trans (gy uU.out.2 JS.out)),by rw[cS.Lv hp M1.out.symm];exact HJ3.out W4 JS.out⟩,by simp[intOf];omega⟩
   |true=>
   gi_wp2_with fail
   refine fB (S:=fun w'=>cF W3 w') (c:=10) ?_;refine fI 0 rfl hS (fun w' hS'=>by have:=f0 w' hS';go_simp<;>rfl) ?_;simp only[cQ];refine fJ 1 hS ?_;simp only[cQ];refine fJ 2 hS ?_;simp only[cQ];refine fI 3 rfl hS (fun w' hS'=>by have:=f3 w' hS';go_simp<;>rfl) ?_;simp only[cQ];refine fJ 4 hS ?_;simp only[cQ];refine fI 5 rfl hS (fun w' hS'=>pJ 31 (.tmp 37) rfl nb 4 rfl _ _ (f5 w' hS') underlying31 rfl rX.out) ?_;simp only[cQ];refine fK 6 rfl fun K' gp=>?_
   gi_wp2_with fail
   refine⟨trivial,(fun h=>(by cases h)),(aA.2 (JV.out _ hS)).mono ?_⟩;rintro e W4 ⟨rfl,hb4⟩;have eM:cF W3 W4:=hS.trans (hb4.mono hS.size);have JS:=cE eM;refine gp _ _ eM ?_;clear gp hb4;refine fJ 7 eM ?_;simp only[cQ];refine fJ 8 eM ?_;simp only[cQ];refine fJ 9 eM ?_;simp only[cQ];have hlen:=cS.Qk m r i;obtain⟨fn,tmps,assign,body,hy,hR⟩:=RG.out.2.1 _ p W4 (HJ3.out W4 eM) cL;clear f0 f3 f5 hS eM;refine fC 10 rfl fun K' gp=>?_
   gi_wp2_with fail
   refine⟨(fun h=>(by cases h)),?_⟩;refine hR.mono ?_;rintro e W5 (⟨rfl,hJ5,hk5⟩|⟨rfl,alh⟩)
   ·refine gp _ _ ?_
    clear gp hy hR
    try simp only[bP,au,aI,aJ]
    refine fC 11 rfl fun K' gp=>?_
    gi_wp2_with fail
    refine fC 12 rfl fun K' gp=>?_
    gi_wp2_with fail
    refine fD ?_ cK _;gi_wp2
    obtain⟨Yl,CL,ZZ,hp,hi⟩:=HB.out;exact⟨⟨i+1,by omega,by go_num,Yl.trans ((gy (af HN.out.1 ZZ.size) H3.out.2.1).trans ((gy uU.out.2 JS.out).trans hk5)),by rw[cS.Eh hp M1.out.symm];exact hJ5⟩,by simp[intOf];omega⟩
   refine gp _ _ ?_;clear gp hy hR
   try simp only[bP,au,aI,aJ]
   refine fC 11 rfl fun K' gp=>?_
   gi_wp2_with fail
   refine fC 12 rfl fun K' gp=>?_
   gi_wp2_with fail
   refine fD ?_ cK _;gi_wp2
   refine bodyPost_ret (results_none rfl _ _ _) rfl ?_;obtain⟨Yl,CL,ZZ,hp,hi⟩:=HB.out;have hr':=cS.Qj m r (i+1);rw[cS.Eh hp M1.out.symm] at hr';exact⟨⟨_,rfl⟩,.inr ⟨_,hr',alh⟩⟩
 have hc2:decide ((i:Int)<(k:Int))=false:=by simp;omega
 gi_wp2
 go_end0
 obtain rfl:i=k:=by omega
 exact⟨⟨_,rfl⟩,.inl ⟨_,(by rw[HK.out];exact(cS.Ql m r).symm▸rfl),CL⟩⟩
end
attribute [local go_sem] Oper.semAt_some
theorem TN:(prog.info? 35).map (fun i=>(i.zero,i.size,i.bytes))=some (some (.agg #[.B,.z,.n,.I,.F,.F,.n]),7,88):=by kernel_rfl
def DY(v:aE):Array aE:=#[.b 7,.z,.n,.I,.F,.F,v]
def oz(p:cP):List aE:=[.b 2,.s p,.n,.i (-1),.F,.F,.n]
theorem DX(p:cP):(oz p).length=7:=rfl
def OA(wb:an)(pre:List cP)(W:an):Prop:=
 ∃v,W.heap[wb.heap.size]?=some (.cells (DY v) 35 (0,0))∧W.ownsRow (wb.heap.size+3) 35 7 v pre.length (pre.flatMap oz)∧cF wb W
theorem DP(wb:an)(B:Nat)(hB:wb.heap.size≤B):OwnFrom B (OA wb):=by
 rintro s X Y row ⟨v,hv,hr,hb⟩ hg hrow;have hk:=fT hg;have hne:∀b,sg X b→¬row=some b:=fun b ⟨cs,t,fr,hc⟩ e=>by
  obtain⟨_,o,ho,hno⟩:=hrow b e;rw[hc] at ho;cases ho;cases hno
 refine⟨v,hk.same hv (hne _ ⟨_,_,_,hv⟩),fm hr hk (fun g hg' e=>?_),hb.grown hg hb.size (fun g e=>af hB (hrow g e).1)⟩;obtain⟨cur,EF⟩:=vT hr hg';exact hne _ ⟨_,_,_,EF⟩ e
theorem EO:∀(ys:List cP) (k j:Nat) (p:cP) (u:aE),ys[k]?=some p→(oz p)[j]?=some u→(ys.flatMap oz)[k*7+j]?=some u
 |[],k,j,p,u,h,_=>by simp at h
 |y::ys,0,j,p,u,h,hu=>by
  simp at h;subst h;rw[bZ,Nat.zero_mul,aD,List.getElem?_append_left (by have:=(aa.1 hu).1;exact this)];exact hu
 |y::ys,k+1,j,p,u,h,hu=>by
  rw[bZ,List.getElem?_append_right (by rw[DX];omega),DX,show(k+1)*7+j - 7=k*7+j by omega];exact EO ys k j p u (by simpa using h) hu
theorem DV{w:an}{base:Nat}{va:Option Addr}{vc:Nat}{ys:List cP}(h:w.ownsRow base 35 7 (.slice va ys.length vc) ys.length (ys.flatMap oz)){k:Nat}{p:cP}(hk:ys[k]?=some p):
  ∃g,va=some ⟨g,0,none⟩∧g<w.heap.size∧w.rangeAt g (0+k*7) (cV.cells ⟨2,p,none,0,0,-1,false,false,none,0,0⟩):=by
 have hl:=(aa.1 hk).1;rcases h.2 with ⟨e1,e2⟩|⟨g,cap,cur,e1,_⟩
 ·omega
 cases e1;refine⟨g,rfl,(h.lt g rfl).2,fun j u hu=>?_⟩;have:=h.cells (g:=g) rfl (k*7+j) u (EO ys k j p u hk hu);rw[Addr.add_lit,aD] at this;rw[aD];exact this
theorem WV{F:Nat→Prop}{w:an}{base:Nat}{va:Option Addr}{vc:Nat}{ys:List cP}(h:w.ownsRow base 35 7 (.slice va ys.length vc) ys.length (ys.flatMap oz))(h0:0<ys.length)(h6:ys.length≤6)(hp:∀p∈ys,p.length≤64):
  Af F w ⟨7,[],none,0,0,0,false,false,va,ys.length,vc⟩ ⟨⟨7,[],[],0,false,false⟩,ys.map fun p=>⟨2,p,[],-1,false,false⟩⟩ 0:=by
 have hnb:∀(w:an) (lo:Nat→Prop) hi a,eB w lo hi a []:=fun w lo hi a j c hj=>by simp at hj
 refine⟨⟨rfl,rfl,rfl,rfl,rfl,rfl,hnb _ _ _ _,fun _=>⟨rfl,rfl⟩⟩,fun w' hb=>?_,fun _=>.inr ⟨rfl,by simp,by simpa using h6,fun k p hk=>?_⟩⟩
 ·have hat:Cx w 2 va (ys.map fun _=>⟨2,0,0⟩):=fun k i hk=>by
   simp only[aU,aK] at hk;obtain⟨p,hk,rfl⟩:=hk;obtain⟨g,e1,e2,e3⟩:=DV h hk;exact⟨g,0,_,[],e1,e2,e3,rfl,rfl,bS _,fun k i hk=>by simp at hk⟩
  have:=yD 2 w' ⟨7,[],none,0,0,0,false,false,va,ys.length,vc⟩ (ys.map fun _=>⟨2,0,0⟩) cN (hat.below hb) (bS _);have e0:gz 7 0 (ys.map fun _=>⟨2,0,0⟩)=0:=by
   unfold gz;have d1:decide ((7:Int)=7)=true:=by decide
   have d2:decide (0<(ys.map fun _=>(⟨2,0,0⟩:fo)).length)=true:=by simpa using h0
   rw[if_neg (by rw[d1,d2,aS];simp;omega),if_neg (by simp[fo.bad]),if_neg (by simp[fo.long])]
  have this:aT prog 29 #[cV.val ⟨7,[],none,0,0,0,false,false,va,ys.length,vc⟩] w' (oE w' (gz 7 0 (ys.map fun _=>⟨2,0,0⟩))):=this
  rwa [e0] at this
 simp only[aU,aK] at hk;obtain⟨p,hk,rfl⟩:=hk;obtain⟨g,e1,e2,e3⟩:=DV h hk;refine⟨g,0,_,e1,e2,e3,⟨rfl,rfl,rfl,rfl,rfl,rfl,hnb _ _ _ _,fun _=>⟨rfl,rfl⟩⟩,(by decide:(1:Int)≤2),(by decide:(2:Int)≤6),?_,by simp⟩;have:=hp p (aC hk);show p.length≤900;omega
theorem yW{w:an}{base g n cap:Nat}{t:TypeId}{xs zs cs:List aE}{size:Nat}(h:w.ownsRow base t size (.slice (some ⟨g,0,none⟩) (n+1) cap) (n+1) (xs++zs))(hx:xs.length=n*size)(hz:zs.length=size)(hc:cs.length=size):
  (w.setCells g (n*size) cs).ownsRow base t size (.slice (some ⟨g,0,none⟩) (n+1) cap) (n+1) (xs++cs)∧w.there g (n*size) size:=by
 rcases h.2 with ⟨h1,_⟩|⟨g',cap',cur,h1,hb,hg,hnc,hcm,hcs,QE⟩
 ·cases h1
 cases h1;have hmul:(n+1)*size=n*size+size:=by rw[Nat.add_mul,Nat.one_mul]
 have hle:n*size+size≤cur.toList.length:=by
  rw[aZ,hcs,←hmul];exact Nat.mul_le_mul_right size hnc
 refine⟨⟨by rw[ay,hx,hc,hmul],.inr ⟨g,cap,(cur.toList.take (n*size)++cs++cur.toList.drop (n*size+cs.length)).toArray,rfl,hb,?_,hnc,hcm,?_,?_⟩⟩,dR hg _ _ (by rw[←aZ];exact hle)⟩
 ·refine pV cs (n*size) w cur.toList (by simpa using hg) (by rw[hc];exact hle)
 ·rw[bg,ay,ay,bq,List.length_drop,hc,←hcs,←aZ]
  omega
 have hxs:cur.toList.take (n*size)=xs:=by
  have h2:=congrArg (List.take (n*size)) QE;rw[List.take_take,hmul,Nat.min_eq_left cL,bz hx] at h2;exact h2
 rw[hxs,bT,cj,hmul,←hx,←hc,←cj];exact bz (by rw[ay])
section
variable{F:Fence}{n:Nat}{P:Program}{l:List Oper}{Q:Exit→Act→World→Prop}{md:Region.Mode}{S:World→Prop}{c:Nat}
theorem fF(i j:Nat){oi oj:Oper}{r r':List Oper}{fuel:Nat}{listed:Array Bool}{a:Act}{w:an}(hi:l.drop i=oi::r)(hj:l.drop j=oj::r')
  (h1:∀K':Act→an→Prop,(∀a w,eO F n P md l.toArray Q S c fuel (listed.setIfInBounds i true) a w→K' a w)→bK F n P oi a w K' Q)
  (h2:∀K':Act→an→Prop,(∀a w,eO F n P md l.toArray Q S c fuel (listed.setIfInBounds j true) a w→K' a w)→bK F n P oj a w K' Q)
  (hr:bH md l.toArray listed=[i,j]:=by kernel_rfl) (hwi:bB oi (yielded l.toArray a.tmps)=true:=by kernel_rfl) (hwj:bB oj (yielded l.toArray a.tmps)=true:=by kernel_rfl)
  (LZ:(listed.setIfInBounds i true).getD c true=true:=by kernel_rfl) (hcj:(listed.setIfInBounds j true).getD c true=true:=by kernel_rfl):eO F n P md l.toArray Q S c (fuel+1) listed a w:=by
 refine⟨fun h0=>absurd (hr▸h0) cN,fun k hk=>?_⟩;rw[hr] at hk;have hk:k=i∨k=j:=by simpa using hk
 rcases hk with rfl|rfl
 ·unfold wpOpIn
  rw[fV hi];dsimp only;rw[if_pos hwi];exact h1 _ fun _ _ h2=>⟨fun e=>(by rw[LZ] at e;cases e),h2⟩
 unfold wpOpIn;rw[fV hj];dsimp only;rw[if_pos hwj];exact h2 _ fun _ _ h2=>⟨fun e=>(by rw[hcj] at e;cases e),h2⟩
end
theorem cU.ag0{w0 w w':an}{A:MA}{m:cS}(h:cU w0 w A m)(hb:cF w w'){D:Nat}(hD:w.heap.size≤D)(hlt:D<w'.heap.size):cU w0 w' {A with X:=fun b=>A.X b∨b=D} m:=by
 have h':=h.below hb;have hl:∀b,b<w.heap.size→A.lo b→({A with X:=fun b=>A.X b∨b=D}:MA).lo b:=fun b hb hlo=>⟨hlo.1,fun e=>by
  rcases e with e|e
  ·exact hlo.2 e
  omega⟩
 have hd:=h.data.mono hl;have uY:=nW.iJ hd (dm (S:=fun _=>False) hb) (oD hb) (fun _ _ _ e=>e);have ht:=(h.tok.more hl).below hb;exact⟨h'.blk,⟨uY.dH,uY.row,uY.v,uY.dY⟩,h'.tl,h'.tr,h'.nd,ht,h'.yR,h'.own,h'.oq,h'.cl,h'.kd,h'.lo,fun b e=>by
  rcases e with e|e
  ·exact h'.xz b e
  exact⟨fun z=>by have:=h.Dx z;omega,by have:=h.bl.size;omega,by omega⟩,h'.pow,h'.mx,h'.bl,⟨h'.nO.lt,h'.nO.tr,h'.nO.dY⟩⟩
theorem yg(W:an)(D:Nat)(o:Obj):Kept (·=D) W (W.putObj D o):=⟨rfl,rfl,rfl,by simp[aY],fun b _ hnb=>aH (fun e=>hnb e)⟩
theorem cU.ajC{w0 w:an}{A:MA}{m:cS}(h:cU w0 w A m){D:Nat}(hX:A.X D){x:Option (List Deferred)}(hK:w.heap[D]?=some (.deferred x))(o:Obj):cU w0 (w.putObj D o) A m:=by
 have hne:∀b k n,w.cell? ⟨b,k,none⟩=some (.b n)→b≠D:=fun b k n e e1=>by
  subst e1;simp[World.cell?,hK] at e
 refine h.Ar (yg w D o) (fun b k n e=>((yg w D o).cell (p:=⟨b,k,none⟩) (World.block_lt_of_cell? _ _ e) (hne b k n e)).trans e) (fun b e=>?_);have e:b=D:=e;subst e;refine⟨hX,fun mm _ h2=>?_⟩;obtain⟨es,c,e,_⟩:=h2;rw[hK] at e;cases e
section
variable{B:Nat}{w0 w:World}{A:MA}{m:cS}{N db:Nat}{y:fR}{E:List Value}
theorem Ej(w:an)(a:Option Addr)(r:Int):
  aT prog 50 #[.pointer a,.i r] w fun e w'=>e=.returned (.func (.func 110) #[] #[.p w.heap.size,.p (w.heap.size+1)])∧w'=(w.alloc (.cells #[.pointer a] 24)).alloc (.cells #[.i r] 3):=by
 go_enter func50,ntmps50
 go_wp2
 go_ret
 exact⟨rfl,rfl⟩
theorem KB(h:CD B w0 w A m N db y E)(hN:N≤80000):aT prog 175 #[.p A.mb,.p db] w (iq B w0 w A db E (m.qM y.dK)):=by
 obtain⟨o,L,i,Ei,fa,fc,hE,hD⟩:=h.cells;have Ka:w.cell? ⟨db,20,none⟩=some (.i y.dK):=(h.Ch.tT 20 cM).trans (by rw[hE];rfl);obtain⟨nt,hnt⟩:∃n,n=m.trees.length:=⟨_,rfl⟩;have c2:w.cell? ⟨A.mb,2,none⟩=some (.slice A.ta nt A.tc):=h.fS.cells.2.2.1.trans (by rw[hnt]);have htl:=h.ok.tl;have HH:=cE (cD h (cD hN hnt));by_cases ho:cS.out y.dK m.dH.length
 ·have e1:m.qM y.dK=(m,nX 60):=by unfold cS.qM;rw[if_pos ho]
  rw[e1];have Ac:=cE (gJ (B:=B) (w:=w) h.fS h.Ch 60 (Kept.refl _ w));rcases Int.lt_or_le y.dK 0 with h1|h1
  ·have t17:decide (y.dK<0)=true:=by simpa using h1
   clear h hE hD hN htl ho e1 HH hnt h1;go_enter func175,ntmps175
   go_wp2_with fail
   go_ret
   exact Ac.out
  have t17:decide (y.dK<0)=false:=by simp;omega
  have t25:decide ((nt:Int)≤y.dK)=true:=by
   unfold cS.out at ho;simp;omega
  clear h hE hD hN htl ho e1 HH hnt h1;go_enter func175,ntmps175
  go_wp2_with fail
  go_ret
  exact Ac.out
 obtain⟨r,hr⟩:∃r:Nat,y.dK=(r:Int):=⟨y.dK.toNat,by unfold cS.out at ho;omega⟩;have hrl:r<m.dH.length:=by unfold cS.out at ho;omega
 have XY:r<nt:=by rw[hnt,htl];exact hrl
 have t17:decide ((r:Int)<0)=false:=by simp
 have t25:¬(nt≤r):=by omega
 rw[hr] at Ka⊢;have HR:=cE (cD ho (cD hr (cD hrl XY)));clear h hE hD hN htl ho hnt hr hrl XY;refine(aA (n:=2)).1 ?_;refine callsIn_of_wp_marks func175 rfl trivial ?_ rfl;simp only[ntmps175,bg,aM,aR,Nat.reduceAdd,Nat.reduceSub,bN,bM,bY,bU,List.nil_append,List.cons_append];gi_wp2_with fail
 refine⟨trivial,?_⟩;refine(aA.2 (Ej _ _ _)).mono ?_;rintro e w' ⟨rfl,rfl⟩;gi_wp2
 obtain⟨W0,xG⟩:∃W0,(((w.alloc (.cells #[.b 7,.z,.n,.I,.F,.F,.n] 35)).alloc (.cells #[.p A.mb] 24)).alloc (.cells #[.i r] 3))=W0:=⟨_,rfl⟩;have q1:W0.heap[w.heap.size]?=some (.cells (DY (.n)) 35 (0,0)):=by
  rw[←xG];exact(heap_alloc_old _ _ (by simp;omega)).trans ((heap_alloc_old _ _ cN).trans (aN w _))
 have q2:=(Boxed.new (w.alloc (.cells #[.b 7,.z,.n,.I,.F,.F,.n] 35)) 24 (.p A.mb)).alloc (.cells #[.i r] 3);have q3:=Boxed.new ((w.alloc (.cells #[.b 7,.z,.n,.I,.F,.F,.n] 35)).alloc (.cells #[.p A.mb] 24)) 3 (.i r);rw[bh] at q2;rw[bh,bh] at q3;rw[xG] at q2 q3⊢;have hs0:W0.heap.size=w.heap.size+3:=by rw[←xG];simp
 have wL:cF w W0:=by rw[←xG];exact cR (cR (cR (ah _ w) _) _) _
 have iY:=cE (cD q1 (cD q2 (cD q3 (cD hs0 wL))));clear xG q1 q2 q3 hs0 wL Ka c2 t17 t25;refine wpIn_rangeFunc_ownH (α:=cP) rfl cL (gf:=110) (lb:=#[.p (w.heap.size+1),.p (w.heap.size+1+1)]) rfl trivial (aV func110 cK rfl)
  (encs:=fun p=>#[.s p]) (Kp:=KL w.heap.size w.heap.size) (S:=fun ys=>ys=m.left r) (Sp:=fun pre=>pre <+: m.left r) (N:=48) (w0:=W0) ?seq
  (fun h k=>h.trans k) ?kb (ah _ _) (fun _=>rfl)
  (fun pre W=>OA w pre W∧pre.length<6∧w.heap.size+3≤W.heap.size) (fun c pre W=>c=.exit 0∧OA w pre W∧pre.length=6)
  (fun s A B row hs hg hr=>⟨DP w _ (by have:=iY.out.2.2.2.1;omega) _ A B row hs.1 hg hr,hs.2.1,af hs.2.2 hg.size⟩)
  (fun c s A B row hs hg hr=>⟨hs.1,DP w _ (by have:=iY.out.2.2.2.1;omega) _ A B row hs.2.1 hg hr,hs.2.2⟩)
  ⟨⟨_,iY.out.1,World.ownsRow_nil _ _ _ _,iY.out.2.2.2.2⟩,by simp,by have:=iY.out.2.2.2.1;omega⟩
  (fun x a' W=>a'={tmps:=#[.p A.mb,.p db,aj,aj,.I,.i r,.p w.heap.size,.s x,aj,aj,aj,.p db,.p db,.p db,.pointer (some ⟨db,20,none⟩),.i r,.i r,.F,.F,.i r,.p A.mb,.p A.mb,.pointer (some ⟨A.mb,2,none⟩),.slice A.ta nt A.tc,.i nt,.F,.F,.agg #[.b 7,.z,.n,.I,.F,.F,.n],.p A.mb,.i r,.func (.func 110) #[] #[.p (w.heap.size+1),.p (w.heap.size+1+1)],.s x,aj,aj,aj,aj,aj,aj,aj,aj,aj,aj,aj,aj,aj,aj,aj,aj,aj,aj,aj,aj,aj,aj,aj,aj,aj,aj,aj,aj,aj,aj,aj,aj,aj,aj,aj,aj,aj,aj,aj],defers:=[]})
  (fun x a' s A B row hs hg hr=>hs) ?assign ?body ?done ?stop
 case seq=>
  intro l J Jx W hW hJ hJx hY hJ0;obtain⟨q1,q2,q3,hs0,wL⟩:=iY.out;have hB:=wL.trans (hW.mono wL.size);have hws:=hW.size;exact En HH.out.1.fS HH.out.1.ok 1 l (w.heap.size+1) (w.heap.size+1+1) w.heap.size r HR.out.2.2.1 J Jx hY W hJ hB ((hW.block _ cL).trans q2) ((hW.block _ cL).trans q3) cL cL cL hJ0
 case kb=>
  intro W l o o' hl ho hc hw;have hs0:=iY.out.2.2.2.1;refine⟨⟨rfl,rfl,rfl,by simp[aY],fun b hb=>aH cL⟩,by simp[aY],fun b cs t fr _ _ e=>(aH (fun e1=>?_)).trans e⟩;subst e1;rw[e] at ho;cases ho;cases hc
 case assign=>
  rintro l pre x W K ⟨hI,RQ,BL⟩ hK;have OM:=cE (hK _ _ (mw (ah _ W)) (gy cL (ah _ W)) ⟨hI,RQ,BL⟩ rfl);clear hK hI;gi_wp2_with fail
  exact OM.out
 case body=>
  rintro l pre x a' W hl hloop ⟨⟨v,hv,hr,hb⟩,RQ,BL⟩ rfl hlt;have hown:=hr;obtain⟨va,vc,rfl⟩:∃a c,v=.slice a pre.length c:=by
   rcases hr.2 with ⟨e1,e2⟩|⟨g,cap,cur,e1,_⟩
   ·exact⟨none,0,by rw[e1,e2]⟩
   exact⟨_,_,e1⟩
  have y1:∀w',cF W w'→w'.cell? ⟨w.heap.size,6,none⟩=some (.slice va pre.length vc):=fun w' h=>aG _ _ 6 _ 35 (0,0) ((h.block _ (aB hv)).trans hv)
  have hxl:(pre.flatMap oz).length=pre.length*7:=hr.1;have hS:cF W W.drew:=(ah _ W).drew;obtain⟨wa,rL⟩:=cG ((W.alloc (.cells #[.B,.z,.n,.I,.F,.F,.n] 35)).drew);have ka:wa.heap[W.heap.size]?=some (.cells #[.B,.z,.n,.I,.F,.F,.n] 35 (0,0)):=by rw[rL];exact aN W _
  have hba:cF W wa:=by rw[rL];exact(cR (ah _ W) _).drew
  have LU:wa.ownsRow (w.heap.size+3) 35 7 (.slice va pre.length vc) pre.length (pre.flatMap oz):=lD hr hba;have hca:∀j u,([.B,.z,.n,.I,.F,.F,.n]:List aE)[j]?=some u→wa.cell? ((⟨W.heap.size,0,none⟩:Addr).add j)=some u:=fun j u hu=>by
   rw[Addr.add_lit,aD,aG _ _ j _ 35 (0,0) ka];simpa using hu
  obtain⟨i0,xF,hz0,hz1,hz2⟩:=info_parts TN;obtain⟨v',w6,Wg,hown',hgrow,zZ⟩:=gv (P:=prog) (w:=wa) (w.heap.size+3) 33 33 35 i0 (.agg #[.B,.z,.n,.I,.F,.F,.n]) 7 88 underlying33 xF hz0 hz1 hz2 rfl cM (.slice va pre.length vc) _ _ LU ⟨W.heap.size,0,none⟩ 1 1 _ rfl hca (by intro u hu;simp only[List.mem_cons,List.not_mem_nil,or_false] at hu;rcases hu with rfl|rfl|rfl|rfl|rfl|rfl|rfl<;>rfl) (by unfold maxLen;omega) cL (by have:=hba.size;omega);obtain⟨g',cap',rfl⟩:=ownsRow_succ hown';obtain⟨F5,p9⟩:=yW (cs:=oz x) hown' hxl rfl rfl;obtain⟨w7,nY⟩:∃a,a=w6.setCells g' (pre.length*7) [.b 2,.s x,.n,.i (-1),.F,.F,.n]:=⟨_,rfl⟩;rw[show oz x=[.b 2,.s x,.n,.i (-1),.F,.F,.n] from rfl,←nY] at F5;have hg':w.heap.size+3≤g':=(hown'.lt g' rfl).1;have Zs:∀b,(aO va pre.length vc).ownBlock=some b→w.heap.size+3≤b:=fun b e=>(hr.lt b e).1
  have Oc:Kept (fun b=>(aO va pre.length vc).ownBlock=some b∨W.heap.size≤b) W w7:=by
   rw[nY];refine((dm hba).trans ((fT hgrow).mono (fun b _ e=>.inl e))).trans ((ic w6 g' _ _).mono (fun b _ e=>?_));have e:b=g':=e;subst e;rcases zZ b rfl with h|h
   ·exact .inl h
   exact .inr (af hba.size h)
  have Yi:=aB hv;have k6:w6.heap[w.heap.size]?=some (.cells (DY (.slice va pre.length vc)) 35 (0,0)):=((fT hgrow).same ((hba.block _ Yi).trans hv) (fun e=>by have:=Zs _ e;omega));have k7:w7.heap[w.heap.size]?=some (.cells (DY (.slice va pre.length vc)) 35 (0,0)):=Oc.same hv (fun e=>by
   rcases e with e|e
   ·have:=Zs _ e;omega
   omega)
  have c7:w7.cell? ⟨w.heap.size,6,none⟩=some (.slice va pre.length vc):=aG _ _ 6 _ 35 (0,0) k7;have f7:w7.frozen? ⟨w.heap.size,6,none⟩=false:=by simp[bF,k7]
  have FIN:∀w8,w8.heap[w.heap.size]?=some (.cells (DY (.slice (some ⟨g',0,none⟩) (pre.length+1) cap')) 35 (0,0))→w8.ownsRow (w.heap.size+3) 35 7 (.slice (some ⟨g',0,none⟩) (pre.length+1) cap') (pre.length+1) (pre.flatMap oz++[.b 2,.s x,.n,.i (-1),.F,.F,.n])→
    Kept (fun b=>b=w.heap.size∨(aO va pre.length vc).ownBlock=some b∨W.heap.size≤b) W w8→KeepsFrom W0.heap.size W w8∧KL w.heap.size w.heap.size W w8∧OA w (pre++[x]) w8∧w8.cell? ⟨w.heap.size,6,none⟩=some (.slice (some ⟨g',0,none⟩) (pre.length+1) cap'):=by
   intro w8 k8 ho8 QH;have QO:Below w.heap.size W w8:=QH.below (Nat.le_of_lt Yi) (fun b e=>by
    rcases e with e|e|e
    ·omega
    ·have:=Zs b e;omega
    ·omega)
   refine⟨⟨QH.size,fun b o _ ho hno=>QH.same ho (fun e=>?_)⟩,⟨QO,QH.size,fun b cs t fr h1 h2 e=>QH.same e (fun e'=>?_)⟩,⟨_,k8,?_,hb.trans QO⟩,aG _ _ 6 _ 35 (0,0) k8⟩
   ·rcases e with rfl|e|e
    ·rw[hv] at ho;cases ho;cases hno
    ·obtain⟨cur,Ul⟩:=vT hr e
     rw[Ul] at ho;cases ho;cases hno
    ·have:=(bA.1 ho).1
     omega
   ·rcases e' with e'|e'|e'
    ·exact h1 e'
    ·obtain⟨cur,Ul⟩:=vT hr e'
     rw[Ul] at e;cases e;exact h2 rfl
    ·have:=aB e
     omega
   ·rw[List.flatMap_append,ay]
    simpa [oz] using ho8
  have hne:g'≠w.heap.size:=by omega
  have hgS:∀b,b=g'→((aO va pre.length vc).ownBlock=some b∨W.heap.size≤b):=fun b e=>by
   subst e;rcases zZ b rfl with h|h
   ·exact .inl h
   exact .inr (af hba.size h)
  have hK6:Kept (fun b=>(aO va pre.length vc).ownBlock=some b∨W.heap.size≤b) W w6:=(dm hba).trans ((fT hgrow).mono (fun b _ e=>.inl e));obtain⟨w8,uX⟩:∃a,a=w7.setCell ⟨w.heap.size,6,none⟩ (.slice (some ⟨g',0,none⟩) (pre.length+1) cap'):=⟨_,rfl⟩;have hA:=FIN w8 (by rw[uX,heap_setCell_same w7 w.heap.size 6 _ 35 _ k7];rfl) (by
   have akz:Kept (·=w.heap.size) w7 w8:=by rw[uX];exact(Kept.refl (·=w.heap.size) w7).setCell (p:=⟨w.heap.size,6,none⟩) rfl _
   exact fm F5 akz (fun g e1 e2=>by cases e1;exact hne e2)) (by
   rw[uX];exact((Oc.mono (fun b _ e=>.inr e)).setCell (p:=⟨w.heap.size,6,none⟩) (.inl rfl) _))
  have c6:w6.cell? ⟨w.heap.size,6,none⟩=some (.slice va pre.length vc):=aG _ _ 6 _ 35 (0,0) k6;have f6:w6.frozen? ⟨w.heap.size,6,none⟩=false:=by simp[bF,k6]
  obtain⟨x7,hx7⟩:∃a,a=w6.setCell ⟨w.heap.size,6,none⟩ (.slice (some ⟨g',0,none⟩) (pre.length+1) cap'):=⟨_,rfl⟩;have hkx:Kept (·=w.heap.size) w6 x7:=by rw[hx7];exact(Kept.refl (·=w.heap.size) w6).setCell (p:=⟨w.heap.size,6,none⟩) rfl _
  have ZE:=fm hown' hkx (fun g e1 e2=>by cases e1;exact hne e2);obtain⟨TW,afj⟩:=yW (cs:=oz x) ZE hxl rfl rfl;obtain⟨x8,hx8⟩:∃a,a=x7.setCells g' (pre.length*7) [.b 2,.s x,.n,.i (-1),.F,.F,.n]:=⟨_,rfl⟩;rw[show oz x=[.b 2,.s x,.n,.i (-1),.F,.F,.n] from rfl,←hx8] at TW;have kx7:x7.heap[w.heap.size]?=some (.cells (DY (.slice (some ⟨g',0,none⟩) (pre.length+1) cap')) 35 (0,0)):=by rw[hx7,heap_setCell_same w6 w.heap.size 6 _ 35 _ k6];rfl
  have abP:Kept (·=g') x7 x8:=by rw[hx8];exact ic x7 g' _ _
  have hB:=FIN x8 (abP.same kx7 (fun e=>hne e.symm)) TW (((hK6.mono (fun b _ e=>.inr e)).trans (hkx.mono (fun b _ e=>.inl e))).trans (abP.mono (fun b _ e=>.inr (hgS b e))));have eY:Hid (cH 35 7):=cE cK;have zP:=cE p9;have Fi:=cE (cD rL (cD nY (cD uX (cD hx7 hx8))));have HA:=cE hA;have HB8:=cE hB;have HTX:=cE afj;have HL6:=cE (cD RQ BL);clear ka rL nY uX hx7 hx8 hA hB afj RQ BL hv hr hb hown LU hca xF hz0 hz1 hz2 hown' hgrow zZ F5 p9 Zs Oc Yi k6 k7 FIN hgS hK6 hkx ZE TW kx7 abP hl hloop hlt;gi_wp2_with fail
  refine fB (S:=fun w'=>cF W w') (c:=6) ?_;refine fP 0 rfl (fun _=>hS) (fun w'=>by go_simp<;>rfl) ?_;simp only[cQ];refine fI 1 rfl hS (fun w' hS'=>by have:=y1 w' hS';go_simp<;>rfl) ?_;simp only[cQ];refine fP 2 rfl (fun _=>hS) (fun w'=>by go_simp<;>rfl) ?_;simp only[cQ];refine fP 3 rfl (fun _=>hS) (fun w'=>by go_simp<;>rfl) ?_;simp only[cQ];refine fP 4 rfl (fun _=>hS) (fun w'=>by go_simp<;>rfl) ?_;simp only[cQ];refine fK 5 rfl fun K' gp=>?_
  gi_wp2_with fail
  rw[←Fi.out.1];refine gp _ _ hba ?_;clear gp hS;refine fC 6 rfl fun K' gp=>?_
  refine mj (.tmp 33) (.tmp 37) 33 rfl _ _ _ w6 rfl rfl Wg (gp _ _ ?_);clear gp;simp only[cQ];have i7:(pre.length:Int)<(pre.length:Int)+1:=by omega
  refine fP 7 rfl (fun h=>absurd (Eq.trans cK h) (by decide:¬(true:Bool)=false)) (fun w'=>by go_simp<;>rfl) ?_;simp only[cQ];refine fP 9 rfl (fun h=>absurd (Eq.trans cK h) (by decide:¬(true:Bool)=false)) (fun w'=>by go_simp<;>rfl) ?_;simp only[cQ];refine fF 8 10 rfl rfl (fun K' gp=>?A) (fun K' gp=>?B)
  case' A=>
   refine kE 35 (.tmp 39) (.tmp 35) rfl g' (pre.length*7) #[.b 2,.s x,.n,.i (-1),.F,.F,.n] rfl rfl zP.out eY.out (by simp[aq]) ?_
   try dsimp only
   rw[←Fi.out.2.1];refine gp _ _ ?_;clear gp c6 f6 Wg
   try simp only[bP,au,aI,aJ]
   refine fC 10 rfl fun K' gp=>?_
   gi_wp2_with fail
   rw[←Fi.out.2.2.1];refine fD ?_ cK _;have HI8:=HA;clear c7 f7
  case' B=>
   clear c7 f7 Wg;gi_wp2_with fail
   rw[←Fi.out.2.2.2.1];clear c6 f6
   try simp only[bP,au,aI,aJ]
   refine fC 8 rfl fun K' gp=>?_
   refine kE 35 (.tmp 39) (.tmp 35) rfl g' (pre.length*7) #[.b 2,.s x,.n,.i (-1),.F,.F,.n] rfl rfl HTX.out eY.out (by simp[aq]) ?_
   try dsimp only
   rw[←Fi.out.2.2.2.2];refine gp _ _ ?_;clear gp
   try simp only[bP,au,aI,aJ]
   refine fD ?_ cK _;have HI8:=HB8
  all_goals
   have c8:=HI8.out.2.2.2;clear HA HB8;by_cases h6:pre.length=5
   ·have t44:((pre.length:Int)+1==6)=true:=by rw[h6];rfl
    gi_wp2
    exact⟨HI8.out.1,rfl,HI8.out.2.2.1,by rw[ay,h6];rfl⟩
   have t44:((pre.length:Int)+1==6)=false:=by simp;omega
   have hp6:=HL6.out.1;gi_wp2
   exact⟨HI8.out.1,HI8.out.2.1,HI8.out.2.2.1,by rw[ay,List.length_singleton];omega,af HL6.out.2 HI8.out.1.size⟩
 case' done=>
  rintro D ys W hD hys ⟨⟨v,hv,hr,hb⟩,RQ,BL⟩ hK;have hP:(m.left r).take 6=ys:=by rw[←hys];exact List.take_of_length_le cL
  clear hys RQ BL
 case' stop=>
  rintro D c ys W hD hpre ⟨rfl,⟨v,hv,hr,hb⟩,RQ⟩ hK;have hP:(m.left r).take 6=ys:=by
   obtain⟨rest,hpre⟩:=hpre;rw[←hpre];exact bz RQ
  clear hpre RQ
 all_goals
  obtain⟨va,vc,rfl⟩:∃a c,v=.slice a ys.length c:=by
   rcases hr.2 with ⟨e1,e2⟩|⟨g,cap,cur,e1,_⟩
   ·exact⟨none,0,by rw[e1,e2]⟩
   exact⟨_,_,e1⟩
  obtain⟨n,hn⟩:=cG ys.length;have hv':=hv;rw[←hn] at hv';have c6:W.cell? ⟨w.heap.size,6,none⟩=some (.slice va n vc):=aG _ _ 6 _ 35 (0,0) hv';have L3:w.heap.size+3≤D∧D<W.heap.size:=⟨by have:=iY.out.2.2.2.1;omega,(bA.1 hK).1⟩;have c3:W.cell? ⟨A.mb,3,none⟩=some (.p A.kb):=(HH.out.1.fS.below hb).cells.2.2.2.1;have Dt:=BP W A.kb A.lo m.toks (HH.out.1.fS.below hb).tok r;rw[Fp HH.out.1.ok HR.out.2.2.1] at Dt;obtain⟨ZS,tP⟩:∃b,b=(m.tok r).held:=⟨_,rfl⟩;rw[←tP] at Dt;obtain⟨ep,uE⟩:∃x:Int,x=(((if ZS=true then (m.tok r).ep else 0:Nat)):Int):=⟨_,rfl⟩;rw[←uE] at Dt;have Dt:=cE Dt;have HF:=cE (cD hv (cD hr (cD hb (cD hK (cD hP (cD hn (cD L3 tP)))))));have hout:=cE HR.out.1;clear hv hr hb hK hP L3 tP uE hD hv';by_cases hy:n=0
  ·subst hy
   clear hn;gi_wp2_with fail
   refine⟨trivial,?_⟩;refine(aA.2 Dt.out).mono ?_;rintro e W2 ⟨rfl,dz⟩;have iG:=cE dz;clear dz;cases ZS with
   |false=>
    gi_wp2
    obtain⟨hv,hr,hb,hK,hP,hn,L3,tP⟩:=HF.out;have Wo:=(iG.out.block D L3.2).trans hK;refine⟨by simp,.inl ⟨_,_,rfl,bC Wo,?_⟩⟩;have e1:m.qM (r:Int)=(m,nX 61):=by
     unfold cS.qM;rw[if_neg (by rw[←HR.out.2.1];exact hout.out),if_pos (by rw[aX];exact tP.symm)]
    have De:cF w (W2.putObj D (.deferred none)):=(hb.trans (iG.out.mono hb.size)).trans (belowK_b (w:=w) (aW _) W2 D _ _ cL Wo rfl rfl);refine⟨_,results_tmp rfl _ _ _,?_⟩;rw[e1];exact gJ (HH.out.1.fS.below De) (HH.out.1.Ch.below De) 61 (dm De)
   |true=>
   gi_wp2
   obtain⟨hv,hr,hb,hK,hP,hn,L3,tP⟩:=HF.out;have Wo:=(iG.out.block D L3.2).trans hK;refine⟨by simp,.inl ⟨_,_,rfl,bC Wo,?_⟩⟩;have h0:m.left r=[]:=by
    have e2:=aP hn.symm;rw[e2] at hP;cases hl:m.left r with
    |nil=>rfl
    |cons a b=>rw[hl] at hP;simp at hP
   have e1:m.qM (r:Int)=(m,nX 0):=by
    unfold cS.qM;rw[if_neg (by rw[←HR.out.2.1];exact hout.out),if_neg (by rw[aX,←tP];simp),aX,if_pos h0]
   have De:cF w (W2.putObj D (.deferred none)):=(hb.trans (iG.out.mono hb.size)).trans (belowK_b (w:=w) (aW _) W2 D _ _ cL Wo rfl rfl);refine⟨_,results_tmp rfl _ _ _,?_⟩;rw[e1];exact gJ (HH.out.1.fS.below De) (HH.out.1.Ch.below De) 0 (dm De)
  have t47:0<n:=by omega
  have OJ:Hid (W.rangeAt w.heap.size 0 [.b 7,.z,.n,.I,.F,.F,.slice va n vc]):=cE (dD (by have:=HF.out.1;rw[←hn] at this;exact this));have eY:Hid (cH 35 7):=cE cK;have HS3:Hid (cH 47 13):=cE iD;have gu:Hid ((#[.I,.z,.n,.U,.U,.U,.I,.U,.V,.V,.V,.n,.n]:Array aE).all (·.oneCell')=true):=cE (by simp[aq]);have HAS:Hid (aT prog 247 #[.p A.mb,.p db,.i r,.agg #[.b 7,.z,.n,.I,.F,.F,.slice va n vc],.agg #[.I,.U]] W (VX W.heap.size w0 W {A with X:=fun b=>A.X b∨b=D} db E (m.asked r (m.tG r) ⟨0,0⟩) ZS)):=cE (by
   obtain⟨hv,hr,hb,hK,hP,hn',L3,tP⟩:=HF.out;have h:=HH.out.1;have h6:ys.length≤6:=by rw[←hP,bq];omega
   have hpl:∀p∈ys,p.length≤64:=fun p hp=>by
    rw[←hP] at hp;have h1:=List.mem_of_mem_take hp;rw[cS.left_eq] at h1;have h2:=(List.mem_filter.1 h1).1;have h3:∀q∈gU (m.nodes r),q.length≤64:=fun q hq=>by
     have:=Qs.1 hq;obtain⟨x,hx,rfl⟩:=bL.1 this;exact((h.ok.tree r HR.out.2.2.1).node x hx).1
    exact h3 p h2
   have hin:=WV (F:=A.F) hr (by rw[←hn'];exact t47) h6 hpl;have ho:m.tG r=⟨⟨7,[],[],0,false,false⟩,ys.map fun p=>⟨2,p,[],-1,false,false⟩⟩:=by unfold cS.tG;rw[hP]
   rw[tP,ho,hn'];refine Fb (h.fS.ag0 hb cL L3.2) h.ok HH.out.2.1 HR.out.2.2.1 hin ⟨by unfold kV.seq;simpa using h6,fun p hp=>?_⟩ (who:=⟨0,0⟩) ⟨⟨by decide,by decide⟩,⟨by decide,by decide⟩⟩ (h.Ch.below hb) (.inl h.X) (aW _);unfold kV.seq at hp;simp only[if_true,bL] at hp;obtain⟨q,_,rfl⟩:=hp;exact bS _)
  clear hn;gi_wp2_with (first
   |(refine jJ (fun _=>trivial) cO 35 (.tmp 6) rfl w.heap.size 0 rfl [.b 7,.z,.n,.I,.F,.F,.slice va n vc] _ OJ.out underlying35 rfl eY.out ?_)
   |fail)
  refine⟨trivial,?_⟩;refine(aA.2 HAS.out).mono ?_;rintro e W2 ⟨hDE,rfl⟩;obtain⟨⟨c',e0,R,ri,Lr,hce,hDB,_,hI,_,hzz⟩,⟨va',vc',ov',C',hM,afI⟩,hk⟩:=hDE;obtain⟨cc,hcc⟩:∃x:Int,x=if ZS=false then 61 else 0:=⟨_,rfl⟩
  rw[←hcc] at hce⊢;have QN:cc=c':=by injection hce with hce;injection hce with _ hce
  rw[←QN] at hzz;have HZZ:=cE hzz;clear hzz QN;have zP:Hid (W2.there db 23 13):=cE (hDB.there 23 13 cM);obtain⟨W3,J8⟩:∃x,x=W2.setCells db 23 [.I,.z,.n,.U,.U,.U,.I,.U,.V,.V,.V,.n,.n]:=⟨_,rfl⟩;have vz:=cE J8;have HG:=cE (cD hDB (cD hI (cD hM (cD hk hcc))));have HOV:=cE afI;clear afI;clear hDB hI hM hk hcc J8 hce;gi_wp2_with (first
   |(refine lz (fun _=>trivial) cO 47 (.tmp 58) (.tmp 56) rfl db 23 #[.I,.z,.n,.U,.U,.U,.I,.U,.V,.V,.V,.n,.n] rfl rfl zP.out HS3.out gu.out ?_;rw[←vz.out])
   |fail)
  obtain⟨hv,hr,hb,hK,hP,hn',L3,tP⟩:=HF.out;obtain⟨hDB,hI,hM,hk,hcc⟩:=HG.out;have h:=HH.out.1;have aqB:db<w.heap.size:=h.Ch.lt;have Wo:W2.heap[D]?=some (.deferred (some [])):=hk.same hK (fun e=>by
   rcases e with e|e
   ·have e:A.Z D:=e
    have:=h.fS.Dx e;omega
   omega)
  have Da:Kept (·=db) W2 W3:=by rw[vz.out];exact ic W2 db 23 _
  have J9:W3.heap[D]?=some (.deferred (some [])):=Da.same Wo (fun e=>by have e:D=db:=e;omega);refine⟨by simp,.inl ⟨_,_,rfl,bC J9,?_⟩⟩;refine⟨_,results_tmp rfl _ _ _,?_⟩;obtain⟨agC,hU⟩:=hDB.aek (R':=zR) rfl (fun x hx n e=>by
   subst e;simp[zR] at hx)
  have hM3:=hM.Nk (o:=23) (cs:=zR) hDB (.inl h.X) hU;have e3:W3=W2.setCells db 23 zR:=vz.out;rw[←e3] at agC hM3;have hM4:=(hM3.ajC (.inr rfl) J9 (.deferred none)).zV (X:=A.X) (fun b e=>by
   have:=hM3.xz b (.inl e);exact⟨this.1,this.2.1,by simpa [aY] using this.2.2⟩) (fun b e=>fun e2=>e.2 (.inl e2))
  have F8:=yg W3 D (.deferred none);have hne:m.left r≠[]:=fun e=>by
   rw[e] at hP;have:ys=[]:=by rw[←hP];rfl
   rw[this] at hn';simp at hn';omega
  have hre:m.qM (r:Int)=((m.asked r (m.tG r) ⟨0,0⟩).1,⟨cc,l5,[],(m.asked r (m.tG r) ⟨0,0⟩).2.i⟩):=by
   unfold cS.qM cS.asked;rw[if_neg (by rw[←HR.out.2.1];exact hout.out),aX,hcc];cases ZS with
   |false=>rw[if_pos tP.symm,if_pos tP.symm];rfl
   |true=>rw[if_neg (by rw[←tP];simp),if_neg hne,if_neg (by rw[←tP];simp)];rfl
  rw[hre];have qJ:Kept (fun b=>A.Z b∨b=db) w (W3.putObj D (.deferred none)):=by
   have k1:Kept (fun b=>A.Z b∨b=db) w W3:=((dm hb).trans hk).trans (Da.mono (fun b _ e=>.inr e));refine⟨k1.os,k1.tape,k1.output,af k1.size (by simp[aY]),fun b hlt hnb=>?_⟩;exact(aH cL).trans (k1.block b hlt hnb)
  refine⟨⟨cc,0,zR,ri,Lr,rfl,agC.kept F8 (fun e=>by have e:db=D:=e;omega),jP _ _ _,?_,by by_cases hc:cc=0<;>simp[hc],fun hc=>⟨rfl,(HZZ.out hc).2.1,(HZZ.out hc).2.2.1,(HZZ.out hc).2.2.2.1,rfl,rfl⟩⟩,⟨va',vc',ov',C',hM4,fun b e=>(HOV.out b e).imp id (fun e2=>af hb.size e2)⟩,qJ⟩;have hI3:=hI.kept Da (fun b dz e=>?_)
  ·exact(hI3.jX F8 (fun b _ ⟨cs,t,fr,hc⟩ e=>by have e:b=D:=e;rw[e,J9] at hc;cases hc)).mono (fun b dz=>by
    have eE:W.heap.size≤b:=dz.1;have:=hb.size;have:=h.hB;exact⟨by omega,hM4.Bt (dz.2 _ hM.cells.2.2.2.2.2.2)⟩)
  have e:b=db:=e;have dz:W.heap.size≤b:=dz.1;have:=hb.size;omega
end
def Mv(k:Nat):Option Nat:=if k=1 then some 171 else if k=2 then some 169 else if k=3 then some 170 else if k=4 then some 172 else if k=5 then some 173 else if k=6 then some 174 else if k=7 then some 175 else none
section
variable{B:Nat}{w0 w:World}{A:MA}{m:cS}{N db:Nat}{y:fR}{E:List Value}
theorem YD(h:CD B w0 w A m N db y E)(hN:N≤80000){f:Nat}(hf:Mv y.kind=some f):aT prog f #[.p A.mb,.p db] w (iq B w0 w A db E (m.apply y)):=by
 unfold Mv at hf;unfold cS.apply;by_cases h1:y.kind=1
 ·rw[if_pos h1] at hf;cases hf;rw[h1];exact G9 h hN
 rw[if_neg h1] at hf;by_cases h2:y.kind=2
 ·rw[if_pos h2] at hf;cases hf;rw[h2];exact KC h.fS h.ok h.Ch h.X h.hB
 rw[if_neg h2] at hf;by_cases h3:y.kind=3
 ·rw[if_pos h3] at hf;cases hf;rw[h3];exact He h.fS h.ok h.hN h.US h.owner h.Ch h.X h.hB
 rw[if_neg h3] at hf;by_cases h4:y.kind=4
 ·rw[if_pos h4] at hf;cases hf;rw[h4];exact Kz h
 rw[if_neg h4] at hf;by_cases h5:y.kind=5
 ·rw[if_pos h5] at hf;cases hf;rw[h5];exact SG h
 rw[if_neg h5] at hf;by_cases h6:y.kind=6
 ·rw[if_pos h6] at hf;cases hf;rw[h6];exact Pc h
 rw[if_neg h6] at hf;by_cases h7:y.kind=7
 ·rw[if_pos h7] at hf;cases hf;rw[h7];exact KB h hN
 rw[if_neg h7] at hf;cases hf
theorem MP(h:Mv y.kind=none):m.apply y=(m,nX 1):=by
 unfold Mv at h;unfold cS.apply;split
 all_goals first
  |rfl
  |(rename_i e;rw[e] at h;simp at h)
end
theorem yM.nO{w:an}{B n:Nat}{y:fR}{o:cV}{L:List cV}{i:dS}{Ei:List cZ}{fa:Option Addr}(h:yM w (fQ B) y o L i Ei fa)(hn:w.heap.size≤n):
  yM w (fun b=>B≤b∧(b<n∨y.dY.dB=[])) y o L i Ei fa∧dr w (fun b=>B≤b∧b<n) i.sa y.dY.stamp:=by
 have g:∀b,fQ B b→b<w.heap.size→B≤b∧(b<n∨y.dY.dB=[]):=fun b h1 h2=>⟨h1,.inl cL⟩
 refine⟨⟨h.leaf.both g,h.pn,h.like.both g,fun k q hq=>?_,⟨h.dY.stamp.mono (fun b h2 h1=>g b h1 h2),h.dY.like.both g,h.dY.row,fun ad e=>⟨h.dY.new ad e,?_⟩⟩,h.fr.mono (fun b h2 h1=>g b h1 h2)⟩,h.dY.stamp.mono (fun b h2 h1=>⟨h1,by omega⟩)⟩
 ·obtain⟨b,e1,e2,e3,e4⟩:=h.row k q hq
  exact⟨b,e1,g b e2 e3,e3,e4⟩
 by_cases he:y.dY.dB=[]
 ·exact .inr he
 have h0:0<Ei.length:=by
  rw[h.dY.like.1];exact List.length_pos_iff.2 he
 obtain⟨b,off,e1,e2,_⟩:=h.dY.row 0 _ (ag h0);rw[e1] at e;cases e;exact .inl (Nat.lt_of_lt_of_le e2 hn)
theorem SN(k:Nat):(dF k aaX)=Mv k:=by
 unfold Mv aaX;simp only[dF];by_cases h1:k=1
 ·subst h1;rfl
 by_cases h2:k=2
 ·subst h2;rfl
 by_cases h3:k=3
 ·subst h3;rfl
 by_cases h4:k=4
 ·subst h4;rfl
 by_cases h5:k=5
 ·subst h5;rfl
 by_cases h6:k=6
 ·subst h6;rfl
 by_cases h7:k=7
 ·subst h7;rfl
 simp[h1,h2,h3,h4,h5,h6,h7,aQ h1,aQ h2,aQ h3,aQ h4,aQ h5,aQ h6,aQ h7]
theorem MS.look{w:an}{b:Nat}(h:MS w b)(k:Nat)(hk:k<256):∃v,v=((Mv k).map UM).getD .nilFunc∧∀W,cF w W→(Instr.lookup 148 (.map (some b)) (.b k) true).run prog W=.ok (.tuple #[v,.bool (Mv k).isSome]) W:=by
 obtain⟨l,hl0⟩:=Et hk;refine⟨_,rfl,fun W hW=>?_⟩;have hl:=(dL.of_block h (hW.block _ (dL.lt h))).mU iW eA underlying148 (z:=.nilFunc) cK (a:=k) hl0;rw[SN] at hl;exact hl
theorem Mu{k f:Nat}(h:Mv k=some f):∀args w,(callFunc f args).run prog w=.ok (.enter f args) w:=by
 unfold Mv at h;split at h
 ·cases h;exact aV func171 cK rfl
 split at h
 ·cases h;exact aV func169 cK rfl
 split at h
 ·cases h;exact aV func170 cK rfl
 split at h
 ·cases h;exact aV func172 cK rfl
 split at h
 ·cases h;exact aV func173 cK rfl
 split at h
 ·cases h;exact aV func174 cK rfl
 split at h
 ·cases h;exact aV func175 cK rfl
 cases h
theorem Rh{w0 w w2 w6:an}{A:MA}{m:cS}{N db:Nat}{y:fR}{E:List aE}(h:cU w0 w A m)(ok:m.Ok N)(hN:N≤1000000)(hy:mC y)(dz:cF w w2)(qb:cF w2 w6)(hdb:w2.heap.size≤db)
  {o:cV} {L:List cV} {i:dS} {Ei:List cZ} {fa:Option Addr} {fc:Nat} (hE:E=y.cells o i fa fc) (hD:yM w2 (fQ w.heap.size) y o L i Ei fa) (k6:w6.heap[db]?=some (.cells (E++zR++zI).toArray 49 (0,0))):
  CD w.heap.size w0 w6 {A with X:=fun b=>A.X b∨b=db} m N db y E:=by
 have hb:cF w w6:=dz.trans (qb.mono dz.size);obtain⟨tQ,Gb⟩:=hD.nO (n:=db) hdb;refine⟨h.ag0 hb (af dz.size hdb) (aB k6),ok,hN,hy,⟨o,L,i,Ei,fa,fc,hE,tQ.Ev (dm (S:=fun _=>False) qb) (fun _ _ _ e=>e)⟩,fun o' i' R6 UL hE'=>?_,⟨k6,by rw[hE];rfl,rfl,rfl,fun x hx n e=>?_,fun x hx n e=>?_⟩,.inr rfl,hb.size,fun b hz=>h.Dx hz,fun b e=>h.nO.lt b e⟩
 ·have e1:y.cells o i fa fc=y.cells o' i' R6 UL:=hE.symm.trans hE'
  have e2:=congrArg (fun l:List aE=>l[16]?) e1;have e3:some (aO i.sa y.dY.stamp.length i.sc)=some (aO i'.sa y.dY.stamp.length i'.sc):=e2
  injection e3 with e4
  injection e4 with e5
  rw[←e5];exact Gb.below qb
 ·subst e
  simp[zR] at hx
 subst e;simp[zI] at hx
def fq(w0 w:an)(A:MA)(x:cS×jt)(e:Ending)(w':an):Prop:=
 ∃(E R:List aE) (r:dS) (L:List cZ),e=.returned (.agg (E++R++cT x.2.i r).toArray)∧E.length=23∧(E.toArray:Array aE).all (·.oneCell')=true∧R.length=13∧fA w' (fQ w.heap.size) (.agg R.toArray) x.2.e x.2.a x.2.r∧eu w' (fun b=>w.heap.size≤b∧yL w' A.mb b) r L x.2.i∧
  (∃va vc ov C,cU w0 w' (A.PL va vc ov C) x.1∧∀b,ov.ownBlock=some b→A.ov.ownBlock=some b∨w.heap.size≤b)∧Kept A.Z w w'
theorem cU.Y9{w0 w:an}{A:MA}{m:cS}(h:cU w0 w A m){X F:Nat→Prop}(h1:∀b,X b→A.X b)(h2:∀b,F b→A.F b):cU w0 w {A with X:=X,F:=F} m:=by
 have hl:∀b,b<w.heap.size→A.lo b→({A with X:=X,F:=F}:MA).lo b:=fun b hb hlo=>⟨hlo.1,fun e=>hlo.2 (h1 b e)⟩
 have hd:=h.data.mono hl;exact⟨h.blk,⟨hd.dH,hd.row,hd.v,hd.dY⟩,h.tl,h.tr,h.nd,h.tok.more hl,h.yR,h.own,h.oq,h.cl,h.kd,h.lo,fun b e=>h.xz b (h1 b e),h.pow,h.mx,h.bl,⟨fun b e=>h.nO.lt b (h2 b e),fun r b hr=>by
  obtain⟨lo,mb,T,hlo⟩:=h.nO.tr r b hr;exact⟨lo,mb,T,fun k hk e=>hlo k hk (h2 k e)⟩,fun i x c hx hc=>(h.nO.dY i x c hx hc).both (fun k hk _ e=>hk (h2 k e))⟩⟩
def MA.app(A:MA)(n db:Nat):MA:={A with X:=fun b=>(A.X b∨b=n)∨b=db,F:=fun b=>A.F b∨b=n}
theorem aa2{e0:Int}{p:cP}{rr:Raw}{ka:Option Addr}{kn kc:Nat}{pa:Option Addr}{pn pc:Nat}:((ez e0 p rr ka kn kc pa pn pc).toArray:Array aE).all (·.oneCell')=true:=by
 simp[ez,Raw.cells,eL.cells,aq]
theorem ry{w:an}{lo:Nat→Prop}{R:List aE}{e:Int}{a:JY}{rs:List xI}(h:fA w lo (.agg R.toArray) e a rs):(R.toArray:Array aE).all (·.oneCell')=true:=by
 obtain⟨rr,ka,kc,pa,pc,h1,_⟩:=h
 injection h1 with h1
 have h2:R=ez e a.path rr ka a.kids.length kc pa rs.length pc:=by simpa using congrArg Array.toList h1
 rw[h2];exact aa2
theorem wV{E R:List aE}{x:gK}{r:dS}(hE:(E.toArray:Array aE).all (·.oneCell')=true)(hR:(R.toArray:Array aE).all (·.oneCell')=true):((E++R++cT x r).toArray:Array aE).all (·.oneCell')=true:=by
 simp only[List.all_toArray,List.all_append] at*;rw[hE,hR];simp[cT,aq]
theorem DO{w:an}{lo:Nat→Prop}{R:List aE}{e:Int}{a:JY}{rs:List xI}(h:fA w lo (.agg R.toArray) e a rs):R[0]?=some (.i e):=by
 obtain⟨rr,ka,kc,pa,pc,h1,_⟩:=h
 injection h1 with h1
 have h2:R=ez e a.path rr ka a.kids.length kc pa rs.length pc:=by simpa using congrArg Array.toList h1
 rw[h2];rfl
theorem yI{w0 w w6 w7:an}{A:MA}{m:cS}(h:cU w0 w A m){Y:cS×jt}{E R:List aE}(hone:(E.toArray:Array aE).all (·.oneCell')=true){r:dS}{L:List cZ}{db:Nat}{cs:Array aE}(qb:cF w w6)(hdb:w.heap.size<db)(hk:Kept (fun b=>(A.app w.heap.size db).Z b∨b=db) w6 w7)
  (hres:w7.heap[w.heap.size]?=some (.cells cs 49 (0,0))) (hst:∃va vc ov C,cU w0 w7 ((A.app w.heap.size db).PL va vc ov C) Y.1∧∀b,ov.ownBlock=some b→A.ov.ownBlock=some b∨w6.heap.size≤b) (hD:DB w7 db E R (cT Y.2.i r)) (hR:fA w7 (fQ (w.heap.size+1)) (.agg R.toArray) Y.2.e Y.2.a Y.2.r) (hI:eu w7 (fun b=>w.heap.size+1≤b∧yL w7 A.mb b) r L Y.2.i):
  fq w0 w A Y (.returned (.agg (E++R++cT Y.2.i r).toArray)) (w7.setCells w.heap.size 0 (E++R++cT Y.2.i r)):=by
 have QI:=ic w7 w.heap.size 0 (E++R++cT Y.2.i r);obtain⟨va,vc,ov,C,hm,EE⟩:=hst;have X4:=(hm.Jg QI (fun b e=>by
   have e:b=w.heap.size:=e;subst e;exact⟨.inl (.inr rfl),.inr rfl,gQ hres⟩)).Y9 (X:=A.X) (F:=A.F) (fun b e=>.inl (.inl e)) (fun b e=>.inl e)
 refine⟨E,R,r,L,rfl,hD.le,hone,hD.lr,(hR.dP QI (fun k hk _ e=>?_)).mono (fun k hk=>af (Nat.le_succ _) hk),(hI.kept QI (fun k hk e=>?_)).mono (fun k hk=>⟨af (Nat.le_succ _) hk.1,X4.Bt (hk.2 _ hm.cells.2.2.2.2.2.2)⟩),?_,?_⟩
 ·have e:k=w.heap.size:=e
  have hk:w.heap.size+1≤k:=hk;omega
 ·have e:k=w.heap.size:=e
  have hk:w.heap.size+1≤k:=hk.1;omega
 ·exact⟨va,vc,ov,C,X4,fun b e=>(EE b e).imp id (fun e2=>af qb.size e2)⟩
 have k1:Kept (fun b=>A.Z b∨b=db∨b=w.heap.size) w (w7.setCells w.heap.size 0 (E++R++cT Y.2.i r)):=((dm qb).trans (hk.mono (fun b _ e=>e.imp id .inl))).trans (QI.mono (fun b _ e=>.inr (.inr e)));exact⟨k1.os,k1.tape,k1.output,k1.size,fun b hlt hnb=>k1.block b hlt (fun e=>by
  rcases e with e|e|e
  ·exact hnb e
  ·omega
  omega)⟩
theorem Rz{w0 w w6 w7:an}{A:MA}{Y:cS×jt}{E:List aE}{db:Nat}{cc:Int}(hdb:w.heap.size<db)(hk:Kept (fun b=>(A.app w.heap.size db).Z b∨b=db) w6 w7)
  (hst:∃va vc ov C,cU w0 w7 ((A.app w.heap.size db).PL va vc ov C) Y.1∧∀b,ov.ownBlock=some b→A.ov.ownBlock=some b∨w6.heap.size≤b) (hD:DB w7 db E zR zI):
  Kept (fun b=>(A.app w.heap.size db).Z b∨b=db) w6 (w7.setCell ⟨db,23,none⟩ (.i cc))∧(∃va vc ov C,cU w0 (w7.setCell ⟨db,23,none⟩ (.i cc)) ((A.app w.heap.size db).PL va vc ov C) Y.1∧∀b,ov.ownBlock=some b→A.ov.ownBlock=some b∨w6.heap.size≤b)∧DB (w7.setCell ⟨db,23,none⟩ (.i cc)) db E (zR.set 0 (.i cc)) zI:=by
 obtain⟨Od,hU⟩:=hD.aem (k:=0) (v:=.i cc) cM (fun n e=>by cases e);obtain⟨va,vc,ov,C,hm,EE⟩:=hst;exact⟨hk.setCell (p:=⟨db,23,none⟩) (.inr rfl) _,⟨va,vc,ov,C,hm.SK hD (.inr rfl) hU,EE⟩,Od⟩
end
