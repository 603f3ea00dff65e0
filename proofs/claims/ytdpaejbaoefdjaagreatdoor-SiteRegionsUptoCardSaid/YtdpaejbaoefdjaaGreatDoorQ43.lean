/- Part 43. -/
import Derived.Test.YtdpaejbaoefdjaaGreatDoorQ39
import Derived.Test.YtdpaejbaoefdjaaGreatDoorQ44
open List renaming getElem?_eq_getElem → aa,getElem?_eq_some_iff → af,mem_iff_getElem? → ag,length_append → ah,getElem?_eq_none → ay,getElem?_set_ne → aA,toList_toArray → aB,getElem?_map → aC
open Go renaming wpList_load_mid → aj,World → an,Calls → aq
open Go.RowKit.Below renaming refl → au
namespace Go.Proofs.YtdpaejbaoefdjaaGreatDoor
open Go.Proofs.Tryz
set_option maxRecDepth 100000
set_option maxHeartbeats 64000000
set_option linter.unusedVariables false
set_option linter.unusedSimpArgs false
section
open Go.RowKit Go.Shelf Go.MapKept Go.ChangeMaps
structure MR(w:an)(x:jj):Prop where
 path:x.o.path.length≤200
 pn:x.o.pn≤10
 parts:∀(j:Nat) b off q,j<x.o.pn→x.o.pa=some ⟨b,off,none⟩→w.rangeAt b (off+j*7) (cV.cells q)→q.path.length≤200
def ac9(L:List jj)(w:an)(e:Ending)(w':an):Prop:=(∃g,e=.returned (.bool g)∧(g=false→L.length≤60∧∀(k:Nat) x,L[k]?=some x→MR w x))∧cF w w'
theorem FT(w:an)(a:Option Addr)(c:Nat)(L:List jj)(hat:CC w a L)(hl:L.length≤maxLen):
  aq prog 11 #[.slice a L.length c] w (ac9 L w):=by
 obtain⟨n,hn⟩:=cG L.length;rw[←hn];rw[←hn] at hl;unfold maxLen at hl;have HA:=cE (cD hat hn);have Ah:Hid (cH 42 23):=cE cK;clear hat hn;by_cases h60:60<n
 ·have t1:decide ((60:Int)<(n:Int))=true:=by simp;omega
  clear h60;go_enter func11,ntmps11
  go_wp2
  go_ret
  exact⟨⟨_,rfl,fun h=>by cases h⟩,au _ _⟩
 have t0:decide ((60:Int)<(n:Int))=false:=by simp;omega
 have Ud:n≤60:=by omega
 clear h60 hl;go_enter func11,ntmps11
 go_wp2_with fail
 go_loopw [3] (fun iv wr=>∃k:Nat,k≤n∧iv=.i k∧Hid (cF w wr∧∀(i:Nat) x,i<k→L[i]?=some x→MR w x)) (fun iv _=>n - (intOf iv).toNat)
 case atStart=>exact⟨0,by omega,rfl,cE ⟨au _ _,fun i x hi=>by omega⟩⟩
 obtain⟨k,hk,rfl,HS⟩:=hrel;by_cases hlt:k<n
 ·obtain⟨x,hx⟩:∃x,L[k]?=some x:=⟨_,aa (by rw[←HA.out.2];exact hlt)⟩
  obtain⟨b,off,ha,hb,eW,hin,_⟩:=HA.out.1 k x hx;subst ha;have hrw:=dA eW HS.out.1 hb;obtain⟨X,⟨ok,op,oa,on,oc,ov,os,oe,pa,pn,pc⟩,⟨sa,sc,ea,ec⟩,Li,fa,fc⟩:=x;obtain⟨dn,hop⟩:=(hin.below HS.out.1).op;have uz:=qs hop;dsimp only at uz;obtain⟨CS,kI⟩:∃l,l=jj.cells ⟨X,⟨ok,op,oa,on,oc,ov,os,oe,pa,pn,pc⟩,⟨sa,sc,ea,ec⟩,Li,fa,fc⟩:=⟨_,rfl⟩;obtain⟨sn,C8⟩:∃m,m=X.dY.stamp.length:=⟨_,rfl⟩;obtain⟨en,BO⟩:∃m,m=X.dY.dB.length:=⟨_,rfl⟩;obtain⟨fn,hfn⟩:∃m,m=X.fr.length:=⟨_,rfl⟩;have Ad:CS.length=23:=by rw[kI];rfl
  have hone:(CS.toArray:Array Value).all (·.oneCell')=true:=by rw[kI];simp[jj.cells,iS.cells,gF,Value.oneCell']
  have q6:CS[6]?=some (.s op):=by rw[kI];rfl
  have q7:CS[7]?=some (.slice oa on oc):=by rw[kI];rfl
  have q11:CS[11]?=some (.slice pa pn pc):=by rw[kI];rfl
  have q16:CS[16]?=some (.slice sa sn sc):=by rw[kI,C8];rfl
  have V0:CS[17]?=some (.slice ea en ec):=by rw[kI,BO];rfl
  have q22:CS[22]?=some (.slice fa fn fc):=by rw[kI,hfn];rfl
  rw[←kI] at hrw;obtain⟨w1,hw1⟩:∃a,a=wr.alloc (.cells #[.B,.U,.U,.I,.U,.B,.z,.n,.I,.F,.F,.n,.I,.V,.I,.V,.n,.n,.U,.I,.I,.V,.n] 42):=⟨_,rfl⟩;have k1:w1.heap[wr.heap.size]?=some (.cells #[.B,.U,.U,.I,.U,.B,.z,.n,.I,.F,.F,.n,.I,.V,.I,.V,.n,.n,.U,.I,.I,.V,.n] 42 (0,0)):=by rw[hw1];exact heap_alloc_new wr _
  have de:cF wr w1:=by rw[hw1];exact cR (au _ wr) _
  obtain⟨w2,eS⟩:∃a,a=w1.setCells wr.heap.size 0 CS:=⟨_,rfl⟩;have k2:w2.heap[wr.heap.size]?=some (.cells CS.toArray 42 (0,0)):=by rw[eS];exact fG k1 Ad
  have dz:cF wr w2:=by rw[eS];exact iy (w1:=wr) de 0 _ (Nat.le_refl _)
  have mX:=cE hrw;have me:=cE hw1;have lS:=cE eS;have Ag:Hid (cH 42 CS.length):=cE (by rw[Ad];exact Ah.out);have YS:Hid (cH 42 CS.toArray.size):=cE (by rw[show CS.toArray.size=23 by simpa using Ad];exact Ah.out);have HT:Hid (w1.there wr.heap.size 0 CS.toArray.size):=cE (by rw[show CS.toArray.size=23 by simpa using Ad];exact dR k1 0 23 cN);have gu:=cE hone;have hcell:∀j v,CS[j]?=some v→w2.cell? ⟨wr.heap.size,j,none⟩=some v:=fun j v hv=>by
   rw[cell_of_row _ _ j _ 42 (0,0) k2];simpa using hv
  have z6:=hcell 6 _ q6;have z7:=hcell 7 _ q7;have z11:=hcell 11 _ q11;have z16:=hcell 16 _ q16;have z17:=hcell 17 _ V0;have z22:=hcell 22 _ q22;have YW:Hid (∀j,j<pn→∃b off q,pa=some ⟨b,off,none⟩∧w2.rangeAt b (off+j*7) (cV.cells q)):=cE (fun j hj=>by
   obtain⟨b,off,q,g1,g2,g3⟩:=uz j hj;exact⟨b,off,q,g1,dA g3 dz g2⟩)
  have Dv:=cE (HS.out.1.trans (dz.mono HS.out.1.size));have HXP:Hid (∀(j:Nat) b off q,j<pn→pa=some ⟨b,off,none⟩→w.rangeAt b (off+j*7) (cV.cells q)→∃b' off',pa=some ⟨b',off',none⟩∧w2.rangeAt b' (off'+j*7) (cV.cells q)):=cE (fun j b off q hj e hr=>⟨b,off,e,dA hr (HS.out.1.trans (dz.mono HS.out.1.size)) (World.block_lt_of_cell? _ _ (hr 0 _ rfl))⟩);have HKX:=cE (show L[k]?=some ⟨X,⟨ok,op,oa,on,oc,ov,os,oe,pa,pn,pc⟩,⟨sa,sc,ea,ec⟩,Li,fa,fc⟩ from hx);have Y8:decide ((k:Int)<(n:Int))=true:=by simp;omega
  have ajr:decide (k<n)=true:=by simp;omega
  clear hx hb eW hrw hin hop uz kI C8 BO hfn Ad hone q6 q7 q11 q16 V0 q22 hw1 k1 de eS k2 dz hcell;go_upto_region 7 with (first
   |(rw[←me.out];refine wpList_store_mid rfl 42 (.tmp 4) (.tmp 18) rfl wr.heap.size 0 CS.toArray rfl rfl HT.out YS.out gu.out ?_;rw[aB,←lS.out])
   |(refine aj rfl 42 (.tmp 17) rfl b (off+k*23) rfl CS _ mX.out underlying42 rfl Ag.out ?_)
   |fail)
  by_cases Rc:decide ((200:Int)<((bs op).size:Int))=true
  ·go_wp2_with fail
   go_ret
   exact⟨⟨_,rfl,fun h=>by cases h⟩,Dv.out⟩
  replace Rc:decide ((200:Int)<((bs op).size:Int))=false:=by simpa using Rc
  by_cases U1:decide ((200:Int)<(on:Int))=true
  ·go_wp2_with fail
   go_ret
   exact⟨⟨_,rfl,fun h=>by cases h⟩,Dv.out⟩
  replace U1:decide ((200:Int)<(on:Int))=false:=by simpa using U1
  by_cases Mr:decide ((10:Int)<(pn:Int))=true
  ·go_wp2_with fail
   go_ret
   exact⟨⟨_,rfl,fun h=>by cases h⟩,Dv.out⟩
  replace Mr:decide ((10:Int)<(pn:Int))=false:=by simpa using Mr
  by_cases U0:decide ((20:Int)<(en:Int))=true
  ·go_wp2_with fail
   go_ret
   exact⟨⟨_,rfl,fun h=>by cases h⟩,Dv.out⟩
  replace U0:decide ((20:Int)<(en:Int))=false:=by simpa using U0
  by_cases UZ:decide ((10:Int)<(sn:Int))=true
  ·go_wp2_with fail
   go_ret
   exact⟨⟨_,rfl,fun h=>by cases h⟩,Dv.out⟩
  replace UZ:decide ((10:Int)<(sn:Int))=false:=by simpa using UZ
  by_cases UY:decide ((10:Int)<(fn:Int))=true
  ·go_wp2_with fail
   go_ret
   exact⟨⟨_,rfl,fun h=>by cases h⟩,Dv.out⟩
  replace UY:decide ((10:Int)<(fn:Int))=false:=by simpa using UY
  have ZD:pn≤10:=by have:=Mr;simp at this;omega
  go_wp2_with fail
  go_loopw [5] (fun jv wr2=>∃j:Nat,j≤pn∧jv=.i j∧Hid (wr2=w2∧∀(i:Nat) b off q,i<j→pa=some ⟨b,off,none⟩→w2.rangeAt b (off+i*7) (cV.cells q)→q.path.length≤200)) (fun jv _=>pn - (intOf jv).toNat)
  case atStart=>exact⟨0,by omega,rfl,cE ⟨rfl,fun i _ _ _ hi=>by omega⟩⟩
  obtain⟨j,hj,rfl,HE⟩:=hrel;obtain⟨hww,J4⟩:=HE.out;subst hww;have VF:=cE J4;clear J4;by_cases hjt:j<pn
  ·have tj:decide ((j:Int)<(pn:Int))=true:=by simp;omega
   have tjn:decide (j<pn)=true:=by simp;omega
   obtain⟨gb,go_,⟨pk,pp,da,dn,dc,pv,Zi,Zj,ga,gn,gc⟩,hqa,eW⟩:=YW.out j hjt;subst hqa;have v1:=eW 1 _ rfl;have v2:=eW 2 _ rfl;have v6:=eW 6 _ rfl;have HRQ:=cE eW;clear eW;go_upto_region 12 with fail
   by_cases Re:decide ((200:Int)<((bs pp).size:Int))=true
   ·go_wp2_with fail
    go_ret
    exact⟨⟨_,rfl,fun h=>by cases h⟩,Dv.out⟩
   replace Re:decide ((200:Int)<((bs pp).size:Int))=false:=by simpa using Re
   by_cases U3:decide ((200:Int)<(dn:Int))=true
   ·go_wp2_with fail
    go_ret
    exact⟨⟨_,rfl,fun h=>by cases h⟩,Dv.out⟩
   replace U3:decide ((200:Int)<(dn:Int))=false:=by simpa using U3
   by_cases U2:decide ((2:Int)<(gn:Int))=true
   ·go_wp2_with fail
    go_ret
    exact⟨⟨_,rfl,fun h=>by cases h⟩,Dv.out⟩
   replace U2:decide ((2:Int)<(gn:Int))=false:=by simpa using U2
   have hpp:pp.length≤200:=by have:=Re;rw[eP] at this;simp at this;omega
   have Ay:Hid (∀(i:Nat) b off q,i<j+1→some (⟨gb,go_,none⟩:Addr)=some ⟨b,off,none⟩→wr.rangeAt b (off+i*7) (cV.cells q)→q.path.length≤200):=cE (fun i b off q hi e hr=>by
    rcases Nat.lt_or_ge i j with h|h
    ·exact VF.out i b off q h e hr
    obtain rfl:i=j:=by omega
    cases e;have h1:=HRQ.out 1 _ rfl;have h2:=hr 1 _ rfl;rw[h1] at h2
    injection h2 with h2
    injection h2 with h2
    have h3:=congrArg (fun s:ByteArray=>s.data.toList) h2;simp only[gr] at h3;rw[←h3];exact hpp)
   clear hpp;go_wp2_with fail
   go_roundw
   case rel=>exact⟨j+1,by omega,by go_num,cE ⟨trivial,Ay.out⟩⟩
   case measure=>simp[intOf];omega
  obtain rfl:j=pn:=by omega
  have Uc:op.length≤200:=by have:=Rc;rw[eP] at this;simp at this;omega
  have HNK:Hid (∀(i:Nat) x,i<k+1→L[i]?=some x→MR w x):=cE (fun i x hi hx=>by
   rcases Nat.lt_or_ge i k with h|h
   ·exact HS.out.2 i x h hx
   obtain rfl:i=k:=by omega
   rw[HKX.out] at hx;cases hx;exact⟨Uc,ZD,fun j b off q hj e hr=>by
    obtain⟨b',off',e',hr'⟩:=HXP.out j b off q hj e hr;exact VF.out j b' off' q hj e' hr'⟩)
  clear Uc;go_wp2_with fail
  go_roundw
  case rel=>exact⟨k+1,by omega,by go_num,cE ⟨Dv.out,HNK.out⟩⟩
  case measure=>simp[intOf];omega
 obtain rfl:k=n:=by omega
 go_wp2_with fail
 go_ret
 exact⟨⟨_,rfl,fun _=>⟨by rw[←HA.out.2];omega,fun i x hx=>HS.out.2 i x (by rw[HA.out.2];exact(af.1 hx).1) hx⟩⟩,HS.out.1⟩
theorem mI{D:cP}:∀{Ds:List cP},D∈Ds→D.length≤Ds.flatten.length
 |[],h=>by cases h
 |E::Ds,h=>by
  rw[List.flatten_cons,ah];rcases List.mem_cons.1 h with rfl|h
  ·omega
  ·have:=mI h;omega
theorem BE{w:an}{lo:Nat→Prop}{r:cV}{o:eC}(h:eZ w lo r o)(h2:(0≤o.kind∧o.kind<256)∧-9223372036854775808≤o.gS∧o.gS<9223372036854775808){D:cP}{S:cP}(hD:D=opHead o++S)(hl:D.length≤4000000000):IsO o:=by
 have e:D.length=(opHead o).length+S.length:=by rw[hD,ah]
 rw[jQ] at e;exact⟨h2.1,by unfold IsT;omega,by unfold IsT;omega,h2.2⟩
theorem pY.code{w:an}:∀{n:Nat} {r:cV} {D:cP},pY w n r D→D.length≤4000000000→lJ n D
 |0,_,_,h,_=>h
 |n+1,r,D,h,hl=>by
  obtain⟨o,Ds,h1,h2,h3,h4,h5⟩:=h;have e:D.length=(opHead o).length+(8+Ds.flatten.length):=by rw[h3];simp only[ah,dw]
  have hp:∀E∈Ds,0<E.length:=fun E hE=>by
   obtain⟨k,hk⟩:=ag.1 hE;obtain⟨_,_,_,_,_,_,g⟩:=h5 k E hk;exact g.pos
  have hf:=wm hp;refine⟨o,Ds,BE h1 h2 h3 hl,by rw[←h4];exact h3,by omega,fun E hE=>?_⟩;obtain⟨k,hk⟩:=ag.1 hE;obtain⟨_,_,_,_,_,_,g⟩:=h5 k E hk;have:=mI hE;exact g.code cL
theorem Xg{w:an}{n:Nat}{r:cV}{D:cP}(h:pY w n r D)(hl:D.length≤4000000000){o:eC}{ps:List eC}(ho:IsO o)(hn:ps.length<18446744073709551616)(hp:∀p∈ps,IsO p)(e:D=V5 o ps):
  r.path=o.path∧r.pn=ps.length∧∀(k:Nat) p,ps[k]?=some p→∃b off q,r.pa=some ⟨b,off,none⟩∧b<w.heap.size∧w.rangeAt b (off+k*7) (cV.cells q)∧q.path=p.path:=by
 cases n with
 |zero=>exact h.elim
 |succ n=>
 have hc:=h.code hl;obtain⟨o',Ds,h1,h2,h3,h4,h5⟩:=h;have io:=BE h1 h2 h3 hl;have hco:lJ 2 (V5 o ps):=Il ho hn hp;have e1:opHead o'++(dI 8 r.pn++Ds.flatten)=opHead o++(dI 8 ps.length++(ps.map (fun p=>opHead p++(dI 8 0++[]))).flatten):=by
  rw[←h3,e,BA];rfl
 obtain⟨e2,e3⟩:=uF _ _ _ _ io ho e1;have eD:D.length=(opHead o').length+(8+Ds.flatten.length):=by rw[h3];simp only[ah,dw]
 have hpos:∀E∈Ds,0<E.length:=fun E hE=>by
  obtain⟨k,hk⟩:=ag.1 hE;obtain⟨_,_,_,_,_,_,g⟩:=h5 k E hk;exact g.pos
 have hf:=wm hpos;obtain⟨e4,e5⟩:=fL _ _ _ _ cL hn e3;have hcs:∀E∈Ds,lJ n E:=fun E hE=>by
  obtain⟨k,hk⟩:=ag.1 hE;obtain⟨_,_,_,_,_,_,g⟩:=h5 k E hk;have:=mI hE;exact g.code cL
 have hcm:∀E∈ps.map (fun p=>opHead p++(dI 8 0++[])),lJ 1 E:=fun E hE=>by
  obtain⟨p,hp',rfl⟩:=List.mem_map.1 hE;exact⟨p,[],hp p hp',rfl,by decide,fun d hd=>by cases hd⟩
 rw[As,As] at e5;have e5':Ds.flatMap id++[]=(ps.map (fun p=>opHead p++(dI 8 0++[]))).flatMap id++[]:=by rw[e5]
 obtain⟨e6,_⟩:=wP (P:=lJ n) (Q:=lJ 1) (f:=id) (g:=id) (fun x y s t hx hy h=>uM n 1 x y s t hx hy h) Ds (ps.map (fun p=>opHead p++(dI 8 0++[]))) [] [] (by rw[List.length_map,←h4,e4]) hcs hcm e5';refine⟨by rw[h1.path,e2],e4,fun k p hk=>?_⟩;have X7:k<Ds.length:=by rw[←h4,e4];exact(af.1 hk).1
 obtain⟨b,off,q,g1,g2,g3,g4⟩:=h5 k _ (aa X7);have e7:Ds[k]=opHead p++(dI 8 0++[]):=e6 k _ _ (aa X7) (by rw[aC,hk];rfl);refine⟨b,off,q,g1,g2,g3,?_⟩;have hln:Ds[k].length≤4000000000:=by have:=mI (List.getElem_mem X7);omega
 cases n with
 |zero=>exact g4.elim
 |succ n=>
 obtain⟨o2,Es,q1,q2,q3,_,_⟩:=g4;have io2:=BE q1 q2 q3 hln;rw[e7] at q3;obtain⟨e8,_⟩:=uF _ _ _ _ (hp p (List.mem_of_getElem? hk)) io2 q3;rw[q1.path,e8]
theorem Ra(E:List gh):E.length≤lu E:=by
 unfold lu
 induction E with
 |nil=>exact Nat.le_refl _
 |cons e E ih=>
  rw[List.map_cons,List.sum_cons,List.length_cons];omega
theorem nV.isX{w:an}{X:iS}{o:cV}{i:dS}{L:List cZ}{fa:Option Addr}(h:nV w X o i L fa)(h4:X.kind≠4):IsX X:=by
 obtain⟨n,hop⟩:=h.op;have hs:=h.size;have he:=Ra X.dY.dB;unfold jY at hs;exact⟨h.num.kind,h.num.oh,h.num.req,h.num.os,h.num.on,⟨n,hop.code cL⟩,h.num.site,h.num.dK,h.num.ep,⟨by omega,h.fr.u64⟩,fun e=>absurd e h4,h.num.ew,h.num.I6,h.dY.seq,h.dY.ep,⟨by omega,h.dY.stamp.u64⟩,by omega,h.dY.cl⟩
theorem Hz{w:an}{n:Nat}{r:cV}{D:cP}(h:pY w n r D):∃Q:List cP,Q.length=r.pn∧∀(k:Nat) p,Q[k]?=some p→∃b off q,r.pa=some ⟨b,off,none⟩∧b<w.heap.size∧w.rangeAt b (off+k*7) (cV.cells q)∧q.path=p:=
 mJ (fun k p=>∃b off q,r.pa=some ⟨b,off,none⟩∧b<w.heap.size∧w.rangeAt b (off+k*7) (cV.cells q)∧q.path=p) r.pn (fun k hk=>by
  obtain⟨b,off,q,h1,h2,h3⟩:=qs h k hk;exact⟨q.path,b,off,q,h1,h2,h3,rfl⟩)
theorem Oq{p q:cP}(h:bs p=bs q):p=q:=by
 have h3:=congrArg (fun s:ByteArray=>s.data.toList) h;simpa only[gr] using h3
theorem KW{w:an}{X:iS}{o:cV}{i:dS}{L:List cZ}{fa:Option Addr}(h:nV w X o i L fa)(h4:X.kind≠4)(h0:FD X=0){Q:List cP}(hQ:Q.length=o.pn)
  (hq:∀(k:Nat) p,Q[k]?=some p→∃b off q,o.pa=some ⟨b,off,none⟩∧b<w.heap.size∧w.rangeAt b (off+k*7) (cV.cells q)∧q.path=p):
  (ey (vR X)).op.path=o.path∧(ey (vR X)).parts.map (·.path)=Q∧(ey (vR X)).kind=X.kind∧(ey (vR X)).dK=X.dK:=by
 obtain⟨_,hS,hI⟩:=Pr (h.isX h4) h0;obtain⟨n,hop⟩:=h.op;have hsz:=h.size;obtain⟨e1,e2,e3⟩:=Xg hop cL hS.op.is (by have:=hS.pl;omega) (fun p hp=>(hS.parts p hp).is) hI.op;refine⟨e1.symm,List.ext_getElem? fun k=>?_,hI.kind.symm,hI.dK.symm⟩;rw[aC];by_cases hk:k<(ey (vR X)).parts.length
 ·obtain⟨b,off,q,g1,_,g3,g4⟩:=e3 k _ (aa hk)
  have hkq:k<Q.length:=by omega
  obtain⟨b',off',q',f1,_,f3,f4⟩:=hq k _ (aa hkq);rw[g1] at f1;cases f1;have h1:=g3 1 _ rfl;have h2:=f3 1 _ rfl;rw[h1] at h2
  injection h2 with h2
  injection h2 with h2
  rw[aa hk,aa hkq,←f4,←Oq h2,g4];rfl
 rw[ay cL,ay cL];rfl
def pS:cP:=[47,115]
def Zh:iS:={gX 5 (gO 0 []) 1 [0,0] with dK:=1}
def WT:cS:=cS.new 0 2 [pR,pS]
def vO:cS:=(WT.done Zh).1
def rgT:jw:=⟨1,[0,0],true,false⟩
theorem lX:(WT.done Zh).2.e=0∧sX 0 2 [pR,pS]=0∧vO.dH=[pR,pS]∧vO.tok 1=rgT∧vO.toks.length=2∧vO.trees.length=2:=by decide+kernel
structure qK(m:cS):Prop where
 dH:m.dH=[pR,pS]
 tok:m.tok 1=rgT
 tkl:m.toks.length=2
 tr:m.trees[1]?=vO.trees[1]?
 tl:m.trees.length=2
theorem qK.start:qK vO:=⟨lX.2.2.1,lX.2.2.2.1,lX.2.2.2.2.1,rfl,lX.2.2.2.2.2⟩
section
variable{m:cS}
theorem qK.dV(h:qK m){r:Nat}(hr:r≠1)(t:Int×List (cP×Nd)):qK (m.dV r t):=
 ⟨h.dH,h.tok,h.tkl,by show(m.trees.set r t)[1]?=_;rw[aA hr];exact h.tr,by show(m.trees.set r t).length=2;rw[List.length_set];exact h.tl⟩
theorem qK.oH(h:qK m){r:Nat}(hr:r≠1)(t:jw):qK (m.oH r t):=
 ⟨h.dH,by
  show(m.toks.set r t).getD 1 iL=rgT;have:=h.tok;unfold cS.tok List.getD at this;unfold List.getD;rw[aA hr];exact this,by show(m.toks.set r t).length=2;rw[List.length_set];exact h.tkl,h.tr,h.tl⟩
theorem qK.make(h:qK m)(x:gK):qK (m.make x):=⟨h.dH,h.tok,h.tkl,h.tr,h.tl⟩
theorem qK.jq(h:qK m)(p:Int×Int):qK (m.jq p):=⟨h.dH,h.tok,h.tkl,h.tr,h.tl⟩
theorem qK.oT(h:qK m){r:Nat}(hr:r≠1)(o:kV)(who:dW):qK (m.oT r o who):=by
 unfold cS.oT;split
 ·exact h
 exact(h.dV hr _).make _
theorem qK.asked(h:qK m){r:Nat}(hr:r≠1)(o:kV)(who:dW):qK (m.asked r o who).1:=by
 unfold cS.asked;split
 ·exact h
 exact h.oT hr o who
theorem qK.write(h:qK m){y:fR}(hr:(oU [pR,pS] y.op.path (y.parts.map (·.path))).1≠1):qK (m.write y).1:=by
 unfold cS.write;rw[h.dH];split
 ·exact h
 split
 ·exact h
 split
 ·exact h
 exact h.asked cL _ _
theorem qK.apply(h:qK m){y:fR}(h4:y.kind≠4)(hr:y.dK≠1)(hw:y.kind=1→(oU [pR,pS] y.op.path (y.parts.map (·.path))).1≠1):qK (m.apply y).1:=by
 have hr':y.dK.toNat≠1:=by omega
 unfold cS.apply;split
 ·rename_i e
  exact h.write (hw e)
 ·unfold cS.opens
  split
  ·exact h
  exact⟨h.dH,h.tok,h.tkl,h.tr,h.tl⟩
 ·unfold cS.kM
  split
  ·exact h
  exact(h.jq _).make _
 ·rename_i e
  exact absurd e h4
 ·unfold cS.VZ
  split
  ·exact h
  split
  ·exact h
  split
  ·exact h
  exact h.oH hr' _
 ·unfold cS.CU
  split
  ·exact h
  split
  ·exact h
  exact h.oH hr' _
 ·unfold cS.qM
  split
  ·exact h
  split
  ·exact h
  split
  ·exact h
  exact h.oT hr' _ _
 exact h
theorem qK.done(h:qK m){w:an}{X:iS}{o:cV}{i:dS}{L:List cZ}{fa:Option Addr}(hin:nV w X o i L fa)(h4:X.kind≠4)(hr:X.dK≠1){Q:List cP}(hQ:Q.length=o.pn)
  (hq:∀(k:Nat) p,Q[k]?=some p→∃b off q,o.pa=some ⟨b,off,none⟩∧b<w.heap.size∧w.rangeAt b (off+k*7) (cV.cells q)∧q.path=p) (hw:X.kind=1→(oU [pR,pS] o.path Q).1≠1):qK (m.done X).1:=by
 unfold cS.done;split
 ·rename_i h0
  obtain⟨e1,e2,e3,e4⟩:=KW hin h4 h0 hQ hq;exact h.apply (by rw[e3];exact h4) (by rw[e4];exact hr) (fun e=>by rw[e1,e2];exact hw (by rw[←e3];exact e))
 exact h
end
theorem UG{w:an}(mx:dG w){ao:Option Addr}{c:Nat}{L:List cP}(hbig:L.length≤1000)(hL:∀r∈L,r.length≤1000)(hc:gA w w.heap.size ao L)(o:cV)(Q:List cP)(hQ:Q.length=o.pn)(hn:o.pn≤1000)(hp:o.path.length≤1000)
  (Wm:∀r∈Q,r.length≤1000) (hq:∀(k:Nat) p,Q[k]?=some p→∃b off q,o.pa=some ⟨b,off,none⟩∧b<w.heap.size∧w.rangeAt b (off+k*7) (cV.cells q)∧q.path=p):
  aq prog 28 #[.slice ao L.length c,.agg (cV.cells o).toArray] w (GK (oU L o.path Q) w):=by
 obtain⟨ok,op,oa,on,oc,ov,os,oe,qa,qn,qc⟩:=o;dsimp only at hQ hn hp hq⊢;subst hQ;have hr:pX w w.heap.size qa Q:=fun k p hk=>by
  obtain⟨b,off,q,h1,h2,h3,h4⟩:=hq k p hk;refine⟨b,off,⟨q.kind,q.da,q.dn,q.dc,q.gS,q.seq,q.mM,q.pa,q.pn,q.pc⟩,h1,h2,?_⟩;rw[←h4];exact h3
 by_cases h0:Q=[]
 ·subst h0
  exact Ov _ _ _ _ _ ao qa c qc L op w mx hbig hp hL hc
 exact JI _ _ _ _ _ ao qa c qc L Q op w mx hbig hL hc h0 hn Wm hr
def Oz(w2 wr:an)(mb b0:Nat)(N:Nat)(A:MA)(m:cS):Prop:=GS w2 wr mb A m N [] []∧qK m∧TR w2 wr b0 (vO.root 1) (vO.at_ 1) (vO.nodes 1)∧¬A.Z b0
theorem aeu:vO.nodes 1≠[]:=by decide+kernel
theorem Nx:Nr (vO.root 1) (vO.at_ 1) (vO.nodes 1) (vO.root 1) (vO.at_ 1) (vO.nodes 1)=true:=by decide+kernel
theorem qK.tree{m:cS}(h:qK m):m.root 1=vO.root 1∧m.at_ 1=vO.at_ 1∧m.nodes 1=vO.nodes 1:=by
 have h1:=h.dH;have h2:=qK.start.dH;have h3:=h.tr;unfold cS.root cS.at_ cS.nodes List.getD;rw[h1,h2,h3];exact⟨rfl,rfl,rfl⟩
theorem qK.held{m:cS}(h:qK m):qL m.toks 1=rgT:=by
 have:=h.tok;unfold cS.tok at this;unfold qL;rw[if_pos (by rw[h.tkl];decide)];exact this
theorem Oz.below{w2 wr w':an}{mb b0 N:Nat}{A:MA}{m:cS}(h:Oz w2 wr mb b0 N A m)(hb:cF wr w'):Oz w2 w' mb b0 N A m:=⟨h.1.below hb,h.2.1,h.2.2.1.below hb,h.2.2.2⟩
theorem Oz.more{w2 wr:an}{mb b0 N:Nat}{A:MA}{m:cS}(h:Oz w2 wr mb b0 N A m):Oz w2 wr mb b0 (N+1) A m:=⟨⟨h.1.ID,h.1.fS,h.1.ok.mono cL,h.1.box,h.1.sts⟩,h.2⟩
theorem Oz.done{w2 wr w':an}{mb b0 N:Nat}{A:MA}{m:cS}(h:Oz w2 wr mb b0 N A m)(hN:N≤1000000){X:iS}(hM:qK (m.done X).1){e:Ending}(hd:fq w2 wr A (m.done X) e w'):
  ∃(Z:List Value) (A':MA),e=.returned (.agg Z.toArray)∧Oz w2 w' mb b0 (N+1) A' (m.done X).1∧Kept A.Z wr w':=by
 obtain⟨Z,A',rfl,_,hg,hk,hold⟩:=h.1.done hN hd;have hb0:b0<wr.heap.size:=by
  obtain⟨lo,uW,T⟩:=h.2.2.1.tree;exact lt_of_block T.blk
 exact⟨Z,A',rfl,⟨hg,hM,h.2.2.1.iJ hk (h.1.fS.ku hk (fun b e=>e)) h.2.2.2 (fun k e=>⟨h.1.fS.mo e,h.1.fS.lo k e⟩) aeu,fun e=>h.2.2.2 (hold b0 hb0 e)⟩,hk⟩
theorem SV(w:an){fa:Option Addr}(hfr:dr w (fun _=>True) fa [0,0]):nV w Zh (oQ 0 []) EM [] fa∧jz w (oQ 0 []) Zh.od:=by
 obtain⟨h,h2⟩:=kL w 5 0 [] 1 (fr:=[0,0]) (fa:=fa) hfr cM cM cM cM cM (fun v hv=>by simp at hv;omega);have hn:=h.num;exact⟨⟨h.op,h.dY,h.fr,⟨hn.kind,hn.oh,hn.req,hn.os,hn.on,hn.site,⟨by decide,by decide⟩,hn.ep,hn.ew,hn.I6⟩,h.size⟩,h2⟩
theorem Hs{w:an}(mx:dG w)(pow:gB w)(a:Option Addr)(c:Nat)(L:List jj)(hat:CC w a L)(hl:L.length≤maxLen):
  aq prog 7 #[.slice a L.length c] w fun e w'=>e=.returned (.T)∧cF w w':=by
 have HGR:=cE (FT w a c L hat hl);obtain⟨n,hn⟩:=cG L.length;rw[←hn] at HGR⊢;have HA:=cE (cD hat (cD hn (cD mx pow)));have Ah:Hid (cH 42 23):=cE cK;have qP:Hid (cH 35 7):=cE cK;clear hat hl hn mx pow;go_enter func7,ntmps7
 go_wp2_with fail
 refine HGR.out.mono ?_;rintro e w1 ⟨⟨g,rfl,LW⟩,de⟩;cases g with
 |true=>
  have HB:=cE de;clear de LW;go_wp2_with fail
  go_ret
  exact⟨rfl,HB.out⟩
 |false=>
 obtain⟨Ud,J4⟩:=LW rfl;rw[←HA.out.2.1] at Ud;have VF:=cE J4;clear LW J4;obtain⟨w2,eS⟩:∃a,a=w1.alloc (.cells #[.string ⟨#[47,114]⟩,.string ⟨#[47,115]⟩] 9):=⟨_,rfl⟩;have dz:cF w w2:=by rw[eS];exact de.trans ((cR (au _ w1) _).mono de.size)
 have hS:gA w2 w2.heap.size (some ⟨w1.heap.size,0,none⟩) [pR,pS]:=fun k p hk=>by
  have hk2:w1.heap.size<w2.heap.size:=by rw[eS];simp
  have hc:=fun j=>cell_of_row w2 w1.heap.size j _ 9 (0,0) (by rw[eS];exact heap_alloc_new w1 _)
  have h0:k<2:=by have:=(af.1 hk).1;simpa using this
  refine⟨w1.heap.size,0,rfl,hk2,?_⟩;rw[Nat.zero_add,hc k];rcases(show k=0∨k=1 by omega) with rfl|rfl<;>(simp at hk;subst hk;rfl)
 have Wt:Hid (aq prog 12 #[.I,.i 2,.slice (some ⟨w1.heap.size,0,none⟩) 2 2] w2 fun e w'=>cF w2 w'∧∃A:MA,e=.returned (.tuple #[.p A.mb,.I])∧cU w2 w' A WT∧∀b,A.Z b→w2.heap.size≤b):=cE (sB (c:=2) (HA.out.2.2.1.kept dz) (iw HA.out.2.2.2 dz) hS 0 2 ⟨by decide,fun r hr=>by simp at hr;rcases hr with rfl|rfl<;>decide⟩ lX.2.1);have lS:=cE (cD eS (cD dz hS));clear hS eS dz de;go_wp2_with (first|rw[←lS.out.1]|fail)
 refine Wt.out.mono ?_;rintro e w3 ⟨eE,A0,rfl,hA,_⟩;obtain⟨mb,hmb⟩:∃n,n=A0.mb:=⟨_,rfl⟩;rw[←hmb];obtain⟨w4,lP⟩:∃a,a=w3.alloc (.cells #[.V,.V] 36):=⟨_,rfl⟩;have hbr:cF w3 w4:=by rw[lP];exact cR (au _ _) _
 have hsr:dr w4 (fun _=>True) (some ⟨w3.heap.size,0,none⟩) [0,0]:=pg lP;have afJ:WT.Ok 0:=cS.Ok.new cM cM cM (fun r hr=>by simp at hr;rcases hr with rfl|rfl<;>decide+kernel);have RT:GS w2 w4 mb A0 WT 0 [] []:=(GS.below ⟨hmb.symm,hA,afJ,(fun x hx=>by cases hx),(fun x hx=>by cases hx)⟩ hbr);have HG0:=cE RT;have Kc:=cE lP;have HCc:Hid (aq prog 13 #[.p mb,.agg #[.b 5,.U,.U,.I,.U,.B,.z,.n,.I,.F,.F,.n,.I,.V,.I,.V,.n,.n,.U,.I,.i 1,.v 1,.slice (some ⟨w3.heap.size,0,none⟩) 2 2]] w4 (fq w2 w4 A0 (WT.done Zh))):=cE (RT.call (X:=Zh) (o:=oQ 0 []) (i:=EM) (Li:=[]) (fa:=(some ⟨w3.heap.size,0,none⟩)) (fc:=2) cM (SV w4 hsr).1 (SV w4 hsr).2);clear hsr hbr lP hA eE hmb afJ RT;go_wp2_with (first|(rw[←Kc.out])|fail)
 refine HCc.out.mono ?_;rintro e w5 hd;obtain⟨Z,A1,rfl,hz,uD,hk1,_⟩:=GS.done (m:=WT) HG0.out cM hd;have HZ:=cE hz;have z23:=hz.err;rw[lX.1] at z23;obtain⟨R5,tQ,Gb⟩:=kg hz.len z23;have f1:=tQ w5;have f2:=Gb w5;have HTR:Hid (aq prog 19 #[.p mb,.i 1] w5 fun e w'=>∃b,e=.returned (.p b)∧TR w2 w' b (vO.root 1) (vO.at_ 1) (vO.nodes 1)∧w5.heap.size≤b∧cF w5 w'):=cE (by
  have:=qj uD.fS 1 (by rw[show(WT.done Zh).1.trees.length=2 from lX.2.2.2.2.2];decide) (by rw[show(WT.done Zh).1.trees.length=2 from lX.2.2.2.2.2];decide);rw[uD.ID] at this;exact this)
 have Ww:=cE uD;clear hd hz uD hk1 z23 tQ Gb;go_wp2_with fail
 refine HTR.out.mono ?_;rintro e w6 ⟨b0,rfl,LL,QS,qb⟩;have YV:Hid (∃A m,Oz w2 w6 mb b0 1 A m):=cE ⟨A1,vO,Ww.out.below qb,qK.start,LL,fun e=>by have:=Ww.out.fS.Dx e;omega⟩;clear LL QS qb f1 f2;go_wp2_with fail
 go_loopw [7] (fun iv wr=>∃k:Nat,k≤n∧iv=.i k∧Hid (∃A m,Oz w2 wr mb b0 (k+1) A m)) (fun iv _=>n - (intOf iv).toNat)
 case atStart=>exact⟨0,by omega,rfl,YV⟩
 obtain⟨k,hk,rfl,HS⟩:=hrel;by_cases hlt:k<n
 ·obtain⟨x,hx⟩:∃x,L[k]?=some x:=⟨_,aa (by rw[←HA.out.2.1];exact hlt)⟩
  obtain⟨A,m,hg⟩:=HS.out;have h2w:cF w2 wr:=hg.1.fS.bl;have kA:cF w wr:=lS.out.2.1.trans (h2w.mono lS.out.2.1.size);obtain⟨b,off,ha,hb,eW,hin,hmd⟩:=HA.out.1 k x hx;have TV:=VF.out k x hx;subst ha;have hrw:=dA eW kA hb;obtain⟨X,o,i,Li,fa,fc⟩:=x;dsimp only at hin hmd TV;obtain⟨CS,kI⟩:∃l,l=jj.cells ⟨X,o,i,Li,fa,fc⟩:=⟨_,rfl⟩;rw[←kI] at hrw;have Ad:CS.length=23:=by rw[kI];rfl
  have hone:(CS.toArray:Array Value).all (·.oneCell')=true:=by rw[kI];simp[jj.cells,iS.cells,gF,Value.oneCell']
  obtain⟨wa,wb,rL,ym,hkb,iQ,p9,af4⟩:=E8 wr CS Ad;have hcell:∀j v,CS[j]?=some v→wb.cell? ⟨wr.heap.size,j,none⟩=some v:=fun j v hv=>by
   rw[cell_of_row _ _ j _ 42 (0,0) hkb];simpa using hv
  have hro:wb.rangeAt wr.heap.size 5 (cV.cells o):=fun j u hu=>by
   refine hcell (5+j) u ?_;rw[kI];have hj:=(af.1 hu).1;simp only[cV.cells,List.length_cons,List.length_nil] at hj;rcases(show j=0∨j=1∨j=2∨j=3∨j=4∨j=5∨j=6 by omega) with rfl|rfl|rfl|rfl|rfl|rfl|rfl<;>exact hu
  have TQ:cF w wb:=kA.trans (iQ.mono kA.size);have abT:=hin.below TQ;obtain⟨dn,hop⟩:=abT.op;obtain⟨Q,hQ,hq⟩:=Hz hop;have Wm:∀p∈Q,p.length≤1000:=fun p hp=>by
   obtain⟨j,hj⟩:=ag.1 hp;obtain⟨dn',akp⟩:=hin.op;have hjl:j<o.pn:=by rw[←hQ];exact(af.1 hj).1
   obtain⟨b1,off1,q1,g1,g2,g3⟩:=qs akp j hjl;obtain⟨b2,off2,q2,f1,f2,f3,f4⟩:=hq j p hj;have aq1:=TV.parts j b1 off1 q1 hjl g1 g3;rw[g1] at f1;cases f1;have e1:=dA g3 TQ g2 1 _ rfl;have e2:=f3 1 _ rfl;rw[e1] at e2
   injection e2 with e2
   injection e2 with e2
   rw[←f4,←Oq e2];omega
  have HAL:Hid (aq prog 28 #[.slice (some ⟨w1.heap.size,0,none⟩) 2 2,.agg (cV.cells o).toArray] wb (GK (oU [pR,pS] o.path Q) wb)):=cE (UG (c:=2) (L:=[pR,pS]) (HA.out.2.2.1.kept TQ) cM (fun r hr=>by simp at hr;rcases hr with rfl|rfl<;>decide)
   (fun k p hk=>by
    obtain⟨b',off',g1,g2,g3⟩:=lS.out.2.2 k p hk;exact⟨b',off',g1,Nat.lt_of_lt_of_le g2 (Nat.le_trans h2w.size iQ.size),((h2w.trans (iQ.mono h2w.size)).cell (p:=⟨b',off'+k,none⟩) g2).trans g3⟩) o Q hQ (by have:o.pn≤10:=TV.pn;omega) (by have:o.path.length≤200:=TV.path;omega) Wm hq)
  obtain⟨⟨rr,ff⟩,hrf⟩:∃v,v=oU [pR,pS] o.path Q:=⟨_,rfl⟩;rw[←hrf] at HAL;have z0:=hcell 0 (.b (X.kind:Int)) (by rw[kI];rfl);have z20:=hcell 20 (.i X.dK) (by rw[kI];rfl);have mX:=cE hrw;have Wr:=cE hro;have HRX:=cE (dD hkb);have Ag:Hid (cH 42 CS.length):=cE (by rw[Ad];exact Ah.out);have iY:=cE (cD rL (cD ym (cD p9 (cD af4 hone))));have xA:=cE (cD (hg.below iQ) (cD abT (cD (hmd.below TQ) (cD kI (cD hQ (cD hq (cD hrf (lt_of_block hkb))))))));have Y8:decide ((k:Int)<(n:Int))=true:=by simp;omega
  clear hx hg h2w kA hb eW hrw hin hmd TV kI Ad hone rL ym hkb iQ p9 af4 hcell hro TQ abT hop hQ hq Wm hrf HS;go_upto_region 12 with (first
   |(refine aj rfl 42 (.tmp 46) rfl b (off+k*23) rfl CS _ mX.out underlying42 rfl Ag.out ?_)
   |(rw[←iY.out.1];refine wpList_store_mid rfl 42 (.tmp 8) (.tmp 47) rfl wr.heap.size 0 CS.toArray rfl rfl iY.out.2.2.1 iY.out.2.2.2.1 iY.out.2.2.2.2 ?_;rw[aB,←iY.out.2.1])
   |fail)
  go_wp2_with (first
   |(refine aj rfl 35 (.tmp 50) rfl wr.heap.size 5 rfl (cV.cells o) _ Wr.out underlying35 rfl qP.out ?_)
   |fail)
  refine HAL.out.mono ?_;rintro e wc ⟨rfl,hbc⟩;dsimp only;have HXC:=cE hbc;have y0:=(hbc.cell (p:=⟨wr.heap.size,0,none⟩) xA.out.2.2.2.2.2.2.2).trans z0;have y20:=(hbc.cell (p:=⟨wr.heap.size,20,none⟩) xA.out.2.2.2.2.2.2.2).trans z20;have HNO:Hid (∃A m,Oz w2 wc mb b0 (k+1+1) A m):=cE ⟨A,m,(xA.out.1.below hbc).more⟩;clear z0 z20 hbc;obtain⟨c4,s4⟩:∃v,((X.kind:Int)==4)=v:=⟨_,rfl⟩;obtain⟨cr,sr⟩:∃v,(X.dK==1)=v:=⟨_,rfl⟩;obtain⟨c1,s1⟩:∃v,((X.kind:Int)==1)=v:=⟨_,rfl⟩;obtain⟨cf,sf⟩:∃v,(ff != 0)=v:=⟨_,rfl⟩;obtain⟨c5,s5⟩:∃v,(rr==1)=v:=⟨_,rfl⟩;have JV:Hid (c4=false→cr=false→(c1=true→c5=false)→qK (m.done X).1):=cE (fun e4 er e1=>by
   subst e4 er;obtain⟨hg,hin,_,_,hQ,hq,hrf,_⟩:=xA.out;refine hg.2.1.done hin (fun e=>?_) (fun e=>?_) hQ hq (fun e=>?_)
   ·rw[e] at s4;simp at s4
   ·rw[e] at sr;simp at sr
   have h1:c1=true:=by rw[←s1,e];rfl
   have h5:=e1 h1;rw[h5] at s5;intro e6;rw[←hrf] at e6;dsimp only at e6;rw[e6] at s5;simp at s5)
  cases c4 with
  |true=>(
   go_wp2_with fail
   go_roundw
   case rel=>exact⟨k+1,by omega,by go_num,HNO⟩
   case measure=>simp[intOf];omega)
  |false=>
  cases cr with
  |true=>(
   go_wp2_with fail
   go_roundw
   case rel=>exact⟨k+1,by omega,by go_num,HNO⟩
   case measure=>simp[intOf];omega)
  |false=>
  cases c1 with
  |true=>
   cases cf with
   |true=>(
   go_wp2_with fail
   go_roundw
   case rel=>exact⟨k+1,by omega,by go_num,HNO⟩
   case measure=>simp[intOf];omega)
   |false=>
   cases c5 with
   |true=>(
   go_wp2_with fail
   go_roundw
   case rel=>exact⟨k+1,by omega,by go_num,HNO⟩
   case measure=>simp[intOf];omega)
   |false=>
    have uC:=JV.out rfl rfl (fun _=>rfl);clear JV HNO;have QJ:=xA.out.1.below HXC.out;have HRC:Hid (wc.rangeAt wr.heap.size 0 CS):=cE (dA HRX.out HXC.out xA.out.2.2.2.2.2.2.2);have HCA:Hid (aq prog 13 #[.p mb,.agg CS.toArray] wc (fq w2 wc A (m.done X))):=cE (by
     have:=QJ.1.call (X:=X) (o:=o) (i:=i) (Li:=Li) (fa:=fa) (fc:=fc) cL (xA.out.2.1.below HXC.out) (xA.out.2.2.1.below HXC.out)
     rwa [show(X.cells o i fa fc)=CS from xA.out.2.2.2.1.symm] at this)
    have RH:=cE (cD QJ uC);clear QJ uC;go_upto_region 14 with fail
    go_wp2_with (first
     |(refine aj rfl 42 (.tmp 8) rfl wr.heap.size 0 rfl CS _ HRC.out underlying42 rfl Ag.out ?_)
     |fail)
    refine HCA.out.mono ?_;rintro e w7 hd;obtain⟨Z7,A7,rfl,Yc,_⟩:=RH.out.1.done cL RH.out.2 hd;have Dt:Hid (aq prog 23 #[.p mb,.i 1] w7 fun e w'=>e=.returned (.tuple #[.v 1,.T])∧cF w7 w'):=cE (by
     have:=uq Yc.1.fS 1;rw[Yc.1.ID,RH.out.2.held] at this;exact this)
    have HG7:=cE Yc;clear hd Yc;go_wp2_with fail
    refine Dt.out.mono ?_;rintro e w8 ⟨rfl,CI⟩;have RS:=HG7.out.below CI;have RD:Hid (aq prog 19 #[.p mb,.i 1] w8 fun e w'=>∃b,e=.returned (.p b)∧TR w2 w' b (vO.root 1) (vO.at_ 1) (vO.nodes 1)∧w8.heap.size≤b∧cF w8 w'):=cE (by
     have:=qj RS.1.fS 1 (by rw[RH.out.2.tl];decide) (by rw[RH.out.2.tl];decide);rw[RS.1.ID] at this;obtain⟨e1,e2,e3⟩:=RH.out.2.tree;rw[e1,e2,e3] at this;exact this)
    have HG8:=cE RS;clear RS CI;go_wp2_with fail
    refine RD.out.mono ?_;rintro e w9 ⟨b9,rfl,Zv,_,BS⟩;have hg9:=HG8.out.below BS;have YS:Hid (aq prog 21 #[.p b0,.p b9] w9 fun e w'=>e=.returned (.T)∧cF w9 w'):=cE (by
     have:=hg9.2.2.1.same Zv
     rwa [Nx] at this)
    have HG9:=cE hg9;clear hg9 Zv BS;go_wp2_with fail
    refine YS.out.mono ?_;rintro e kq ⟨rfl,s0⟩;have JU:Hid (∃A m,Oz w2 kq mb b0 (k+1+1) A m):=cE ⟨A7,_,HG9.out.below s0⟩;clear s0;go_wp2_with fail
    go_roundw
    case rel=>exact⟨k+1,by omega,by go_num,JU⟩
    case measure=>simp[intOf];omega
  |false=>
  have uC:=JV.out rfl rfl (fun e=>by cases e);clear JV HNO;have QJ:=xA.out.1.below HXC.out;have HRC:Hid (wc.rangeAt wr.heap.size 0 CS):=cE (dA HRX.out HXC.out xA.out.2.2.2.2.2.2.2);have HCA:Hid (aq prog 13 #[.p mb,.agg CS.toArray] wc (fq w2 wc A (m.done X))):=cE (by
   have:=QJ.1.call (X:=X) (o:=o) (i:=i) (Li:=Li) (fa:=fa) (fc:=fc) cL (xA.out.2.1.below HXC.out) (xA.out.2.2.1.below HXC.out)
   rwa [show(X.cells o i fa fc)=CS from xA.out.2.2.2.1.symm] at this)
  have RH:=cE (cD QJ uC);clear QJ uC;go_upto_region 14 with fail
  go_wp2_with (first
   |(refine aj rfl 42 (.tmp 8) rfl wr.heap.size 0 rfl CS _ HRC.out underlying42 rfl Ag.out ?_)
   |fail)
  refine HCA.out.mono ?_;rintro e w7 hd;obtain⟨Z7,A7,rfl,Yc,_⟩:=RH.out.1.done cL RH.out.2 hd;have Dt:Hid (aq prog 23 #[.p mb,.i 1] w7 fun e w'=>e=.returned (.tuple #[.v 1,.T])∧cF w7 w'):=cE (by
   have:=uq Yc.1.fS 1;rw[Yc.1.ID,RH.out.2.held] at this;exact this)
  have HG7:=cE Yc;clear hd Yc;go_wp2_with fail
  refine Dt.out.mono ?_;rintro e w8 ⟨rfl,CI⟩;have RS:=HG7.out.below CI;have RD:Hid (aq prog 19 #[.p mb,.i 1] w8 fun e w'=>∃b,e=.returned (.p b)∧TR w2 w' b (vO.root 1) (vO.at_ 1) (vO.nodes 1)∧w8.heap.size≤b∧cF w8 w'):=cE (by
   have:=qj RS.1.fS 1 (by rw[RH.out.2.tl];decide) (by rw[RH.out.2.tl];decide);rw[RS.1.ID] at this;obtain⟨e1,e2,e3⟩:=RH.out.2.tree;rw[e1,e2,e3] at this;exact this)
  have HG8:=cE RS;clear RS CI;go_wp2_with fail
  refine RD.out.mono ?_;rintro e w9 ⟨b9,rfl,Zv,_,BS⟩;have hg9:=HG8.out.below BS;have YS:Hid (aq prog 21 #[.p b0,.p b9] w9 fun e w'=>e=.returned (.T)∧cF w9 w'):=cE (by
   have:=hg9.2.2.1.same Zv
   rwa [Nx] at this)
  have HG9:=cE hg9;clear hg9 Zv BS;go_wp2_with fail
  refine YS.out.mono ?_;rintro e kq ⟨rfl,s0⟩;have JU:Hid (∃A m,Oz w2 kq mb b0 (k+1+1) A m):=cE ⟨A7,_,HG9.out.below s0⟩;clear s0;go_wp2_with fail
  go_roundw
  case rel=>exact⟨k+1,by omega,by go_num,JU⟩
  case measure=>simp[intOf];omega
 obtain rfl:k=n:=by omega
 have Y8:decide ((k:Int)<(k:Int))=false:=by simp
 obtain⟨A,m,hg⟩:=HS.out;have kA:cF w wr:=lS.out.2.1.trans (hg.1.fS.bl.mono lS.out.2.1.size);have JV:=cE (BW (HA.out.2.2.1.kept kA) (iw HA.out.2.2.2 kA));have RM:=cE kA;clear hg kA hlt;go_wp2_with fail
 refine JV.out.mono ?_;rintro e w9 ⟨rfl,BS⟩;have ON:=cE (RM.out.trans (BS.mono RM.out.size));clear BS;go_wp2_with fail
 go_ret
 exact⟨rfl,ON.out⟩
end
