/- Part 33. -/
import Derived.Test.YtdpaejbaoefdjaaGreatDoorG32
import Derived.Lib.SlBytesConst
open Go.DataW renaming trod → aa
open List renaming getElem?_eq_getElem → af
open Go renaming World → ag
open Go.World renaming cells?_some → ah
namespace Go.Proofs.YtdpaejbaoefdjaaGreatDoor
open Go.Proofs.Tryz
set_option maxRecDepth 100000
set_option maxHeartbeats 64000000
set_option linter.unusedVariables false
set_option linter.unusedSimpArgs false
section
open Go.RowKit Go.Shelf Go.MapKept Go.ChangeMaps Go.Maps Go.Sort
def U4:eF:=⟨0,0⟩
def pRN:cO:=[47,114,47,110]
def wo1:fh:=⟨1,Oe,[120],0,false,false⟩
def wo2:fh:=⟨1,pRN,[],0,true,false⟩
def wo3:fh:=⟨1,pRN,[],0,true,false⟩
def wo4:fh:=⟨3,Oe,[121],0,false,false⟩
def W1:List (cO×Nd):=VE pR M0 1 U4 wo1
def W2:List (cO×Nd):=VE pR W1 2 U4 wo2
def W3:List (cO×Nd):=VE pR W2 3 U4 wo3
def W4:List (cO×Nd):=VE pR W3 4 U4 wo4
end
section
open Go.RowKit Go.ChangeShapes Go.WideShapes Go.Deep
section
variable{H:Type}{enc:TypeId×Value→H}{P:Program}{w:World}{base:Nat}{spare:Nat→Bool}{held:Bool}
theorem JR{t e:TypeId}(ht:P.underlying t=some (.slice e)){K:Nat}(hK:P.cellsOf e=K)(hpos:0<K){fuel:Nat}{cs:List Value}{x:DataW H×List MemPlace}
  (h:aa enc P w base spare held fuel t cs=some x):
  ∃ao len cap m,cs=[.slice ao len cap]∧len≤cap∧cap≤maxLen∧(len=0∨fuel=m+1)∧∀i,i<len→∃b off cs' y,ao=some ⟨b,off,none⟩∧b<w.heap.size∧cs'.length=K∧w.rangeAt b (off+i*K) cs'∧aa enc P w base spare held m e cs'=some y:=by
 rcases DataW.trod_slice ht h with ⟨rfl,_⟩|⟨a,len,cap,elems,rest,n,Qu,rfl,_,_,hl,hm,hlen,hel,_,_⟩
 ·exact⟨none,0,0,0,rfl,Nat.le_refl _,Nat.zero_le _,.inl rfl,fun i hi=>absurd hi (Nat.not_lt_zero _)⟩
 have Ct:∀i,i<len→∃cs' y,w.cells? base (a.add (i*P.cellsOf e)) (P.cellsOf e)=some cs'∧aa enc P w base spare held n e cs'=some y:=fun i hi=>by
  have h1:=hel i hi;rw[af cK] at h1;obtain⟨cs',h2,h3⟩:=Option.bind_eq_some_iff.1 h1;exact⟨cs',_,h2,h3⟩
 refine⟨some a,len,cap,n,rfl,hl,hm,.inr Qu,fun i hil=>?_⟩;have hsp:a.spot=none:=by
  obtain⟨cs0,_,hc0,_⟩:=Ct 0 cK;obtain⟨_,hl0,Ij⟩:=ah hc0;rw[hK] at hl0 Ij;have g:=Ij 0 hpos;rw[af cK] at g;cases hs:a.spot with
  |none=>rfl
  |some q=>
  exfalso
  simp only[Nat.zero_mul,Addr.add,if_true] at g;simp only[World.cell?,hs,Option.isSome_some,if_true] at g;split at g<;>cases g
 obtain⟨b,off,spot⟩:=a;dsimp only at hsp;subst hsp;obtain⟨cs',y,hc,htr⟩:=Ct i hil;obtain⟨_,yE,hat⟩:=ah hc;rw[hK] at yE hat;have hcell:w.rangeAt b (off+i*K) cs':=by
  intro j v hv;have hj:j<K:=by rw[←yE];exact(List.getElem?_eq_some_iff.1 hv).1
  have g:=hat j hj;rw[hv,add_add,Addr.add_mid] at g;rw[Nat.add_assoc];exact g
 refine⟨b,off,cs',y,rfl,?_,yE,hcell,htr⟩;obtain⟨v,hv⟩:∃v,cs'[0]?=some v:=⟨_,af cK⟩;exact World.block_lt_of_cell? w _ (hcell 0 v hv)
end
structure aa6(w:ag)(r:di)(o:fh):Prop where
 leaf:fo w (fun k=>k<w.heap.size) r o
 kind:0≤r.kind∧r.kind≤255
 gW:I64 r.gW
 cW:o.cW.length≤maxLen
 dn:r.dn≤maxLen
 dc:r.dn≤r.dc
 pn:r.pn≤maxLen
def wH(w:ag):Nat→Option Addr→List di→Prop
 |0,_,R=>R=[]
 |n+1,pa,R=>∀(k:Nat) r,R[k]?=some r→∃(b off:Nat) (o:fh) (Q:List di),pa=some ⟨b,off,none⟩∧b<w.heap.size∧w.rangeAt b (off+k*7) r.cells∧aa6 w r o∧r.pn=Q.length∧wH w n r.pa Q
theorem wH.up{w:ag}:∀{n:Nat} {pa:Option Addr} {R:List di},wH w n pa R→wH w (n+1) pa R
 |0,pa,R,h=>by
  have h:R=[]:=h;subst h;exact fun k r hk=>by simp at hk
 |n+1,pa,R,h=>fun k r hk=>by
  obtain⟨b,off,o,Q,h1,h2,h3,h4,h5,h6⟩:=h k r hk;exact⟨b,off,o,Q,h1,h2,h3,h4,h5,h6.up⟩
theorem wo:prog.cellsOf 35=7:=by kernel_rfl
theorem IJ:prog.cellsOf 33=1:=by kernel_rfl
theorem TD:prog.cellsOf 2=1:=by kernel_rfl
section
variable{H:Type}{enc:TypeId×Value→H}{w:World}{base:Nat}{spare:Nat→Bool}{held:Bool}
theorem EK:∀(fuel:Nat) {cs:List Value} {y:DataW H×List MemPlace},aa enc prog w base spare held fuel 35 cs=some y→
  ∃(r:di) (o:fh) (Q:List di),cs=r.cells∧aa6 w r o∧r.pn=Q.length∧wH w fuel r.pa Q:=by
 intro fuel
 induction fuel using Nat.strongRecOn with
 |ind fuel ih=>
 intro cs y h;obtain⟨xs,n,Qu,_,hl,hx,hf⟩:=DataW.trod_struct underlying35 h;rw[wo] at hl
 match cs,hl with
 |[c0,c1,c2,c3,c4,c5,c6],_=>
  match xs,hx with
  |[y0,y1,y2,y3,y4,y5,y6],_=>
   have g0:aa enc prog w base spare held n 5 (([c0,c1,c2,c3,c4,c5,c6].drop 0).take (prog.cellsOf 5))=some y0:=hf 0 _ rfl;have g1:aa enc prog w base spare held n 9 (([c0,c1,c2,c3,c4,c5,c6].drop 1).take (prog.cellsOf 9))=some y1:=hf 1 _ rfl;have g2:aa enc prog w base spare held n 32 (([c0,c1,c2,c3,c4,c5,c6].drop 2).take (prog.cellsOf 32))=some y2:=hf 2 _ rfl;have g3:aa enc prog w base spare held n 2 (([c0,c1,c2,c3,c4,c5,c6].drop 3).take (prog.cellsOf 2))=some y3:=hf 3 _ rfl;have g4:aa enc prog w base spare held n 4 (([c0,c1,c2,c3,c4,c5,c6].drop 4).take (prog.cellsOf 4))=some y4:=hf 4 _ rfl;have g5:aa enc prog w base spare held n 4 (([c0,c1,c2,c3,c4,c5,c6].drop 5).take (prog.cellsOf 4))=some y5:=hf 5 _ rfl;have g6:aa enc prog w base spare held n 33 (([c0,c1,c2,c3,c4,c5,c6].drop 6).take (prog.cellsOf 33))=some y6:=hf 6 _ rfl;rw[cellsByte] at g0;rw[wm] at g1;rw[qt] at g2;rw[TD] at g3;rw[IK] at g4 g5;rw[IJ] at g6;obtain⟨k,e0,_,w0⟩:=DataW.trod_int underlying5 g0;obtain⟨sx,e1,_,hs⟩:=DataW.trod_string underlying9 g1;obtain⟨p,rfl⟩:=zZ sx;obtain⟨ao,c,D,e2,b1,b2,b3,b4⟩:=BI g2;obtain⟨v,e3,_,w3⟩:=DataW.trod_int underlying2 g3;obtain⟨sq,e4,_⟩:=DataW.trod_bool underlying4 g4;obtain⟨ep,e5,_⟩:=DataW.trod_bool underlying4 g5;obtain⟨pa,len,cap,m,e6,l1,l2,hm,hi⟩:=JR (P:=prog) underlying33 wo cK g6;obtain⟨Q,hQ,hat⟩:=oC (fun i (r:di)=>∃(b off:Nat) (o:fh) (Q:List di),pa=some ⟨b,off,none⟩∧b<w.heap.size∧w.rangeAt b (off+i*7) r.cells∧aa6 w r o∧r.pn=Q.length∧wH w m r.pa Q) len (fun i hil=>by
    obtain⟨b,off,cs',y',h1,h2,h3,h4,h5⟩:=hi i hil;obtain⟨r,o,Q,rfl,h6,h7,h8⟩:=ih m (by rcases hm with h|h<;>omega) h5;exact⟨r,b,off,o,Q,h1,h2,h4,h6,h7,h8⟩)
   simp at e0 e1 e2 e3 e4 e5 e6;subst e0 e1 e2 e3 e4 e5 e6;rw[fL] at hs;refine⟨⟨k,p,ao,D.length,c,v,sq,ep,pa,len,cap⟩,⟨k,p,D,v,sq,ep⟩,Q,rfl,⟨⟨rfl,rfl,rfl,rfl,rfl,rfl,fun j x hj=>?_,b4⟩,wf_u8 w0,xG w3,hs,Nat.le_trans b1 b2,b1,Nat.le_trans l1 l2⟩,hQ.symm,?_⟩
   ·obtain⟨b,off,h1,_,h3,h4⟩:=b3 j x hj
    exact⟨b,off,h1,h3,h3,h4⟩
   rcases hm with h0|h0
   ·have:Q=[]:=List.eq_nil_of_length_eq_zero cK
    subst this;rw[Qu];exact fun k r hk=>by simp at hk
   rw[Qu,h0];exact wH.up (n:=m+1) hat
end
end
section
open Go.RowKit Go.Shelf Go.MapKept Go.ChangeMaps Go.Maps Go.Sort
structure zE(X:Nat→Prop)(w:ag)(r:di)(o:mH)(ce:Int):Prop where
 leaf:fo w (fun k=>k<w.heap.size∧¬X k) r o.leaf
 chk:∀w',cE w w'→Calls prog 29 #[r.val] w' (oF w' ce)
 good:ce=0→(o.leaf.kind≠7∧r.pn=0∧yW o.leaf)∨(o.leaf.kind=7∧r.pn=o.parts.length∧o.parts.length≤6∧wF X w r.pa o.parts)
theorem fo.XF{X:Nat→Prop}{w w':ag}{r:di}{o:fh}(h:fo w (fun k=>k<w.heap.size∧¬X k) r o)(hb:cE w w'):fo w' (fun k=>k<w'.heap.size∧¬X k) r o:=(h.below hb).both (fun k h2 h3=>⟨h3,h2.2⟩)
theorem wF.below{X:Nat→Prop}{w w':ag}{pa:Option Addr}{Q:List fh}(h:wF X w pa Q)(hb:cE w w'):wF X w' pa Q:=fun k p hk=>by
 obtain⟨g,off,r,h1,h2,h3,h4,h5⟩:=h k p hk;exact⟨g,off,r,h1,Nat.lt_of_lt_of_le h2 hb.size,dR h3 hb h2,h4.XF hb,h5⟩
theorem zE.below{X:Nat→Prop}{w w':ag}{r:di}{o:mH}{ce:Int}(h:zE X w r o ce)(hb:cE w w'):zE X w' r o ce:=
 ⟨h.leaf.XF hb,fun w2 dI=>h.chk w2 (hb.trans (dI.mono hb.size)),fun h0=>(h.good h0).imp id (fun h=>⟨h.1,h.2.1,h.2.2.1,h.2.2.2.below hb⟩)⟩
theorem zE.Tf{X:Nat→Prop}{w:ag}{r:di}{o:mH}{ce:Int}(h:zE X w r o ce)(h0:ce=0):o.Tf∧o.seq.length≤6:=by
 rcases h.good h0 with ⟨hk,_,hl⟩|⟨hk,_,h6,hp⟩
 ·have hs:o.seq=[o.leaf]:=by unfold mH.seq;rw[if_neg hk]
  refine⟨fun p hp=>?_,by rw[hs];simp⟩;rw[hs] at hp;simp at hp;rw[hp];exact hl
 have hs:o.seq=o.parts:=by unfold mH.seq;rw[if_pos hk]
 refine⟨fun p hq=>?_,by rw[hs];exact h6⟩;rw[hs] at hq;obtain⟨k,hk⟩:=List.mem_iff_getElem?.1 hq;obtain⟨_,_,_,_,_,_,_,h7⟩:=hp k p hk;exact h7
theorem zE.ahi{X:Nat→Prop}{w:ag}{r:di}{o:mH}{ce:Int}(h:zE X w r o ce)(cP:cO)(M:List (cO×Nd))(cS:Int)(dh:eF):(zA cP M cS dh ce o).length≤12:=by
 unfold zA;by_cases hE:Ca cP M cS dh ce o=0
 ·rw[if_neg (by simpa using hE)]
  have h0:ce=0:=by
   by_cases h0:ce=0
   ·exact h0
   unfold Ca at hE;rw[if_pos h0] at hE;exact absurd hE h0
  have h1:=vh (cP:=cP) (cS:=cS+1) (dh:=dh) o.seq M;have h2:=(h.Tf h0).2;omega
 rw[if_pos hE];simp
section
variable{w0 w:World}{b:Nat}{cP:cO}{cS:Int}{M:List (cO×Nd)}
theorem nZ.PB{ce:Int}{dh:eF}{o:mH}(h:nZ M):nZ (IB cP M cS dh ce o):=by
 unfold IB;split
 ·exact h
 exact nZ.run _ h
theorem St.aeY{X:Nat→Prop}(S:St w0 w b cP cS M)(UQ:∀k,X k→k<w.heap.size)(F:jC X w b cP cS M)(h1:cS≤90000){r:di}{o:mH}{ce:Int}(h:zE X w r o ce)(dh:eF):
  Calls prog 30 #[.p b,r.val,Ce dh] w (Nu X w cP M cS dh ce o):=by
 by_cases h0:ce=0
 ·subst h0
  rcases h.good rfl with hg|hg
  ·exact Go.Proofs.YtdpaejbaoefdjaaGreatDoor.WX UQ F S.tr S.inv S.tr.max S.lo h1 S.nice S.pow r o dh h.leaf h.chk hg
  exact Tw UQ F S.tr S.inv S.tr.max S.lo h1 S.nice S.pow r o dh h.leaf h.chk hg
 exact aaX r o dh ce h.chk h0
theorem St.TU{X X2 X3:Nat→Prop}(S:St w0 w b cP cS M)(UQ:∀k,X k→k<w.heap.size)(F:jC X w b cP cS M)(h1:cS≤90000){wI:ag}{r:di}{o:mH}{ce:Int}(hin:zE X2 wI r o ce){dh:eF}{a:Option Addr}{n c:Nat}(hu:iB X3 w (.slice a n c) (zA cP M cS dh ce o))(hne:zA cP M cS dh ce o≠[]):
  Calls prog 249 #[.p b,.slice a n c] w fun e w'=>e=.returned (.I)∧(St w0 w' b cP (cS+1) (IB cP M cS dh ce o)∧jC X w' b cP (cS+1) (IB cP M cS dh ce o))∧cQ (·=b) w w':=by
 obtain⟨xa,xc,XL,e,hA,hL⟩:=hu;cases e;have hfit:=Fw (cS:=cS) (dh:=dh) (ce:=ce) (o:=o) S.inv;have hlen:=hin.ahi cP M cS dh;have hl:XL.length=(zA cP M cS dh ce o).length:=hL.1;have hap:=jC.apply S.tr F UQ S.lo cK a c XL (zA cP M cS dh ce o) hL hA (WY S.tr.fit S.inv (fun h0=>(hin.Tf h0).1)) cK;rw[hl] at hap;refine hap.mono ?_;rintro e w' ⟨rfl,⟨R4,F4⟩,K4⟩;obtain⟨_,ha,hn⟩:=Xa (cS:=cS) hfit;rw[ha,hn] at R4 F4;rw[hfit];exact⟨rfl,⟨⟨R4,S.inv.PB,S.nice.PB,S.tab,by have:=S.lo;omega⟩,F4⟩,K4⟩
end
theorem jV(w:ag)(lo:Nat→Prop)(x:Int):fQ w lo (.agg #[.i x,.z,.n,.U,.U,.U,.I,.U,.V,.V,.V,.n,.n]) x lX []:=
 ⟨oS,none,0,none,0,rfl,mX _ _,gK.nil _ _ _,jZ.nil _ _ _⟩
end
