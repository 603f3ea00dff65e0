/- Part 35. -/
import Derived.Test.YtdpaejbaoefdjaaGreatDoorG30
import Derived.Test.YtdpaejbaoefdjaaGreatDoorG33
import Derived.Test.YtdpaejbaoefdjaaGreatDoorRows
open Go.DataW renaming trod → aa,trod_int → ag,trod_struct → ay,trod_slice → aL
open List renaming getElem?_eq_getElem → af,length_map → an,sum_cons → aq,getElem?_eq_some_iff → au,getElem?_map → aA,map_cons → aC,sum_nil → aF,map_nil → aG,mem_iff_getElem? → aH,length_append → aK
open Go renaming MemPlace → ah,DataW → aD,Value → aJ
open Option renaming map_eq_some_iff → aj
open List.cons renaming injEq → aB
open Go.Value.slice renaming injEq → aE
open Go.World renaming cells?_some → aI
namespace Go.Proofs.YtdpaejbaoefdjaaGreatDoor
open Go.Proofs.Tryz
set_option maxRecDepth 100000
set_option maxHeartbeats 64000000
set_option linter.unusedVariables false
set_option linter.unusedSimpArgs false
section
open Go.RowKit Go.ChangeShapes Go.WideShapes Go.Deep
section
variable{H:Type}{enc:TypeId×Value→H}{P:Program}{w:World}{base:Nat}{spare:Nat→Bool}{held:Bool}
theorem iy(d:aD H):1≤Rows.uptoBulk d:=by
 cases d with
 |lit l=>cases l<;>simp[Rows.uptoBulk]
 |nil=>simp[Rows.uptoBulk]
 |ptr d=>simp[Rows.uptoBulk]
 |slice elems spare=>simp[Rows.uptoBulk]
 |agg parts=>simp[Rows.uptoBulk]
 |iface t d=>simp[Rows.uptoBulk]
 |map entries=>simp[Rows.uptoBulk]
 |held h=>simp[Rows.uptoBulk]
theorem wu:∀l:List (aD H),Rows.uptoBulkAll l=(l.map Rows.uptoBulk).sum
 |[]=>by simp[Rows.uptoBulkAll]
 |x::l=>by simp only[Rows.uptoBulkAll,aC,aq,wu l]
theorem TN(l:List (aD H)):l.length≤(l.map Rows.uptoBulk).sum:=by
 induction l with
 |nil=>simp
 |cons x l ih=>have:=iy x;simp only[aC,aq,List.length_cons];omega
theorem Mc{l:List Nat}{x:Nat}(h:x∈l):x≤l.sum:=by
 induction l with
 |nil=>cases h
 |cons y l ih=>
  simp only[aq];rcases List.mem_cons.1 h with rfl|h
  ·omega
  have:=ih h;omega
theorem ny{t e:TypeId}(ht:P.underlying t=some (.slice e)){K:Nat}(hK:P.cellsOf e=K)(hpos:0<K){fuel:Nat}{cs:List aJ}{x:aD H×List ah}
  (h:aa enc P w base spare held fuel t cs=some x):
  ∃ao len cap m,∃Y:List (aD H×List ah),cs=[.slice ao len cap]∧len≤cap∧cap≤maxLen∧Y.length=len∧(Y.map (fun y=>Rows.uptoBulk y.1)).sum+1≤Rows.uptoBulk x.1∧(len=0∨fuel=m+1)∧
   ∀(i:Nat) y,Y[i]?=some y→∃b off cs',ao=some ⟨b,off,none⟩∧b<w.heap.size∧cs'.length=K∧w.rangeAt b (off+i*K) cs'∧aa enc P w base spare held m e cs'=some y:=by
 rcases aL ht h with ⟨rfl,hx⟩|⟨a,len,cap,elems,rest,n,Qu,rfl,hx,_,hl,hm,hlen,hel,_,_⟩
 ·exact⟨none,0,0,0,[],rfl,Nat.le_refl _,Nat.zero_le _,rfl,by simpa using iy x.1,.inl rfl,fun i y hi=>by simp at hi⟩
 have Ct:∀i,i<len→∃cs' y,elems[i]?=some y∧w.cells? base (a.add (i*P.cellsOf e)) (P.cellsOf e)=some cs'∧aa enc P w base spare held n e cs'=some y:=fun i hi=>by
  have h1:=hel i hi;rw[af cK] at h1;obtain⟨cs',h2,h3⟩:=Option.bind_eq_some_iff.1 h1;exact⟨cs',_,af cK,h2,h3⟩
 refine⟨some a,len,cap,n,elems,rfl,hl,hm,hlen,?_,.inr Qu,fun i y hy=>?_⟩
 ·subst hx
  simp only[Rows.uptoBulk,wu,List.map_map];have:(elems.map (fun y=>Rows.uptoBulk y.1))=elems.map (Rows.uptoBulk∘fun x=>x.1):=rfl;rw[this];omega
 have hil:i<len:=by rw[←hlen];exact(au.1 hy).1
 have hsp:a.spot=none:=by
  obtain⟨cs0,_,_,hc0,_⟩:=Ct 0 cK;obtain⟨_,hl0,Ij⟩:=aI hc0;rw[hK] at hl0 Ij;have g:=Ij 0 hpos;rw[af cK] at g;cases hs:a.spot with
  |none=>rfl
  |some q=>
  exfalso
  simp only[Nat.zero_mul,Addr.add,if_true] at g;simp only[World.cell?,hs,Option.isSome_some,if_true] at g;split at g<;>cases g
 obtain⟨b,off,spot⟩:=a;dsimp only at hsp;subst hsp;obtain⟨cs',y',hy',hc,htr⟩:=Ct i hil;rw[hy] at hy';cases hy';obtain⟨_,yE,hat⟩:=aI hc;rw[hK] at yE hat;have hcell:w.rangeAt b (off+i*K) cs':=by
  intro j v hv;have hj:j<K:=by rw[←yE];exact(au.1 hv).1
  have g:=hat j hj;rw[hv,add_add,Addr.add_mid] at g;rw[Nat.add_assoc];exact g
 refine⟨b,off,cs',rfl,?_,yE,hcell,htr⟩;obtain⟨v,hv⟩:∃v,cs'[0]?=some v:=⟨_,af cK⟩;exact World.block_lt_of_cell? w _ (hcell 0 v hv)
theorem lC{t e:TypeId}(ht:P.underlying t=some (.slice e)){fuel:Nat}{ao:Option Addr}{n c:Nat}{x:aD H×List ah}(h:aa enc P w base spare held fuel t [.slice ao n c]=some x):n+1≤Rows.uptoBulk x.1:=by
 rcases aL ht h with ⟨e,hx⟩|⟨a,len,cap,elems,rest,m,Qu,e,hx,_,hl,hm,hlen,hel,_,_⟩
 ·cases e
  simpa using iy x.1
 cases e;subst hx;have:=TN (elems.map (·.1));simp only[Rows.uptoBulk,wu,an] at this⊢;omega
theorem F9{t:TypeId}(ht:P.underlying t=some .string){fuel:Nat}{p:cO}{x:aD H×List ah}(h:aa enc P w base spare held fuel t [.s p]=some x):p.length+1≤Rows.uptoBulk x.1:=by
 obtain⟨s,e,hx,_⟩:=DataW.trod_string ht h;cases e;subst hx;simp only[Rows.uptoBulk,gU];exact Nat.le_refl _
theorem rQ(xs:List (aD H×List ah))(q:List ah):Rows.uptoBulk ((DataW.agg (xs.map (·.1)),q):aD H×List ah).1=(xs.map (fun y=>Rows.uptoBulk y.1)).sum+1:=by
 simp only[Rows.uptoBulk,wu,List.map_map];rfl
end
theorem qJ.up{w:World}:∀{n:Nat} {r:di} {D:cO},qJ w n r D→qJ w (n+1) r D
 |0,_,_,h=>h.elim
 |n+1,r,D,h=>by
  obtain⟨o,Ds,h1,h2,h3,h4,h5⟩:=h;refine⟨o,Ds,h1,h2,h3,h4,fun k Dk hk=>?_⟩;obtain⟨b,off,q,g1,g2,g3,g4⟩:=h5 k Dk hk;exact⟨b,off,q,g1,g2,g3,g4.up⟩
theorem wH.W8{w:World}:∀{n:Nat} {pa:Option Addr} {Q:List di},wH w n pa Q→gV w 7 pa (Q.map di.cells)
 |0,pa,Q,h=>by
  have h:Q=[]:=h;subst h;exact fun k c hk=>by simp at hk
 |n+1,pa,Q,h=>fun k c hk=>by
  simp only[aA,aj] at hk;obtain⟨q,hq,rfl⟩:=hk;obtain⟨b,off,o,Q',h1,h2,h3,_⟩:=h k q hq;exact⟨b,off,h1,h2,h3,rfl⟩
theorem di.PN{a b:di}(h:a.cells=b.cells):a=b:=by
 obtain⟨ak,ap,ada,adn,adc,av,az,ae,apa,apn,apc⟩:=a;obtain⟨bk,bp,bda,bdn,bdc,bv,bs_,be,bpa,bpn,bpc⟩:=b;simp only[di.cells,aB,Value.int.injEq,Value.string.injEq,aE,Value.bool.injEq,true_and,and_true] at h;obtain⟨h1,h2,⟨h3,h4,h5⟩,h6,h7,h8,h9,h10,h11⟩:=h;have:=congrArg (fun s:ByteArray=>s.data.toList) h2;simp only[gU] at this;subst h1 h3 h4 h5 h6 h7 h8 h9 h10 h11 this;rfl
theorem Ip{Ds:List cO}:Ds.flatten.length=(Ds.map List.length).sum:=by
 rw[List.length_flatten]
theorem Eu:∀{A B:List Nat},A.length=B.length→(∀(k:Nat) x y,A[k]?=some x→B[k]?=some y→x≤8*y)→A.sum≤8*B.sum
 |[],[],_,_=>by simp
 |[],_::_,h,_=>by simp at h
 |_::_,[],h,_=>by simp at h
 |x::A,y::B,h,hk=>by
  have h1:=hk 0 x y rfl rfl;have h2:=Eu (A:=A) (B:=B) (by simpa using h) (fun k a b ha hb=>hk (k+1) a b ha hb);simp only[aq];omega
section
variable{H:Type}{enc:TypeId×Value→H}{w:World}{base:Nat}{spare:Nat→Bool}{held:Bool}
theorem EL{fuel:Nat}{r:di}{y:aD H×List ah}(h:aa enc prog w base spare held fuel 35 r.cells=some y):
  ∃n,∃y6:aD H×List ah,fuel=n+1∧aa enc prog w base spare held n 33 [.slice r.pa r.pn r.pc]=some y6∧r.cW.length+r.dn+7+Rows.uptoBulk y6.1≤Rows.uptoBulk y.1:=by
 obtain⟨xs,n,Qu,hy,hl,hx,hf⟩:=ay underlying35 h
 match xs,hx with
 |[y0,y1,y2,y3,y4,y5,y6],_=>
  have g1:aa enc prog w base spare held n 9 ((r.cells.drop 1).take (prog.cellsOf 9))=some y1:=hf 1 _ rfl;have g2:aa enc prog w base spare held n 32 ((r.cells.drop 2).take (prog.cellsOf 32))=some y2:=hf 2 _ rfl;have g6:aa enc prog w base spare held n 33 ((r.cells.drop 6).take (prog.cellsOf 33))=some y6:=hf 6 _ rfl;rw[wm] at g1;rw[qt] at g2;rw[IJ] at g6;have g1':aa enc prog w base spare held n 9 [.s r.cW]=some y1:=g1;have g2':aa enc prog w base spare held n 32 [.slice r.da r.dn r.dc]=some y2:=g2;have g6':aa enc prog w base spare held n 33 [.slice r.pa r.pn r.pc]=some y6:=g6;have b1:=F9 underlying9 g1';have b2:=lC underlying32 g2';refine⟨n,y6,Qu,g6',?_⟩;rw[hy,rQ];have p0:=iy y0.1;have p3:=iy y3.1;have p4:=iy y4.1;have p5:=iy y5.1;simp only[aC,aG,aq,aF];omega
theorem Oi:∀(fuel:Nat) {cs:List aJ} {y:aD H×List ah},aa enc prog w base spare held fuel 35 cs=some y→
  ∃(r:di) (D:cO),cs=r.cells∧qJ w fuel r D∧D.length≤8*Rows.uptoBulk y.1:=by
 intro fuel
 induction fuel using Nat.strongRecOn with
 |ind fuel ih=>
 intro cs y h;obtain⟨r,o,Q,rfl,hok,MQ,hat⟩:=EK fuel h;obtain⟨n,y6,Qu,g6,hb⟩:=EL h;obtain⟨ao,len,cap,m,Y,e6,l1,l2,hYl,hYs,hm,hY⟩:=ny (P:=prog) underlying33 wo cK g6;simp only[aB,aE,and_true] at e6;obtain⟨e1,e2,e3⟩:=e6;obtain⟨Ds,hDl,hD⟩:=oC (fun i (D:cO)=>∃b off q,r.pa=some ⟨b,off,none⟩∧b<w.heap.size∧w.rangeAt b (off+i*7) q.cells∧qJ w n q D∧∃yi,Y[i]?=some yi∧D.length≤8*Rows.uptoBulk yi.1) len (fun i hil=>by
  obtain⟨yi,UD⟩:∃yi,Y[i]?=some yi:=⟨_,af cK⟩;obtain⟨b,off,cs',h1,h2,h3,h4,h5⟩:=hY i yi UD;have hnm:n=m+1:=by rcases hm with h|h<;>omega
  obtain⟨q,D,rfl,h6,h7⟩:=ih m cK h5;exact⟨D,b,off,q,by rw[e1];exact h1,h2,h4,by rw[hnm];exact h6.up,yi,UD,h7⟩)
 have hsum:Ds.flatten.length≤8*(Y.map (fun y=>Rows.uptoBulk y.1)).sum:=by
  rw[Ip];refine Eu (by rw[an,an];omega) (fun k a b ha hb=>?_);simp only[aA,aj] at ha hb;obtain⟨D,Qy,rfl⟩:=ha;obtain⟨yi,hy1,rfl⟩:=hb;obtain⟨_,_,_,_,_,_,_,yi',hy2,hle⟩:=hD k D Qy;rw[hy1] at hy2;cases hy2;exact hle
 refine⟨r,opHead o++(dw 8 r.pn++Ds.flatten),rfl,?_,?_⟩
 ·rw[Qu]
  refine⟨o,Ds,hok.leaf.both (fun _ _ _=>trivial),⟨by have:=hok.kind;have:=hok.leaf.kind;omega,by have:=hok.gW;have:=hok.leaf.gW;unfold I64 at*;omega⟩,rfl,by omega,fun k Dk hk=>?_⟩;obtain⟨b,off,q,h1,h2,h3,h4,_⟩:=hD k Dk hk;exact⟨b,off,q,h1,h2,h3,h4⟩
 rw[aK,aK,jX,dD];have h1:=hok.leaf.cW;have h2:=hok.leaf.len;rw[h1,h2] at hb;omega
theorem J5{fuel:Nat}{cs:List aJ}{y:aD H×List ah}(h:aa enc prog w base spare held fuel 35 cs=some y)(hb:Rows.uptoBulk y.1≤1000000000):
  ∃(r:di) (M:Bool),cs=r.cells∧ki w r M:=by
 obtain⟨r,o,Q,rfl,hok,MQ,hat⟩:=EK fuel h;obtain⟨n,y6,Qu,g6,hbk⟩:=EL h;obtain⟨ao,len,cap,m,Y,e6,l1,l2,hYl,hYs,hm,hY⟩:=ny (P:=prog) underlying33 wo cK g6;simp only[aB,aE,and_true] at e6;obtain⟨e1,e2,e3⟩:=e6;obtain⟨R,hRl,hR⟩:=oC (fun i (q:di)=>∃b off,r.pa=some ⟨b,off,none⟩∧b<w.heap.size∧w.rangeAt b (off+i*7) q.cells∧q.pn≤1000000000∧∃cs',gV w 7 q.pa cs'∧q.pn=cs'.length) len (fun i hil=>by
  obtain⟨yi,UD⟩:∃yi,Y[i]?=some yi:=⟨_,af cK⟩;obtain⟨b,off,cs',h1,h2,h3,h4,h5⟩:=hY i yi UD;obtain⟨q,oq,Qq,rfl,h6,h7,h8⟩:=EK m h5;obtain⟨_,z6,_,k6,hz⟩:=EL h5;have hz2:=lC underlying33 k6;have h9:Rows.uptoBulk yi.1≤(Y.map (fun y=>Rows.uptoBulk y.1)).sum:=Mc (List.mem_map_of_mem (List.mem_of_getElem? UD));exact⟨q,b,off,by rw[e1];exact h1,h2,h4,by omega,Qq.map di.cells,h8.W8,by rw[an];exact h7⟩)
 have hz2:=lC underlying33 g6;refine⟨r,qz r 6 (fun k=>match R[k]? with|some q=>qz q 0 (fun _=>true)|none=>true),rfl,R.map di.cells,(fun k=>match R[k]? with|some q=>qz q 0 (fun _=>true)|none=>true),fun k c hk=>?_,by rw[an];omega,by omega,rfl,fun W hW k x hx _=>?_⟩
 ·simp only[aA,aj] at hk
  obtain⟨q,hq,rfl⟩:=hk;obtain⟨b,off,h1,h2,h3,_⟩:=hR k q hq;exact⟨b,off,h1,h2,h3,rfl⟩
 simp only[aA,aj] at hx;obtain⟨q,hq,rfl⟩:=hx;obtain⟨b,off,h1,h2,h3,h4,cs',h5,h6⟩:=hR k q hq;simp only[hq];exact VT W q cs' (h5.below hW) h6 h4
end
theorem DW:prog.cellsOf 37=1:=by kernel_rfl
theorem DX:prog.cellsOf 40=7:=by kernel_rfl
theorem Lt:prog.cellsOf 42=23:=by kernel_rfl
theorem tH.of{u:eU}(h:u.Wf):tH u:=⟨h.gW,h.BV,h.next,h.on,h.made,h.CI,h.Ch⟩
section
variable{H:Type}{enc:TypeId×Value→H}{w:World}{base:Nat}{spare:Nat→Bool}{held:Bool}
theorem Aa{fuel:Nat}{cs:List aJ}{y:aD H×List ah}(h:aa enc prog w base spare held fuel 37 cs=some y):
  ∃a V c,cs=[.slice a V.length c]∧mP w a V.length V∧V.length+1≤Rows.uptoBulk y.1:=by
 obtain⟨ao,len,cap,m,Y,rfl,l1,l2,hYl,hYs,hm,hY⟩:=ny (P:=prog) underlying37 wh cK h;have hbk:=lC underlying37 h;obtain⟨V,hVl,hV⟩:=oC (fun i (v:Nat)=>v<18446744073709551616∧∃b off,ao=some ⟨b,off,none⟩∧b<w.heap.size∧w.cell? ⟨b,off+i,none⟩=some (.v (v:Int))) len (fun i hil=>by
  obtain⟨yi,UD⟩:∃yi,Y[i]?=some yi:=⟨_,af cK⟩;obtain⟨b,off,cs',h1,h2,h3,h4,h5⟩:=hY i yi UD;obtain⟨v,e0,_,wf⟩:=ag underlying36 h5;subst e0;have hu:=tP wf;have:=h4 0 _ rfl;rw[Nat.mul_one,Nat.add_zero] at this;obtain⟨k,rfl⟩:∃k:Nat,v=k:=⟨v.toNat,by unfold YA at hu;omega⟩;exact⟨k,by unfold YA at hu;omega,b,off,h1,h2,this⟩)
 subst hVl;refine⟨ao,V,cap,rfl,⟨rfl,fun k v hk=>?_,fun v hv=>?_⟩,hbk⟩
 ·obtain⟨_,b,off,h1,h2,h3⟩:=hV k v hk
  exact⟨b,off,h1,trivial,h2,h3⟩
 obtain⟨k,hk⟩:=aH.1 hv;exact(hV k v hk).1
theorem Tp{fuel:Nat}{r:dr}{y:aD H×List ah}(h:aa enc prog w base spare held fuel 93 r.cells=some y):r.cW.length+r.node.n+12≤Rows.uptoBulk y.1:=by
 obtain⟨p,g,⟨a,n,c,⟨n1,n2,n3,n4,n5,n6,n7,n8⟩⟩⟩:=r;obtain⟨xs,m,_,hy,hl,hx,hf⟩:=ay underlying93 h
 match xs,hx with
 |[y0,y1,y2],_=>
  have g0:aa enc prog w base spare held m 9 ((dr.cells ⟨p,g,⟨a,n,c,⟨n1,n2,n3,n4,n5,n6,n7,n8⟩⟩⟩).drop 0 |>.take (prog.cellsOf 9))=some y0:=hf 0 _ rfl;have g2:aa enc prog w base spare held m 44 ((dr.cells ⟨p,g,⟨a,n,c,⟨n1,n2,n3,n4,n5,n6,n7,n8⟩⟩⟩).drop 2 |>.take (prog.cellsOf 44))=some y2:=hf 2 _ rfl;rw[wm] at g0;rw[Ls] at g2;have g0':aa enc prog w base spare held m 9 [.s p]=some y0:=g0;have b0:=F9 underlying9 g0';obtain⟨zs,k,_,hz,_,hzl,hzf⟩:=ay underlying44 g2
  match zs,hzl with
  |[z0,z1,z2,z3,z4,z5,z6,z7],_=>
   have k0:aa enc prog w base spare held k 32 ((((dr.cells ⟨p,g,⟨a,n,c,⟨n1,n2,n3,n4,n5,n6,n7,n8⟩⟩⟩).drop 2).take 9).drop 0 |>.take (prog.cellsOf 32))=some z0:=hzf 0 _ rfl;rw[qt] at k0;have k0':aa enc prog w base spare held k 32 [.slice a n c]=some z0:=k0;have b2:=lC underlying32 k0';rw[hy,rQ];have hz':Rows.uptoBulk y2.1=([z0,z1,z2,z3,z4,z5,z6,z7].map (fun y=>Rows.uptoBulk y.1)).sum+1:=by rw[hz,rQ]
   have p1:=iy y1.1;have q1:=iy z1.1;have q2:=iy z2.1;have q3:=iy z3.1;have q4:=iy z4.1;have q5:=iy z5.1;have q6:=iy z6.1;have q7:=iy z7.1;simp only[aC,aG,aq,aF] at hz'⊢;omega
theorem KY{fuel:Nat}{cs:List aJ}{y:aD H×List ah}(h:aa enc prog w base spare held fuel 38 cs=some y):
  ∃ao c L E,cs=[.slice ao E.length c]∧ye w ao E.length L E∧jG E+1≤8*Rows.uptoBulk y.1∧E.length+1≤Rows.uptoBulk y.1:=by
 obtain⟨ao,len,cap,m,Y,rfl,l1,l2,hYl,hYs,hm,hY⟩:=ny (P:=prog) underlying38 yR cK h;have hbk:=lC underlying38 h;obtain⟨L,E,hL,hE,hat⟩:=RZ (fun i (r:dr) (e:gm)=>(kU w BU r e∧InE e∧∃yi,Y[i]?=some yi∧66+e.cW.length+e.node.data.length≤8*Rows.uptoBulk yi.1)∧∃b off,ao=some ⟨b,off,none⟩∧b<w.heap.size∧w.rangeAt b (off+i*11) r.cells) len (fun i hil=>by
  obtain⟨yi,UD⟩:∃yi,Y[i]?=some yi:=⟨_,af cK⟩;obtain⟨b,off,cs',h1,h2,h3,h4,h5⟩:=hY i yi UD;obtain⟨r,e,rfl,h6,h7,h8,h9⟩:=Iy h5;have hb:=Tp h5;have e1:r.cW=e.cW:=h6.cW;have e2:r.node.n=e.node.data.length:=h6.node.len;rw[e1,e2] at hb;exact⟨r,e,⟨h6,⟨h7,h8,h9⟩,yi,UD,by omega⟩,b,off,h1,h2,h4⟩)
 subst hE;have Ct:∀(k:Nat) r,L[k]?=some r→∃e,E[k]?=some e:=fun k r hk=>⟨_,af (by have:=(au.1 hk).1;omega)⟩
 have X8:∀(k:Nat) e,E[k]?=some e→∃r,L[k]?=some r:=fun k r hk=>⟨_,af (by have:=(au.1 hk).1;omega)⟩
 have hsum:jG E≤8*(Y.map (fun y=>Rows.uptoBulk y.1)).sum:=by
  unfold jG;refine Eu (by rw[an,an];omega) (fun k a b ha hb=>?_);simp only[aA,aj] at ha hb;obtain⟨e,he,rfl⟩:=ha;obtain⟨yi,hy1,rfl⟩:=hb;obtain⟨r,hr⟩:=X8 k e he;obtain⟨yi',hy2,hle⟩:=(hat k r e hr he).1.2.2;rw[hy1] at hy2;cases hy2;exact hle
 refine⟨ao,cap,L,E,rfl,⟨rfl,⟨hL,fun k r e hr he=>(hat k r e hr he).1.1⟩,fun k r hk=>?_,fun e he=>?_⟩,by omega,hbk⟩
 ·obtain⟨e,he⟩:=Ct k r hk
  exact(hat k r e hk he).2
 obtain⟨k,hk⟩:=aH.1 he;obtain⟨r,hr⟩:=X8 k e hk;exact tH.of (hat k r e hr hk).1.2.1.num
theorem OY{fuel:Nat}{cs:List aJ}{y:aD H×List ah}(h:aa enc prog w base spare held fuel 40 cs=some y):
  ∃(i:ei) (L:List dr) (x:fW),cs=cU x i∧uy w i L x∧nR x.ew∧nR x.dO∧kF x≤8*Rows.uptoBulk y.1:=by
 obtain⟨xs,n,_,hy,hl,hx,hf⟩:=ay underlying40 h;rw[DX] at hl
 match cs,hl with
 |[c0,c1,c2,c3,c4,c5,c6],_=>
  match xs,hx with
  |[y0,y1,y2,y3,y4,y5,y6],_=>
   have g0:aa enc prog w base spare held n 3 (([c0,c1,c2,c3,c4,c5,c6].drop 0).take (prog.cellsOf 3))=some y0:=hf 0 _ rfl;have g1:aa enc prog w base spare held n 36 (([c0,c1,c2,c3,c4,c5,c6].drop 1).take (prog.cellsOf 36))=some y1:=hf 1 _ rfl;have g2:aa enc prog w base spare held n 3 (([c0,c1,c2,c3,c4,c5,c6].drop 2).take (prog.cellsOf 3))=some y2:=hf 2 _ rfl;have g3:aa enc prog w base spare held n 36 (([c0,c1,c2,c3,c4,c5,c6].drop 3).take (prog.cellsOf 36))=some y3:=hf 3 _ rfl;have g4:aa enc prog w base spare held n 37 (([c0,c1,c2,c3,c4,c5,c6].drop 4).take (prog.cellsOf 37))=some y4:=hf 4 _ rfl;have g5:aa enc prog w base spare held n 38 (([c0,c1,c2,c3,c4,c5,c6].drop 5).take (prog.cellsOf 38))=some y5:=hf 5 _ rfl;have g6:aa enc prog w base spare held n 29 (([c0,c1,c2,c3,c4,c5,c6].drop 6).take (prog.cellsOf 29))=some y6:=hf 6 _ rfl;rw[BH] at g0 g2;rw[wh] at g1 g3;rw[DW] at g4;rw[PO] at g5;rw[wj] at g6;obtain⟨a0,e0,_,w0⟩:=ag underlying3 g0;obtain⟨a1,e1,_,w1⟩:=ag underlying36 g1;obtain⟨a2,e2,_,w2⟩:=ag underlying3 g2;obtain⟨a3,e3,_,w3⟩:=ag underlying36 g3;obtain⟨sa,V,sc,e4,hV,bV⟩:=Aa g4;obtain⟨ea,ec,L,E,e5,hE,bE,_⟩:=KY g5;obtain⟨a6,e6,_,w6⟩:=ag underlying29 g6;simp at e0 e1 e2 e3 e4 e5 e6;subst e0 e1 e2 e3 e4 e5 e6;have u1:=tP w1;have u3:=tP w3;have u6:=tQ w6;have i0:=xG w0;have i2:=xG w2;unfold YA at u1 u3;unfold YB at u6;obtain⟨k1,rfl⟩:∃k:Nat,a1=k:=⟨a1.toNat,by omega⟩;obtain⟨k3,rfl⟩:∃k:Nat,a3=k:=⟨a3.toNat,by omega⟩;obtain⟨k6,rfl⟩:∃k:Nat,a6=k:=⟨a6.toNat,by omega⟩;refine⟨⟨sa,sc,ea,ec⟩,L,⟨a0,k1,a2,k3,V,E,k6⟩,rfl,⟨hV,hE,by show k1<_;omega,by show k3<_;omega,by show k6<_;omega⟩,i0,i2,?_⟩;show 8*V.length+jG E≤_;rw[hy,rQ];simp only[aC,aG,aq,aF];omega
theorem KS{fuel:Nat}{cs:List aJ}{y:aD H×List ah}(h:aa enc prog w base spare held fuel 42 cs=some y)(hb:Rows.uptoBulk y.1≤2000000):
  ∃(X:jA) (o:di) (i:ei) (L:List dr) (fa:Option Addr) (fc:Nat),cs=X.cells o i fa fc∧pV w X o i L fa∧ki w o X.oP:=by
 obtain⟨xs,n,_,hy,hl,hx,hf⟩:=ay underlying42 h;rw[Lt] at hl
 match xs,hx with
 |[y0,y1,y2,y3,y4,y5,y6,y7,y8,y9],_=>
  match cs,hl with
  |[c0,c1,c2,c3,c4,c5,c6,c7,c8,c9,TM,TL,Lz,TK,M9,TJ,TI,TH,TG,PV,Jh,Lw,PU],_=>
   obtain⟨CS,uj⟩:∃l:List aJ,l=[c0,c1,c2,c3,c4,c5,c6,c7,c8,c9,TM,TL,Lz,TK,M9,TJ,TI,TH,TG,PV,Jh,Lw,PU]:=⟨_,rfl⟩;rw[←uj] at hf;have g0:aa enc prog w base spare held n 5 ((CS.drop 0).take (prog.cellsOf 5))=some y0:=hf 0 _ rfl;have g1:aa enc prog w base spare held n 29 ((CS.drop 1).take (prog.cellsOf 29))=some y1:=hf 1 _ rfl;have g2:aa enc prog w base spare held n 29 ((CS.drop 2).take (prog.cellsOf 29))=some y2:=hf 2 _ rfl;have g3:aa enc prog w base spare held n 31 ((CS.drop 3).take (prog.cellsOf 31))=some y3:=hf 3 _ rfl;have g4:aa enc prog w base spare held n 35 ((CS.drop 5).take (prog.cellsOf 35))=some y4:=hf 4 _ rfl;have g5:aa enc prog w base spare held n 40 ((CS.drop 12).take (prog.cellsOf 40))=some y5:=hf 5 _ rfl;have g6:aa enc prog w base spare held n 3 ((CS.drop 19).take (prog.cellsOf 3))=some y6:=hf 6 _ rfl;have g7:aa enc prog w base spare held n 3 ((CS.drop 20).take (prog.cellsOf 3))=some y7:=hf 7 _ rfl;have g8:aa enc prog w base spare held n 36 ((CS.drop 21).take (prog.cellsOf 36))=some y8:=hf 8 _ rfl;have g9:aa enc prog w base spare held n 37 ((CS.drop 22).take (prog.cellsOf 37))=some y9:=hf 9 _ rfl;rw[cellsByte,uj] at g0;rw[wj,uj] at g1 g2;rw[xS,uj] at g3;rw[wo,uj] at g4;rw[DX,uj] at g5;rw[BH,uj] at g6 g7;rw[wh,uj] at g8;rw[DW,uj] at g9;have hsum:Rows.uptoBulk y4.1+Rows.uptoBulk y5.1+Rows.uptoBulk y9.1≤Rows.uptoBulk y.1:=by
    rw[hy,rQ];simp only[aC,aG,aq,aF];omega
   obtain⟨a0,e0,_,w0⟩:=ag underlying5 g0;obtain⟨a1,e1,_,w1⟩:=ag underlying29 g1;obtain⟨a2,e2,_,w2⟩:=ag underlying29 g2;obtain⟨a3,a4,e3,w3,w4⟩:=C4 g3;obtain⟨r,D,e4,hD,bD⟩:=Oi n g4;obtain⟨r',M,e4',hM⟩:=J5 g4 cK;have hrr:r'=r:=di.PN (e4'.symm.trans e4);subst hrr;obtain⟨i,L,x,e5,hI,io,ir,bI⟩:=OY g5;obtain⟨a6,e6,_,w6⟩:=ag underlying3 g6;obtain⟨a7,e7,_,w7⟩:=ag underlying3 g7;obtain⟨a8,e8,_,w8⟩:=ag underlying36 g8;obtain⟨fa,V,fc,e9,hV,bV⟩:=Aa g9;have u0:=wf_u8 w0;have u1:=tQ w1;have u2:=tQ w2;have u8_:=tP w8;have i6:=xG w6;have i7:=xG w7;unfold YB at u1 u2 w4;unfold YA at u8_;obtain⟨k0,rfl⟩:∃k:Nat,a0=k:=⟨a0.toNat,by omega⟩;obtain⟨k1,rfl⟩:∃k:Nat,a1=k:=⟨a1.toNat,by omega⟩;obtain⟨k2,rfl⟩:∃k:Nat,a2=k:=⟨a2.toNat,by omega⟩;obtain⟨k4,rfl⟩:∃k:Nat,a4=k:=⟨a4.toNat,by omega⟩;obtain⟨k8,rfl⟩:∃k:Nat,a8=k:=⟨a8.toNat,by omega⟩;refine⟨⟨k0,k1,k2,a3,k4,D,M,x,a6,a7,k8,V⟩,r',i,L,fa,fc,?_,⟨⟨n,hD⟩,hI,hV,⟨by show k0<_;omega,by show k1<_;omega,by show k2<_;omega,w3,by show k4<_;omega,i6,i7,by show k8<_;omega,io,ir⟩,by show D.length+kF x+8*V.length≤_;omega⟩,hM⟩;simp at e0 e1 e2 e3 e6 e7 e8 e9;have e4c:[c5,c6,c7,c8,c9,TM,TL]=r'.cells:=e4;have e5c:[Lz,TK,M9,TJ,TI,TH,TG]=cU x i:=e5;obtain⟨rk,rp,da,dn,dc,rv,rs,re,pa,pn,pc⟩:=r';obtain⟨sa,sc,ea,ec⟩:=i;simp only[di.cells,aB,and_true] at e4c;simp only[cU,aB,and_true] at e5c;obtain⟨q5,q6,q7,q8,q9,q10,q11⟩:=e4c;obtain⟨q12,q13,q14,q15,q16,Zs,q18⟩:=e5c;obtain⟨e3a,e3b⟩:=e3;rw[e0,e1,e2,e3a,e3b,q5,q6,q7,q8,q9,q10,q11,q12,q13,q14,q15,q16,Zs,q18,e6,e7,e8,e9];rfl
end
end
