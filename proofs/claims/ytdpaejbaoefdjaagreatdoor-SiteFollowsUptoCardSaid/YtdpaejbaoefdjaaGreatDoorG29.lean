/- Part 29. -/
import Derived.Test.YtdpaejbaoefdjaaGreatDoorG27
import Derived.Test.YtdpaejbaoefdjaaGreatDoorG23
open Nat renaming le_trans → aa,le_refl → aq,lt_of_lt_of_le → aF,zero_add → aT,add_zero → aU
open List renaming length_append → af,range → au,getElem?_eq_some_iff → aD,append_assoc → aI,eq_nil_of_length_eq_zero → aN,getElem?_append_right → aQ,getElem?_append_left → aR,getElem?_eq_getElem → aS,cons_append → aZ,nil_append → bg,flatMap_append → bq,flatMap_cons → bz
open Go renaming wpList_load_mid → ag,World → ah,Calls → an,Value → aA,wpList_store_mid → aB,wpAnyH_done → aG,Addr → aJ,heap_alloc_new → aK,bodyPost_ret → aL,lt_of_block → aO,cell_of_row → aX
open Go.Value renaming oneCell' → aj
open Go.World renaming rangeAt_setCells_same → ay,block_lt_of_cell? → aH,alloc → aM,heap → aP,frozen? → aW,ownsRow_nil → aY,setCell → bh,size_alloc → bu
open Go.RowKit.Below renaming refl → aC
open Option renaming isSome_iff_exists → aE
open Array renaming getElem?_modify → aV
namespace Go.Proofs.YtdpaejbaoefdjaaGreatDoor
open Go.Proofs.Tryz
set_option maxRecDepth 100000
set_option maxHeartbeats 64000000
set_option linter.unusedVariables false
set_option linter.unusedSimpArgs false
section
open Go.RowKit Go.Shelf Go.MapKept Go.ChangeMaps
theorem jF{wr w5:ah}{row:Option Nat}(hg:wr.grownBy w5 row):cQ (fun k=>row=some k) wr w5:=⟨hg.os,hg.tape,hg.output,hg.size,fun k hk hs=>hg.block k hk (fun e=>hs e.symm)⟩
def Rd.xu:Nat→Rd→List Nat
 |0,_=>[]
 |k+1,r=>Rd.xu k r++[((Nat.repeat (fun x=>Rd.take x 8) k r)).num 8]
def Rd.skip(k:Nat)(r:Rd):Rd:=Nat.repeat (fun x=>Rd.take x 8) k r
theorem Rd.GI:∀(k:Nat) (r:Rd),(Rd.xu k r).length=k
 |0,_=>rfl
 |k+1,r=>by unfold Rd.xu;rw[af,Rd.GI k r];rfl
def ng(V:List Nat):List aA:=V.map fun(v:Nat)=>Value.int .u64 (v:Int)
theorem EZ:(prog.info? 36).map (fun i=>(i.zero,i.size,i.bytes))=some (some (.V),1,8):=by kernel_rfl
theorem G1(w:ah)(rb:Nat)(r:Rd)(hr:eZ w rb r)(most:Nat)(hm:most≤1000):
  an prog 241 #[.p rb,.i most,.func (.func 155) #[] #[]] w fun e w'=>∃v,e=.returned v∧w'.ownsRow w.heap.size 36 1 v (r.count most) (ng (Rd.xu (r.count most) (r.dY most)))∧eZ w' rb (Rd.skip (r.count most) (r.dY most))∧cQ (·=rb) w w':=by
 have HT:=cD (Au w rb r hr most hm);have hrb:=hr.lt;have hnm:r.count most≤1000:=by unfold Rd.count;split<;>omega
 obtain⟨N,hN⟩:=cF (r.count most);obtain⟨r1,kP⟩:=cF (r.dY most);rw[←hN,←kP] at HT⊢;rw[←hN] at hnm;obtain⟨i0,wS,hz0,hz1,hz2⟩:=info_parts EZ;have HI:=cD (cC wS (cC hz0 (cC hz1 hz2)));clear hr hN kP wS hz0 hz1 hz2;go_enter func241,ntmps241
 go_wp2_with fail
 refine HT.out.mono ?_;rintro e w1 ⟨rfl,h1,h2⟩;have H1:=cD (cC h1 h2);clear h1 h2;go_wp2
 go_loopw [7,11] (fun uv kv wr=>∃k:Nat,k≤N∧kv=.i k∧Hid (wr.ownsRow w.heap.size 36 1 uv k (ng (Rd.xu k r1))∧eZ wr rb (Rd.skip k r1)∧cQ (·=rb) w wr)) (fun _ kv _=>N - (intOf kv).toNat)
 case atStart=>exact⟨0,by omega,rfl,cD ⟨aY _ _ _ _,H1.out⟩⟩
 obtain⟨k,hk,rfl,HS⟩:=hrel;by_cases hlt:k<N
 ·have HU:=cD (lN wr rb _ HS.out.2.1)
  obtain⟨V,hV⟩:=cF ((Rd.skip k r1).num 8);have HV:=cD hV;rw[←hV] at HU;clear hV;go_wp2_with fail
  refine HU.out.mono ?_;rintro e w2 ⟨rfl,h1,h2⟩;have hown:=fA HS.out.1 h2 (fun g hg e=>by have:=(HS.out.1.lt g hg).1;have e:g=rb:=e;omega);have hsz:w.heap.size≤w2.heap.size:=aa HS.out.2.2.size h2.size;have H2:=cD (cC hown (cC h1 (HS.out.2.2.trans h2)));clear h1 h2 hown;go_wp2_with (at_builtin;refine eD rfl (.tmp 13) (.tmp 17) 37 rfl w.heap.size 36 i0 (.V) 1 8 underlying37 HI.out.1 HI.out.2.1 HI.out.2.2.1 HI.out.2.2.2 rfl cL _ k _ rfl (H2.out.1.alloc _) ⟨w2.heap.size,0,none⟩ 1 1 [.v (V:Int)] rfl rfl (zH w2 _ _) (by intro u hu;simp at hu;subst hu;rfl) (by unfold maxLen;omega) cK (by simp;omega) ?_;intro v5 w5 hown5 hgrow5 hwh5)
  have Fj:cQ (·=rb) w w5:=(H2.out.2.2.trans (dA (cT (aC _ w2) _))).grown hgrow5 (fun g hg=>.inl (H2.out.1.lt g hg).1);have FU:eZ w5 rb (Rd.skip (k+1) r1):=(H2.out.2.1.below (cT (aC _ w2) _)).kept (jF hgrow5) (fun b hb e=>by have:=(H2.out.1.lt b e).1;omega);have hrow:ng (Rd.xu k r1)++[.v (V:Int)]=ng (Rd.xu (k+1) r1):=by
   unfold ng;rw[HV.out,show Rd.xu (k+1) r1=Rd.xu k r1++[(Rd.skip k r1).num 8] from rfl,List.map_append];rfl
  rw[hrow] at hown5;have QD:=cD (cC hown5 (cC FU Fj));clear hown5 hgrow5 hwh5 Fj FU hrow hsz;go_wp2
  go_roundw
  case rel=>exact⟨k+1,by omega,by go_num,cD QD.out⟩
  case measure=>simp[intOf];omega
 obtain rfl:N=k:=by omega
 have t1:decide ((N:Int)<(N:Int))=false:=by simp
 have t2:decide (N<N)=false:=by simp
 clear hlt hk;go_wp2
 go_ret
 exact⟨_,rfl,HS.out⟩
theorem cQ.sM{S:Nat→Prop}{w w3 w4:ah}{B:Nat}(h:cQ S w w3)(hk:cQ (·=B) w3 w4)(hB:w.heap.size≤B):cQ S w w4:=
 ⟨hk.os.trans h.os,hk.tape.trans h.tape,hk.output.trans h.output,aa h.size hk.size,fun k hk' hs=>(hk.block k (aF hk' h.size) (fun e=>by have e:k=B:=e;omega)).trans (h.block k hk' hs)⟩
theorem kE(w:ah)(B:Nat)(cs:List aA):cQ (·=B) w (w.setCells B 0 cs):=cQ.setCells (S:=(·=B)) (p:=B) rfl _ 0 (cQ.refl _ w)
theorem lK{w w1 w':ah}{cs:List aA}{t:TypeId}(h:w1=w.alloc (.cells cs.toArray t)){S:Nat→Prop}(hk:cQ S w1 w')(hS:¬S w.heap.size):w'.there w.heap.size 0 cs.length:=by
 refine eE (cs:=cs.toArray) (t:=t) ((hk.block w.heap.size (by rw[h];simp) hS).trans ?_) cM;rw[h];exact aK w _
def abB(w:ah)(rb:Nat)(cs:List aA)(r:Rd)(e:Ending)(w':ah):Prop:=e=.returned (.agg cs.toArray)∧eZ w' rb r∧cQ (·=rb) w w'
def Rd.mu(r:Rd):Rd:=(r.place 3).small
def Rd.Gj(r:Rd):List aA:=[.i (r.gL 3:Nat),.u ((r.place 3).eH:Nat)]
theorem yI(w:ah)(rb:Nat)(r:Rd)(hr:eZ w rb r):
  an prog 130 #[.p rb] w (abB w rb r.Gj r.mu):=by
 have hrb:=hr.lt;obtain⟨w1,hw1,dB,hs1,fS⟩:=dX w [.I,.U] 31;have HP:=cD (sC w1 rb r (hr.below dB) 3 cL);have HW:=cD (cC hw1 dB);unfold Rd.Gj Rd.mu;obtain⟨v,hv⟩:=cF (r.gL 3);obtain⟨r1,kP⟩:=cF (r.place 3);rw[←hv,←kP] at HP⊢;obtain⟨u,hu⟩:=cF r1.eH;rw[←hu];have HU:=cD hu;have fm:Hid (cG 31 2):=cD cJ;clear hr hv kP hw1 fS dB hu;go_enter func130,ntmps130
 go_wp2_with fail
 rw[←HW.out.1];refine HP.out.mono ?_;rintro e w2 ⟨rfl,h1,h2⟩;have H2:=cD (cC h1 h2);clear h1 h2;go_wp2_with fail
 refine(lG w2 rb r1 H2.out.1).mono ?_;rintro e w3 ⟨rfl,h3,h4⟩;rw[←HU.out];have aah:=H2.out.2.trans h4;have HT:Hid (w3.there w.heap.size 0 2):=cD (lK HW.out.1 aah (fun e=>by have e:w.heap.size=rb:=e;omega));have gG:Hid ((#[.i (v:Int),.u (u:Int)]:Array aA).all (·.oneCell')=true):=cD (by simp[aj]);have H3:=cD (cC h3 aah);clear h3 h4 aah;go_wp2_with (refine aB rfl 31 (.tmp 2) (.tmp 7) rfl w.heap.size 0 #[.i (v:Int),.u (u:Int)] rfl rfl HT.out fm.out gG.out ?_)
 refine aL (dz rfl _ _ w.heap.size 0 [.i (v:Int),.u (u:Int)] _ rfl (ay _ _ _ _ HT.out) underlying31 rfl fm.out) rfl ?_;have K:=kE w3 w.heap.size [.i (v:Int),.u (u:Int)];exact⟨rfl,H3.out.1.kept K (fun b hb e=>by have e:b=w.heap.size:=e;omega),((dA HW.out.2).trans H3.out.2).sM K (aq _)⟩
def Rd.nj(r:Rd):List Nat:=Rd.xu (r.count 3) (r.dY 3)
def Rd.de(r:Rd):Rd:=Rd.skip (r.count 3) (r.dY 3)
theorem Rd.JC(r:Rd):r.nj.length=r.count 3:=Rd.GI _ _
theorem Rd.GH:∀(k:Nat) (r:Rd),zD (Rd.xu k r)
 |0,_=>fun v hv=>by cases hv
 |k+1,r=>fun v hv=>by
  unfold Rd.xu at hv;rcases List.mem_append.1 hv with h|h
  ·exact Rd.GH k r v h
  ·simp at h
   subst h;exact Rd.On _
theorem uX{w:ah}{base n c:Nat}{a:Option aJ}{V:List Nat}(h:w.ownsRow base 36 1 (.slice a n c) n (ng V)):dK w (fU base) a V∧n=V.length∧(a=none→c=0):=by
 have hn:V.length=n:=by have:=h.1;simp[ng] at this;omega
 refine⟨fun k v hk=>?_,hn.symm,fun e=>?_⟩
 ·rcases h.2 with ⟨h1,h0⟩|⟨g,cap,cur,h1,yG,hg,_⟩
  ·have:=(aD.1 hk).1
   omega
  cases h1;have hx:(ng V)[k]?=some (.v (v:Int)):=by simp[ng,hk]
  have:=h.cells (g:=g) rfl k _ hx;rw[Addr.add_lit] at this;exact⟨g,0,rfl,yG,(Array.getElem?_eq_some_iff.1 hg).1,this⟩
 subst e;rcases h.2 with ⟨h1,h0⟩|⟨g,cap,cur,h1,_⟩
 ·simp at h1
  exact h1.2
 simp at h1
def TX(w:ah)(rb:Nat)(V:List Nat)(r:Rd)(e:Ending)(w':ah):Prop:=∃a n c,e=.returned (.slice a n c)∧(n=V.length∧dK w' (fU w.heap.size) a V)∧eZ w' rb r∧cQ (·=rb) w w'
theorem DL(w:ah)(rb:Nat)(r:Rd)(hr:eZ w rb r):
  an prog 159 #[.p rb] w (TX w rb r.nj r.de):=by
 have HL:=cD (G1 w rb r hr 3 cL);clear hr;go_enter func159,ntmps159
 go_wp2_with fail
 refine HL.out.mono ?_;rintro e w1 ⟨v,rfl,h1,h2,h3⟩;obtain⟨a,c,rfl⟩:=iE h1;obtain⟨h4,h5,_⟩:=uX h1;have H:=cD (cC (cC h5 h4) (cC h2 h3));clear h1 h2 h3 h4 h5;go_wp2
 go_ret
 exact⟨a,_,c,rfl,H.out⟩
def Rd.yu(r:Rd):Nd:=
 let r0:=r.text 64;let r1:=r0.small;let r2:=r1.small;let r3:=r2.small;let r4:=r3.mu;let r5:=r4.take 8;let r6:=r5.take 8
 ⟨r.lz,⟨(r0.eH:Nat),(r1.eH:Nat),(r2.eH:Nat),(r3.gL 3:Nat),((r3.place 3).eH:Nat),(r4.num 8:Nat),(r5.num 8:Nat),(r6.num 8:Nat)⟩⟩
def Rd.node(r:Rd):Rd:=((((((((r.text 64).small).small).small).mu).take 8).take 8).take 8)
def FG(w:ah)(rb:Nat)(d:Nd)(r:Rd)(e:Ending)(w':ah):Prop:=∃a c,e=.returned (Raw.val ⟨a,d.data.length,c,d.num⟩)∧dW w' (fU w.heap.size) a c d.data∧eZ w' rb r∧cQ (·=rb) w w'
theorem S7(w:ah)(rb:Nat)(r:Rd)(hr:eZ w rb r)(hl:r.b.length≤1000000000):
  an prog 285 #[.p rb] w (FG w rb r.yu r.node):=by
 have hrb:=hr.lt;obtain⟨w1,hw1,dB,hs1,fS⟩:=dX w [.n,.U,.U,.U,.I,.U,.V,.V,.V] 44;have HP:=cD (vS w1 rb r (hr.below dB) hl 64 cL);have HW:=cD (cC hw1 dB);unfold Rd.yu Rd.node;dsimp only;obtain⟨D,hD⟩:=cF r.lz;obtain⟨r0,Ib⟩:=cF (r.text 64);rw[←hD,←Ib] at HP⊢;unfold BM at HP;unfold FG;dsimp only;obtain⟨n,hn⟩:=cF D.length;rw[←hn] at HP⊢;have fm:Hid (cG 44 9):=cD cJ;clear hr hD Ib hw1 fS dB hl hn;go_enter func285,ntmps285
 go_wp2_with fail
 rw[←HW.out.1];refine HP.out.mono ?_;rintro e w2 ⟨a,c,rfl,d2,h1,h2⟩;have H2:=cD (cC h1 (cC h2 d2));clear h1 h2 d2;go_wp2_with fail
 refine(lG w2 rb r0 H2.out.1).mono ?_;rintro e w3 ⟨rfl,h1,h2⟩;have H3:=cD (cC h1 (cC (H2.out.2.1.trans h2) (H2.out.2.2.kept h2 (fun b hb _ e=>by have hb:w1.heap.size≤b:=hb;have e:b=rb:=e;omega))));clear h1 h2 H2;go_wp2_with fail
 refine(lG w3 rb _ H3.out.1).mono ?_;rintro e w4 ⟨rfl,h1,h2⟩;have H4:=cD (cC h1 (cC (H3.out.2.1.trans h2) (H3.out.2.2.kept h2 (fun b hb _ e=>by have hb:w1.heap.size≤b:=hb;have e:b=rb:=e;omega))));clear h1 h2 H3;go_wp2_with fail
 refine(lG w4 rb _ H4.out.1).mono ?_;rintro e w5 ⟨rfl,h1,h2⟩;have H5:=cD (cC h1 (cC (H4.out.2.1.trans h2) (H4.out.2.2.kept h2 (fun b hb _ e=>by have hb:w1.heap.size≤b:=hb;have e:b=rb:=e;omega))));clear h1 h2 H4;go_wp2_with fail
 refine(yI w5 rb _ H5.out.1).mono ?_;rintro e w6 ⟨rfl,h1,h2⟩;unfold Rd.Gj;have H6:=cD (cC h1 (cC (H5.out.2.1.trans h2) (H5.out.2.2.kept h2 (fun b hb _ e=>by have hb:w1.heap.size≤b:=hb;have e:b=rb:=e;omega))));clear h1 h2 H5;go_wp2_with fail
 refine(lN w6 rb _ H6.out.1).mono ?_;rintro e w7 ⟨rfl,h1,h2⟩;have H7:=cD (cC h1 (cC (H6.out.2.1.trans h2) (H6.out.2.2.kept h2 (fun b hb _ e=>by have hb:w1.heap.size≤b:=hb;have e:b=rb:=e;omega))));clear h1 h2 H6;go_wp2_with fail
 refine(lN w7 rb _ H7.out.1).mono ?_;rintro e w8 ⟨rfl,h1,h2⟩;have H8:=cD (cC h1 (cC (H7.out.2.1.trans h2) (H7.out.2.2.kept h2 (fun b hb _ e=>by have hb:w1.heap.size≤b:=hb;have e:b=rb:=e;omega))));clear h1 h2 H7;go_wp2_with fail
 refine(lN w8 rb _ H8.out.1).mono ?_;rintro e w9 ⟨rfl,h1,h2⟩;have H9:=cD (cC h1 (cC (H8.out.2.1.trans h2) (H8.out.2.2.kept h2 (fun b hb _ e=>by have hb:w1.heap.size≤b:=hb;have e:b=rb:=e;omega))));clear h1 h2 H8;obtain⟨CS,uj⟩:∃CS:List aA,CS=[.slice a n c,.u (r0.eH:Nat),.u (r0.small.eH:Nat),.u (r0.small.small.eH:Nat),.i (r0.small.small.small.gL 3:Nat),.u ((r0.small.small.small.place 3).eH:Nat),.v (r0.small.small.small.mu.num 8:Nat),.v ((r0.small.small.small.mu.take 8).num 8:Nat),.v (((r0.small.small.small.mu.take 8).take 8).num 8:Nat)]:=⟨_,rfl⟩;have HT:Hid (w9.there w.heap.size 0 9):=cD (lK HW.out.1 H9.out.2.1 (fun e=>by have e:w.heap.size=rb:=e;omega));have gG:Hid ((#[.slice a n c,.u (r0.eH:Nat),.u (r0.small.eH:Nat),.u (r0.small.small.eH:Nat),.i (r0.small.small.small.gL 3:Nat),.u ((r0.small.small.small.place 3).eH:Nat),.v (r0.small.small.small.mu.num 8:Nat),.v ((r0.small.small.small.mu.take 8).num 8:Nat),.v (((r0.small.small.small.mu.take 8).take 8).num 8:Nat)]:Array aA).all (·.oneCell')=true):=cD (by simp[aj]);have UX:=cD uj;clear uj;go_wp2_with (refine aB rfl 44 (.tmp 2) (.tmp 19) rfl w.heap.size 0 #[.slice a n c,.u (r0.eH:Nat),.u (r0.small.eH:Nat),.u (r0.small.small.eH:Nat),.i (r0.small.small.small.gL 3:Nat),.u ((r0.small.small.small.place 3).eH:Nat),.v (r0.small.small.small.mu.num 8:Nat),.v ((r0.small.small.small.mu.take 8).num 8:Nat),.v (((r0.small.small.small.mu.take 8).take 8).num 8:Nat)] rfl rfl HT.out fm.out gG.out ?_)
 refine aL (dz rfl _ _ w.heap.size 0 [.slice a n c,.u (r0.eH:Nat),.u (r0.small.eH:Nat),.u (r0.small.small.eH:Nat),.i (r0.small.small.small.gL 3:Nat),.u ((r0.small.small.small.place 3).eH:Nat),.v (r0.small.small.small.mu.num 8:Nat),.v ((r0.small.small.small.mu.take 8).num 8:Nat),.v (((r0.small.small.small.mu.take 8).take 8).num 8:Nat)] _ rfl (ay _ _ _ _ HT.out) underlying44 rfl fm.out) rfl ?_;rw[←UX.out];have K:=kE w9 w.heap.size CS;refine⟨a,c,?_,(H9.out.2.2.kept K (fun b hb _ e=>by have hb:w1.heap.size≤b:=hb;have e:b=w.heap.size:=e;omega)).mono (fun b _ h=>aa cK h),H9.out.1.kept K (fun b hb e=>by have e:b=w.heap.size:=e;omega),((dA HW.out.2).trans H9.out.2.1).sM K (aq _)⟩;rw[UX.out];rfl
theorem Rd.gS(r:Rd)(n:Nat):(r.take n).b.length≤r.b.length:=by
 unfold Rd.take;split
 ·exact aq _
 split
 ·exact aq _
 show(r.b.drop n).length≤_;rw[List.length_drop];omega
theorem Rd.lW(r:Rd)(n:Nat):(r.place n).b.length≤r.b.length:=by unfold Rd.place;split<;>exact r.gS 1
theorem Rd.nk(r:Rd):r.small.b.length≤r.b.length:=by unfold Rd.small;split<;>exact r.gS 8
theorem Rd.sr(r:Rd)(n:Nat):(r.text n).b.length≤r.b.length:=by
 have h:r.F7.b.length≤r.b.length:=aa ((r.take 4).gS _) (r.gS 4);unfold Rd.text;split<;>exact h
theorem Rd.JU(r:Rd)(n:Int):(r.dO n).b.length≤r.b.length:=by unfold Rd.dO;split<;>exact r.gS 8
theorem Rd.lH(r:Rd)(n:Nat):(r.dY n).b.length≤r.b.length:=by unfold Rd.dY;split<;>exact r.gS 8
theorem Rd.Mh(r:Rd):r.mu.b.length≤r.b.length:=aa (r.place 3).nk (r.lW 3)
theorem Rd.VI(r:Rd):r.node.b.length≤r.b.length:=by
 unfold Rd.node;exact aa (Rd.gS _ _) (aa (Rd.gS _ _) (aa (Rd.gS _ _) (aa (Rd.Mh _) (aa (Rd.nk _) (aa (Rd.nk _) (aa (Rd.nk _) (Rd.sr _ _)))))))
def Rd.rH(r:Rd):gm:=⟨r.lz,(r.text 64).rG,if (r.text 64).rG=true then iQ else ((r.text 64).place 2).yu⟩
def Rd.FV(r:Rd):Rd:=if (r.text 64).rG=true then (r.text 64).place 2 else ((r.text 64).place 2).node
def Us(w w1:ah)(rb:Nat)(D:cO)(g:Bool)(r:Rd)(bv:aA)(wc:ah):Prop:=∃bb,bv=.p bb∧wc.heap[bb]?=some (.cells #[.s D,.bool g,.n,.U,.U,.U,.I,.U,.V,.V,.V] 93 (0,0))∧w1.heap.size≤bb∧eZ wc rb r∧cQ (·=rb) w1 wc
theorem Lb{w w1 W:ah}{rb bb:Nat}{D:cO}{g:Bool}{r:Rd}(hb:W.heap[bb]?=some (.cells #[.z,.F,.n,.U,.U,.U,.I,.U,.V,.V,.V] 93 (0,0)))(h1:w1.heap.size≤bb)(h2:eZ W rb r)(h3:cQ (·=rb) w1 W)(hrb:rb<bb):Us w w1 rb D g r (.p bb) (W.setCells bb 0 [.s D,.bool g,.n,.U,.U,.U,.I,.U,.V,.V,.V]):=
 ⟨bb,rfl,gq hb rfl,h1,h2.kept (kE W bb _) (fun b hb e=>by have e:b=bb:=e;omega),h3.sM (kE W bb _) h1⟩
theorem ey{w:ah}{B:Nat}{cs:Array aA}{t:TypeId}(h:w.heap[B]?=some (.cells cs t (0,0)))(o n:Nat)(hn:o+n≤cs.size):w.there B o n:=fun j hj=>by
 refine⟨?_,by simp[aW,h]⟩;rw[aX _ _ (o+j) _ t (0,0) h,Array.getElem?_eq_getElem cK];rfl
theorem iw(w:ah)(B o:Nat)(cs:List aA):cQ (·=B) w (w.setCells B o cs):=cQ.setCells (S:=(·=B)) (p:=B) rfl _ o (cQ.refl _ w)
theorem KI(w:ah)(rb:Nat)(r:Rd)(hr:eZ w rb r)(hl:r.b.length≤1000000000):
  an prog 237 #[.p rb] w fun e w'=>∃a c,e=.returned (dr.val ⟨r.rH.cW,r.rH.gone,⟨a,r.rH.node.data.length,c,r.rH.node.num⟩⟩)∧dW w' (fU w.heap.size) a c r.rH.node.data∧eZ w' rb r.FV∧cQ (·=rb) w w':=by
 have hrb:=hr.lt;obtain⟨w1,hw1,dB,hs1,fS⟩:=dX w [.z,.F,.n,.U,.U,.U,.I,.U,.V,.V,.V] 93;have HP:=cD fun W (h:cE w1 W)=>vS W rb r (hr.below (dB.trans (h.mono dB.size))) hl 64 cL
 have HW:=cD (cC hw1 dB);unfold Rd.rH Rd.FV;dsimp only;obtain⟨D,hD⟩:=cF r.lz;obtain⟨r0,Ib⟩:=cF (r.text 64);unfold BM at HP;rw[←hD,←Ib] at HP⊢;obtain⟨g,hg⟩:=cF r0.rG;have HF:=cD fun W (h:eZ W rb r0)=>Bh W rb r0 h
 rw[←hg] at HF⊢;obtain⟨⟨ND,⟨q1,q2,q3,q4,q5,q6,q7,q8⟩⟩,hnd⟩:∃nd:Nd,nd=if g=true then iQ else (r0.place 2).yu:=⟨_,rfl⟩
 obtain⟨rf,hrf⟩:∃rf:Rd,rf=if g=true then r0.place 2 else (r0.place 2).node:=⟨_,rfl⟩
 rw[←hnd,←hrf];dsimp only;unfold dr.val dr.cells Raw.cells eU.cells;dsimp only[aZ,bg];have Jn:=cD (cC hnd hrf);clear hnd hrf;have fm:Hid (cG 93 11):=cD cJ;have YL:Hid ((r0.place 2).b.length≤1000000000):=cD (by rw[Ib];exact aa (Rd.lW _ _) (aa (Rd.sr _ _) hl));clear hr hD Ib hw1 fS dB hl hg;go_enter func237,ntmps237
 go_wp2_with fail
 rw[←HW.out.1];go_cut [3] (fun bv wc=>Us w w1 rb D g (r0.place 2) bv wc)
 case first=>
  refine rT fun wd hd=>?_
  refine tI 0 rfl trivial ?_;refine tI 3 rfl trivial ?_;simp only[cR];refine jR 1 6 rfl rfl cJ cN cN _ _ (by go_simp<;>first|rfl|exact⟨rfl,rfl⟩) (.p wd.heap.size) (wd.alloc (.cells #[.z,.F,.n,.U,.U,.U,.I,.U,.V,.V,.V] 93)) (by go_simp<;>first|rfl|exact⟨rfl,rfl⟩) ?_ trivial ?_
  ·refine(HP.out wd hd).mono ?_
   rintro e w2 ⟨a,c,rfl,d2,h1,h2⟩;refine⟨trivial,?_⟩
   try dsimp only
   simp only[cR];refine NC (S':=fun w'=>cQ (·=rb) w2 w') (fun _ _=>trivial) _ _ _ _ ?_;have hS:=cQ.refl (·=rb) w2;have y2:∀w',cQ (·=rb) w2 w'→(convert 32 9 (.slice a D.length c)).run prog w'=.ok (.s D) w':=fun w' hk=>rL (d2.kept hk (fun b hb _ e=>by have hb:wd.heap.size≤b:=hb;have e:b=rb:=e;have:=hd.size;omega)).cS d2.nil
   refine tJ 2 rfl hS y2 ?_;simp only[cR];clear y2;have hk2:cQ (·=rb) w1 w2:=(dA hd).trans h2;refine jR 4 6 rfl rfl cJ cN cN _ _ (by go_simp<;>first|rfl|exact⟨rfl,rfl⟩) (.p w2.heap.size) (w2.alloc (.cells #[.z,.F,.n,.U,.U,.U,.I,.U,.V,.V,.V] 93)) (by go_simp<;>first|rfl|exact⟨rfl,rfl⟩) ?_ (dA (cT (aC _ w2) _)) ?_
   ·refine(HF.out w2 h1).mono ?_
    rintro e w3 ⟨rfl,g1,g2⟩;refine⟨g2,?_⟩
    try dsimp only
    simp only[cR];refine tI 5 rfl g2 ?_;simp only[cR];have b3:=cT (aC _ w3) (.cells #[.z,.F,.n,.U,.U,.U,.I,.U,.V,.V,.V] 93);have ek:cQ (·=rb) w2 (w3.alloc (.cells #[.z,.F,.n,.U,.U,.U,.I,.U,.V,.V,.V] 93)):=g2.trans (dA b3);refine gI 6 rfl (.p w3.heap.size) (w3.alloc (.cells #[.z,.F,.n,.U,.U,.U,.I,.U,.V,.V,.V] 93)) ek ?_;simp only[cR];have gQ:=aK w3 (.cells #[.z,.F,.n,.U,.U,.U,.I,.U,.V,.V,.V] 93);have hs3:w1.heap.size≤w3.heap.size:=aa hk2.size g2.size;have HX:=Lb (w:=w) (D:=D) (g:=g) gQ hs3 (g1.below b3) (hk2.trans ek) cK;have ht:=eE gQ (n:=11) cM;have BR:Hid ((#[.s D,.bool g,.n,.U,.U,.U,.I,.U,.V,.V,.V]:Array aA).all (·.oneCell')=true):=cD (by simp[aj]);refine sI 7 rfl 93 (.tmp 3) (.tmp 9) w3.heap.size 0 #[.s D,.bool g,.n,.U,.U,.U,.I,.U,.V,.V,.V] ht fm.out BR.out (ek.sM (kE _ w3.heap.size _) (by have:=g2.size;omega)) ?_;simp only[cR];refine aG cJ ?_ _;have HXH:=cD HX;clear HX gQ ek hS hk2;go_wp2_with fail
    go_meet
    case rel=>exact HXH.out
   skip
   simp only[cR];have b3:=cT (aC _ w2) (.cells #[.z,.F,.n,.U,.U,.U,.I,.U,.V,.V,.V] 93);refine cI 4 rfl ?_;refine(HF.out _ (h1.below b3)).mono ?_;rintro e w3 ⟨rfl,g1,g2⟩;have ek:cQ (·=rb) w2 w3:=(dA b3).trans g2;refine⟨ek,?_⟩
   try dsimp only
   simp only[cR];have gQ:=(g2.block w2.heap.size cM (fun e=>by have e:w2.heap.size=rb:=e;have:=hk2.size;omega)).trans (aK w2 (.cells #[.z,.F,.n,.U,.U,.U,.I,.U,.V,.V,.V] 93));have HX:=Lb (w:=w) (D:=D) (g:=g) gQ hk2.size g1 (hk2.trans ek) (by have:=hk2.size;omega);refine tI 5 rfl ek ?_;simp only[cR];have ht:=eE gQ (n:=11) cM;have BR:Hid ((#[.s D,.bool g,.n,.U,.U,.U,.I,.U,.V,.V,.V]:Array aA).all (·.oneCell')=true):=cD (by simp[aj]);refine sI 7 rfl 93 (.tmp 3) (.tmp 9) w2.heap.size 0 #[.s D,.bool g,.n,.U,.U,.U,.I,.U,.V,.V,.V] ht fm.out BR.out (ek.sM (kE _ w2.heap.size _) (aq _)) ?_;simp only[cR];refine aG cJ ?_ _;have HXH:=cD HX;clear HX gQ ek hS hk2;go_wp2_with fail
   go_meet
   case rel=>exact HXH.out
  skip
  simp only[cR];have b2:=cT (aC _ wd) (.cells #[.z,.F,.n,.U,.U,.U,.I,.U,.V,.V,.V] 93);refine cI 1 rfl ?_;refine(HP.out _ (hd.trans (b2.mono hd.size))).mono ?_;rintro e w2 ⟨a,c,rfl,d2,h1,h2⟩;refine⟨trivial,?_⟩
  try dsimp only
  simp only[cR];refine NC (S':=fun w'=>cQ (fun k=>k=rb∨k=wd.heap.size) w2 w') (fun _ _=>trivial) _ _ _ _ ?_;have hS:=cQ.refl (fun k=>k=rb∨k=wd.heap.size) w2;have y2:∀w',cQ (fun k=>k=rb∨k=wd.heap.size) w2 w'→(convert 32 9 (.slice a D.length c)).run prog w'=.ok (.s D) w':=fun w' hk=>rL (d2.kept hk (fun b hb _ e=>by have hb:(wd.alloc (.cells #[.z,.F,.n,.U,.U,.U,.I,.U,.V,.V,.V] 93)).heap.size≤b:=hb;have e:b=rb∨b=wd.heap.size:=e;have:=hd.size;rw[bu] at hb;omega)).cS d2.nil
  refine tJ 2 rfl hS y2 ?_;simp only[cR];clear y2;have hk2:cQ (·=rb) w1 w2:=((dA hd).trans (dA b2)).trans h2;refine cI 4 rfl ?_;refine(HF.out w2 h1).mono ?_;rintro e w3 ⟨rfl,g1,g2⟩;have ek:cQ (fun k=>k=rb∨k=wd.heap.size) w2 w3:=⟨g2.os,g2.tape,g2.output,g2.size,fun k hk hs=>g2.block k hk (fun e=>hs (.inl e))⟩;refine⟨ek,?_⟩
  try dsimp only
  simp only[cR];have gQ:=(g2.block wd.heap.size (by have:=h2.size;rw[bu] at this;omega) (fun e=>by have e:wd.heap.size=rb:=e;have:=hd.size;omega)).trans ((h2.block wd.heap.size cM (fun e=>by have e:wd.heap.size=rb:=e;have:=hd.size;omega)).trans (aK wd (.cells #[.z,.F,.n,.U,.U,.U,.I,.U,.V,.V,.V] 93)));have HX:=Lb (w:=w) (D:=D) (g:=g) gQ hd.size g1 (hk2.trans g2) (by have:=hd.size;omega);refine tI 5 rfl ek ?_;simp only[cR];have ht:=eE gQ (n:=11) cM;have BR:Hid ((#[.s D,.bool g,.n,.U,.U,.U,.I,.U,.V,.V,.V]:Array aA).all (·.oneCell')=true):=cD (by simp[aj]);refine sI 7 rfl 93 (.tmp 3) (.tmp 9) wd.heap.size 0 #[.s D,.bool g,.n,.U,.U,.U,.I,.U,.V,.V,.V] ht fm.out BR.out (ek.trans (by have K:=kE w3 wd.heap.size [.s D,.bool g,.n,.U,.U,.U,.I,.U,.V,.V,.V];exact⟨K.os,K.tape,K.output,K.size,fun k hk hs=>K.block k hk (fun e=>hs (.inr e))⟩)) ?_;simp only[cR];refine aG cJ ?_ _;have HXH:=cD HX;clear HX gQ ek hS hk2;go_wp2_with fail
  go_meet
  case rel=>exact HXH.out
 case rest=>
 obtain⟨bb,rfl,gQ,jt,hR,hK⟩:=hcut;obtain⟨w4,lP⟩:=cF wc;subst lP;have AX:w4.cell? ⟨bb,1,none⟩=some (.bool g):=aX _ _ 1 _ 93 (0,0) gQ;have H4:=cD (cC gQ (cC hR hK));clear gQ hR hK;cases g with
 |true=>
  obtain⟨e1,e2⟩:=Jn.out;rw[if_pos rfl] at e1 e2;unfold iQ at e1
  injection e1 with e3 en
  injection en with e4 e5 e6 e7 e8 e9 sD qo
  subst e2 e3 e4 e5 e6 e7 e8 e9 sD qo;have nT:=cD (dJ H4.out.1);have HT:Hid (w4.there w.heap.size 0 11):=cD (lK HW.out.1 H4.out.2.2 (fun e=>by have e:w.heap.size=rb:=e;omega));have gG:Hid ((#[.s D,.T,.n,.U,.U,.U,.I,.U,.V,.V,.V]:Array aA).all (·.oneCell')=true):=cD (by simp[aj]);go_wp2_with (first
   |(refine ag rfl 93 (.tmp 3) rfl bb 0 rfl [.s D,.T,.n,.U,.U,.U,.I,.U,.V,.V,.V] _ nT.out underlying93 rfl fm.out ?_)
   |(refine aB rfl 93 (.tmp 2) (.tmp 16) rfl w.heap.size 0 #[.s D,.T,.n,.U,.U,.U,.I,.U,.V,.V,.V] rfl rfl HT.out fm.out gG.out ?_))
  refine aL (dz rfl _ _ w.heap.size 0 [.s D,.T,.n,.U,.U,.U,.I,.U,.V,.V,.V] _ rfl (ay _ _ _ _ HT.out) underlying93 rfl fm.out) rfl ?_;have K:=kE w4 w.heap.size [.s D,.T,.n,.U,.U,.U,.I,.U,.V,.V,.V];exact⟨none,0,rfl,⟨fun j x hj=>by simp[iQ] at hj,fun _=>⟨rfl,rfl⟩⟩,H4.out.2.1.kept K (fun b hb e=>by have e:b=w.heap.size:=e;omega),((dA HW.out.2).trans H4.out.2.2).sM K (aq _)⟩
 |false=>
 obtain⟨e1,e2⟩:=Jn.out;rw[if_neg cL] at e1 e2;subst e2;have HE1:=cD e1.symm;clear e1;have hlen:(r0.place 2).b.length≤1000000000:=YL.out;have hno:=S7 w4 rb (r0.place 2) H4.out.2.1 hlen;unfold FG at hno;rw[HE1.out] at hno;unfold Raw.val Raw.cells eU.cells at hno;dsimp only at hno;have HNO:=cD hno;clear hlen hno;go_wp2_with fail
 refine HNO.out.mono ?_;rintro e w5 ⟨a,c,rfl,d5,h1,h2⟩;have Cv:=(h2.block bb (aO H4.out.1) (fun e=>by have e:bb=rb:=e;omega)).trans H4.out.1;have Uf:=cD (ey Cv 2 9 cM);have HZ9:Hid (cG 44 9):=cD cJ;have HO9:Hid ((#[.slice a ND.length c,.u q1,.u q2,.u q3,.i q4,.u q5,.v q6,.v q7,.v q8]:Array aA).all (·.oneCell')=true):=cD (by simp[aj]);obtain⟨w6,mU⟩:=cF (w5.setCells bb 2 [.slice a ND.length c,.u q1,.u q2,.u q3,.i q4,.u q5,.v q6,.v q7,.v q8]);have K6:cQ (·=bb) w5 w6:=by rw[mU];exact iw _ _ _ _
 have Ff:w6.heap[bb]?=some (.cells #[.s D,.F,.slice a ND.length c,.u q1,.u q2,.u q3,.i q4,.u q5,.v q6,.v q7,.v q8] 93 (0,0)):=by
  rw[mU];exact cells_from (B:=bb) (t:=93) (fr:=(0,0)) [.slice a ND.length c,.u q1,.u q2,.u q3,.i q4,.u q5,.v q6,.v q7,.v q8] 2 w5 [.s D,.F,.n,.U,.U,.U,.I,.U,.V,.V,.V] Cv rfl
 have Jd:cQ (·=rb) w1 w6:=(H4.out.2.2.trans h2).sM K6 cK;have nT:=cD (dJ Ff);have HT:Hid (w6.there w.heap.size 0 11):=cD (lK HW.out.1 Jd (fun e=>by have e:w.heap.size=rb:=e;omega));have gG:Hid ((#[.s D,.F,.slice a ND.length c,.u q1,.u q2,.u q3,.i q4,.u q5,.v q6,.v q7,.v q8]:Array aA).all (·.oneCell')=true):=cD (by simp[aj]);have H6:=cD (cC (h1.kept K6 (fun b hb e=>by have e:b=bb:=e;omega)) (cC Jd (d5.kept K6 (fun b hb _ e=>by have hb:w4.heap.size≤b:=hb;have e:b=bb:=e;have:=aO H4.out.1;omega))));have FK:Hid (w1.heap.size≤w4.heap.size):=cD H4.out.2.2.size;have Ef:=cD mU;clear Cv mU K6 Ff Jd h1 h2 d5;go_wp2_with (first
  |(refine aB rfl 44 (.tmp 15) (.tmp 14) rfl bb 2 #[.slice a ND.length c,.u q1,.u q2,.u q3,.i q4,.u q5,.v q6,.v q7,.v q8] rfl rfl Uf.out HZ9.out HO9.out ?_;rw[←Ef.out])
  |(refine ag rfl 93 (.tmp 3) rfl bb 0 rfl [.s D,.F,.slice a ND.length c,.u q1,.u q2,.u q3,.i q4,.u q5,.v q6,.v q7,.v q8] _ nT.out underlying93 rfl fm.out ?_)
  |(refine aB rfl 93 (.tmp 2) (.tmp 16) rfl w.heap.size 0 #[.s D,.F,.slice a ND.length c,.u q1,.u q2,.u q3,.i q4,.u q5,.v q6,.v q7,.v q8] rfl rfl HT.out fm.out gG.out ?_))
 refine aL (dz rfl _ _ w.heap.size 0 [.s D,.F,.slice a ND.length c,.u q1,.u q2,.u q3,.i q4,.u q5,.v q6,.v q7,.v q8] _ rfl (ay _ _ _ _ HT.out) underlying93 rfl fm.out) rfl ?_;have K:=kE w6 w.heap.size [.s D,.F,.slice a ND.length c,.u q1,.u q2,.u q3,.i q4,.u q5,.v q6,.v q7,.v q8];exact⟨a,c,rfl,(H6.out.2.2.kept K (fun b hb _ e=>by have hb:w4.heap.size≤b:=hb;have e:b=w.heap.size:=e;have:=FK.out;omega)).mono (fun b _ h=>by have h:w4.heap.size≤b:=h;have:=FK.out;show w.heap.size≤b;omega),H6.out.1.kept K (fun b hb e=>by have e:b=w.heap.size:=e;omega),((dA HW.out.2).trans H6.out.2.1).sM K (aq _)⟩
theorem Rd.aaU(r:Rd):r.FV.b.length≤r.b.length:=by
 unfold Rd.FV;have h:=aa (Rd.lW (r.text 64) 2) (r.sr 64);split
 ·exact h
 exact aa (Rd.VI _) h
def Rd.rJ(k:Nat)(r:Rd):Rd:=Nat.repeat Rd.FV k r
theorem Rd.Fu:∀(k:Nat) (r:Rd),(Rd.rJ k r).b.length≤r.b.length
 |0,_=>aq _
 |k+1,r=>aa (Rd.aaU _) (Rd.Fu k r)
def Rd.qj:Nat→Rd→List gm
 |0,_=>[]
 |k+1,r=>Rd.qj k r++[(Rd.rJ k r).rH]
theorem Rd.Iz:∀(k:Nat) (r:Rd),(Rd.qj k r).length=k
 |0,_=>rfl
 |k+1,r=>by unfold Rd.qj;rw[af,Rd.Iz k r];rfl
def LY(w wr:ah)(v:aA)(L:List dr)(E:List gm):Prop:=wr.ownsRow w.heap.size 93 11 v L.length (L.flatMap dr.cells)∧ff wr (fun k=>v.ownBlock≠some k∧w.heap.size≤k) L E
theorem G3(w:ah)(rb:Nat)(r:Rd)(hr:eZ w rb r)(hl:r.b.length≤1000000000)(most:Nat)(hm:most≤1000):
  an prog 236 #[.p rb,.i most,.func (.func 237) #[] #[]] w fun e w'=>∃v L,e=.returned v∧LY w w' v L (Rd.qj (r.count most) (r.dY most))∧eZ w' rb (Rd.rJ (r.count most) (r.dY most))∧cQ (·=rb) w w':=by
 have HT:=cD (Au w rb r hr most hm);have hrb:=hr.lt;have hnm:r.count most≤1000:=by unfold Rd.count;split<;>omega
 have hcl:(r.dY most).b.length≤1000000000:=aa (Rd.lH _ _) hl;obtain⟨N,hN⟩:=cF (r.count most);obtain⟨r1,kP⟩:=cF (r.dY most);rw[←hN,←kP] at HT⊢;rw[←hN] at hnm;rw[←kP] at hcl;have pT:=cD hcl;obtain⟨i0,wS,hz0,hz1,hz2⟩:=info_parts tY;have HI:=cD (cC wS (cC hz0 (cC hz1 hz2)));clear hr hN kP wS hz0 hz1 hz2 hl hcl;go_enter func236,ntmps236
 go_wp2_with fail
 refine HT.out.mono ?_;rintro e w1 ⟨rfl,h1,h2⟩;have H1:=cD (cC h1 h2);clear h1 h2;go_wp2
 go_loopw [7,11] (fun uv kv wr=>∃(k:Nat) (L:List dr),k≤N∧kv=.i k∧Hid (L.length=k∧LY w wr uv L (Rd.qj k r1)∧eZ wr rb (Rd.rJ k r1)∧cQ (·=rb) w wr)) (fun _ kv _=>N - (intOf kv).toNat)
 case atStart=>exact⟨0,[],by omega,rfl,cD ⟨rfl,⟨aY _ _ _ _,rfl,fun k r e h=>by simp at h⟩,H1.out⟩⟩
 obtain⟨k,L,hk,rfl,HS⟩:=hrel;by_cases hlt:k<N
 ·obtain⟨Pg,⟨ho,hlk⟩,hR,hK⟩:=HS.out
  rw[Pg] at ho;have DH:=KI wr rb _ hR (aa (Rd.Fu _ _) pT.out);obtain⟨⟨xp,xg,⟨XD,q1,q2,q3,q4,q5,q6,q7,q8⟩⟩,hx⟩:∃x,x=(Rd.rJ k r1).rH:=⟨_,rfl⟩;rw[←hx] at DH;unfold dr.val dr.cells Raw.cells eU.cells at DH;dsimp only[aZ,bg] at DH;have Xs:=cD DH;have HX:=cD hx;have H0:=cD (cC Pg (cC ho (cC hlk hK)));clear Pg ho hlk hR hK DH hx;go_wp2_with fail
  refine Xs.out.mono ?_;rintro e w2 ⟨a,c,rfl,d2,h1,h2⟩;have hown:=fA H0.out.2.1 h2 (fun g hg e=>by have:=(H0.out.2.1.lt g hg).1;have e:g=rb:=e;omega);have Ic:ff w2 (fun k=>u7.ownBlock≠some k∧w.heap.size≤k) (L++[⟨xp,xg,⟨a,XD.length,c,⟨q1,q2,q3,q4,q5,q6,q7,q8⟩⟩⟩]) (Rd.qj k r1++[⟨xp,xg,⟨XD,⟨q1,q2,q3,q4,q5,q6,q7,q8⟩⟩⟩]):=
   (H0.out.2.2.1.dZ h2 (fun b h e=>by have:=h.2;have e:b=rb:=e;omega)).append (G5 ⟨rfl,rfl,rfl,rfl,d2.cS.mono (fun b h=>⟨fun e=>by have:=(H0.out.2.1.lt b e).2;have h:wr.heap.size≤b:=h;omega,aa H0.out.2.2.2.size h⟩) (aq _),d2.nil⟩)
  have hsz:w.heap.size≤w2.heap.size:=aa H0.out.2.2.2.size h2.size;have H2:=cD (cC hown (cC Ic (cC h1 (H0.out.2.2.2.trans h2))));clear h1 h2 hown Ic d2;go_wp2_with (at_builtin;refine eD rfl (.tmp 13) (.tmp 17) 38 rfl w.heap.size 93 i0 (.agg #[.z,.F,.n,.U,.U,.U,.I,.U,.V,.V,.V]) 11 104 underlying38 HI.out.1 HI.out.2.1 HI.out.2.2.1 HI.out.2.2.2 rfl cL _ k _ rfl (H2.out.1.alloc _) ⟨w2.heap.size,0,none⟩ 1 1 [.s xp,.bool xg,.slice a XD.length c,.u q1,.u q2,.u q3,.i q4,.u q5,.v q6,.v q7,.v q8] rfl rfl (zH w2 _ _) (by intro u hu;simp at hu;rcases hu with rfl|rfl|rfl|rfl|rfl|rfl|rfl|rfl|rfl|rfl|rfl<;>rfl) (by unfold maxLen;omega) cK (by simp;omega) ?_;intro v5 w5 hown5 hgrow5 hwh5)
  have hba:=cT (aC _ w2) (.cells #[.s xp,.bool xg,.slice a XD.length c,.u q1,.u q2,.u q3,.i q4,.u q5,.v q6,.v q7,.v q8] 93);have Fj:cQ (·=rb) w w5:=(H2.out.2.2.2.trans (dA hba)).grown hgrow5 (fun g hg=>.inl (H2.out.1.lt g hg).1);have FU:eZ w5 rb (Rd.rJ (k+1) r1):=(H2.out.2.2.1.below hba).kept (jF hgrow5) (fun b hb e=>by have:=(H2.out.1.lt b e).1;omega);have jB:ff w5 (fun k=>v5.ownBlock≠some k∧w.heap.size≤k) (L++[⟨xp,xg,⟨a,XD.length,c,⟨q1,q2,q3,q4,q5,q6,q7,q8⟩⟩⟩]) (Rd.qj (k+1) r1):=by
   rw[show Rd.qj (k+1) r1=Rd.qj k r1++[(Rd.rJ k r1).rH] from rfl,←HX.out];have g1:=H2.out.2.1.both (lo':=fun k=>(u7.ownBlock≠some k∧v5.ownBlock≠some k)∧w.heap.size≤k) (fun k h hk=>⟨⟨h.1,fun e=>by
    rcases hwh5 k e with h3|h3
    ·exact h.1 h3
    simp at h3;omega⟩,h.2⟩)
   exact((g1.below hba).dZ (jF hgrow5) (fun b h e=>h.1.1 e)).both (fun k h _=>⟨h.1.2,h.2⟩)
  have hrow:(L.flatMap dr.cells)++[.s xp,.bool xg,.slice a XD.length c,.u q1,.u q2,.u q3,.i q4,.u q5,.v q6,.v q7,.v q8]=(L++[⟨xp,xg,⟨a,XD.length,c,⟨q1,q2,q3,q4,q5,q6,q7,q8⟩⟩⟩]:List dr).flatMap dr.cells:=by rw[bq];simp[dr.cells,Raw.cells,eU.cells]
  rw[hrow] at hown5;have QD:Hid ((L++[⟨xp,xg,⟨a,XD.length,c,⟨q1,q2,q3,q4,q5,q6,q7,q8⟩⟩⟩]:List dr).length=k+1∧LY w w5 v5 (L++[⟨xp,xg,⟨a,XD.length,c,⟨q1,q2,q3,q4,q5,q6,q7,q8⟩⟩⟩]) (Rd.qj (k+1) r1)∧eZ w5 rb (Rd.rJ (k+1) r1)∧cQ (·=rb) w w5):=cD (by
   have hlen:(L++[⟨xp,xg,⟨a,XD.length,c,⟨q1,q2,q3,q4,q5,q6,q7,q8⟩⟩⟩]:List dr).length=k+1:=by rw[af,H0.out.1];rfl
   exact⟨hlen,⟨by rw[hlen];exact hown5,jB⟩,FU,Fj⟩)
  clear hown5 hgrow5 hwh5 Fj FU hrow hsz jB hba;go_wp2
  go_roundw
  case rel=>exact⟨k+1,_,by omega,by go_num,QD⟩
  case measure=>simp[intOf];omega
 obtain rfl:N=k:=by omega
 have t1:decide ((N:Int)<(N:Int))=false:=by simp
 have t2:decide (N<N)=false:=by simp
 clear hlt hk;go_wp2
 go_ret
 exact⟨_,L,rfl,HS.out.2⟩
def opHead(o:fh):cO:=dw 1 o.kind.toNat++kq o.cW++kq o.data++(dw 8 (lu o.gW)++dw 1 (nL o.seq)++dw 1 (nL o.mV))
theorem jX(o:fh):(opHead o).length=19+o.cW.length+o.data.length:=by
 unfold opHead;simp only[af,dD,wY];omega
def qJ(w:ah):Nat→di→cO→Prop
 |0,_,_=>False
 |n+1,r,D=>∃(o:fh) (Ds:List cO),fo w (fun _=>True) r o∧((0≤o.kind∧o.kind<256)∧-9223372036854775808≤o.gW∧o.gW<9223372036854775808)∧D=opHead o++(dw 8 r.pn++Ds.flatten)∧r.pn=Ds.length∧∀(k:Nat) Dk,Ds[k]?=some Dk→∃b off q,r.pa=some ⟨b,off,none⟩∧b<w.heap.size∧w.rangeAt b (off+k*7) q.cells∧qJ w n q Dk
theorem qJ.below{w w':ah}(hb:cE w w'):∀{n:Nat} {r:di} {D:cO},qJ w n r D→qJ w' n r D
 |0,_,_,h=>h
 |n+1,r,D,h=>by
  obtain⟨o,Ds,h1,h2,h3,h4,h5⟩:=h;refine⟨o,Ds,h1.below hb,h2,h3,h4,fun k Dk hk=>?_⟩;obtain⟨b,off,q,g1,g2,g3,g4⟩:=h5 k Dk hk;exact⟨b,off,q,g1,aF g2 hb.size,dR g3 hb g2,g4.below hb⟩
structure IY(w:ah)(n:Nat)(a:Option aJ)(sn:Nat)(Ds:List cO):Prop where
 len:sn=Ds.length
 cS:∀(k:Nat) Dk,Ds[k]?=some Dk→∃b off q,a=some ⟨b,off,none⟩∧b<w.heap.size∧w.rangeAt b (off+k*7) q.cells∧qJ w n q Dk
theorem IY.below{w w':ah}{n:Nat}{a:Option aJ}{sn:Nat}{Ds:List cO}(h:IY w n a sn Ds)(hb:cE w w'):IY w' n a sn Ds:=⟨h.len,fun k Dk hk=>by
 obtain⟨b,off,q,g1,g2,g3,g4⟩:=h.cS k Dk hk;exact⟨b,off,q,g1,aF g2 hb.size,dR g3 hb g2,g4.below hb⟩⟩
theorem Fp(Ds:List cO)(k:Nat):((Ds.take k).flatten).length≤(Ds.flatten).length:=by
 have h:Ds.flatten=(Ds.take k).flatten++(Ds.drop k).flatten:=by rw[←List.flatten_append,List.take_append_drop]
 rw[h,af];omega
theorem DN{Ds:List cO}{k:Nat}{D:cO}(h:Ds[k]?=some D):(Ds.take (k+1)).flatten=(Ds.take k).flatten++D:=by
 rw[List.take_add_one,h];simp
def LJ(n:Nat):Prop:=∀(w:ah) (ao:Option aJ) (nb c:Nat) (B:cO) (r:di) (D:cO),BytesIn w ao nb c B→qJ w n r D→B.length+D.length≤200000000→
 an prog 134 #[.slice ao nb c,r.val] w (fe w (B++D))
theorem Dj{m:Nat}(hp:LJ m)(w:ah){ao:Option aJ}{nb c:Nat}{B:cO}(hB:BytesIn w ao nb c B){so:Option aJ}{sn sc:Nat}{Ds:List cO}(hD:IY w m so sn Ds)(hl:B.length+8+Ds.flatten.length≤200000000)(FQ:sn≤200000000):
  an prog 228 #[.slice ao nb c,.slice so sn sc,.func (.func 134) #[] #[]] w (fe w (B++(dw 8 sn++Ds.flatten))):=by
 have HU:=cD (iW w hB cK sn cK);have HV:=cD (cC hD (cC hl hp));clear hB hD hl hp;go_enter func228,ntmps228
 go_wp2_with fail
 refine HU.out.mono ?_;rintro e w1 ⟨a1,n1,c1,rfl,h1⟩;have H1:=cD h1;clear h1;go_wp2
 go_loopw [0,16] (fun bv kv wr=>∃(k:Nat) (a:Option aJ) (n c:Nat),k≤sn∧kv=.i k∧bv=.slice a n c∧Hid (iJ w (B++dw 8 sn++(Ds.take k).flatten) a n c wr)) (fun _ kv _=>sn - (intOf kv).toNat)
 case atStart=>exact⟨0,a1,n1,c1,by omega,rfl,rfl,cD (by simpa using H1.out)⟩
 obtain⟨k,a,n,c,hk,rfl,rfl,HS⟩:=hrel;by_cases hlt:k<sn
 ·obtain⟨D,hx⟩:∃D,Ds[k]?=some D:=⟨_,aS (by rw[←HV.out.1.len];exact hlt)⟩
  obtain⟨b,off,⟨ok,op,oa,on,oc,ov,os,oe,qa,qn,qc⟩,hso,hb,fS,hop⟩:=HV.out.1.cS k D hx;subst hso;have hrw:=dR fS HS.out.bl hb;have hlen:(B++dw 8 sn++(Ds.take k).flatten).length+D.length≤200000000:=by
   have h1:=HV.out.2.1;have h2:=Fp Ds (k+1);rw[DN hx,af] at h2;simp only[af,dD];omega
  unfold di.cells at hrw;dsimp only at hrw;have nT:=cD hrw;obtain⟨w2,fH,dI,hs2,hr2⟩:=dX wr [.b ok,.s op,.slice oa on oc,.i ov,.bool os,.bool oe,.slice qa qn qc] 35;have sO:=HV.out.2.2 w2 a n c _ _ D (HS.out.pH.below dI) (hop.below (HS.out.bl.trans (dI.mono HS.out.bl.size))) hlen;unfold di.val di.cells at sO;dsimp only at sO;have Qi:=cD sO;have FI:=cD (cC (hr2 w2 (aC _ _)) (cC dI fH));have fm:Hid (cG 35 7):=cD cJ;have HXK:=cD hx;clear fS hb hop hrw hlen sO fH dI hr2 hs2 hx;go_wp2_with (first
   |(refine ag rfl 35 (.tmp 18) rfl b (off+k*7) rfl [.b ok,.s op,.slice oa on oc,.i ov,.bool os,.bool oe,.slice qa qn qc] _ nT.out underlying35 rfl fm.out ?_)
   |(rw[←FI.out.2.2];refine ag rfl 35 (.tmp 8) rfl wr.heap.size 0 rfl [.b ok,.s op,.slice oa on oc,.i ov,.bool os,.bool oe,.slice qa qn qc] _ FI.out.1 underlying35 rfl fm.out ?_))
  refine Qi.out.mono ?_;rintro e w3 ⟨a3,n3,c3,rfl,h1⟩;have H3:Hid (iJ w (B++dw 8 sn++(Ds.take (k+1)).flatten) a3 n3 c3 w3):=cD (((h1.trans FI.out.2.1).trans HS.out.bl).cast (by rw[DN HXK.out,aI]));clear h1;go_wp2
  go_roundw
  case rel=>exact⟨k+1,a3,n3,c3,by omega,by go_num,rfl,H3⟩
  case measure=>simp[intOf];omega
 obtain rfl:sn=k:=by omega
 have t1:decide ((sn:Int)<(sn:Int))=false:=by simp
 have t2:decide (sn<sn)=false:=by simp
 clear hlt hk;go_wp2
 go_ret
 exact⟨a,n,c,rfl,HS.out.cast (by rw[List.take_of_length_le (by rw[←HV.out.1.len];exact aq _),aI])⟩
theorem GC{m:Nat}(hp:LJ m)(w:ah){ao:Option aJ}{nb c:Nat}{B:cO}(hB:BytesIn w ao nb c B)(r:di)(o:fh)(hr:fo w (fun _=>True) r o)(hk:0≤o.kind∧o.kind<256)(Ds:List cO)(hD:IY w m r.pa r.pn Ds)
  (hl:B.length+(opHead o).length+8+Ds.flatten.length≤200000000) (FQ:r.pn≤200000000):
  an prog 134 #[.slice ao nb c,r.val] w (fe w (B++(opHead o++(dw 8 r.pn++Ds.flatten)))):=by
 obtain⟨ok,op,oa,on,oc,ov,os,oe,qa,qn,qc⟩:=r;obtain⟨k,p,D,vv,sq,ep⟩:=o;obtain⟨h1,h2,h3,h4,h5,h6,h7,h8⟩:=hr;rw[jX] at hl;dsimp only at h1 h2 h3 h4 h5 h6 h7 h8 hk hD hl FQ;subst h1 h2 h3 h4 h5;obtain⟨kn,rfl⟩:∃kn:Nat,ok=kn:=⟨ok.toNat,by omega⟩;have Yd:BytesIn w oa on oc D:=⟨h6,h7,h8⟩;unfold di.val di.cells;dsimp only;have HOH:Hid (opHead ⟨(kn:Int),op,D,ov,os,oe⟩=dw 1 kn++kq op++kq D++(dw 8 (lu ov)++dw 1 (nL os)++dw 1 (nL oe))):=cD (by unfold opHead;simp);rw[HOH.out];obtain⟨w1,hw1,dB,hs1,fS⟩:=dX w [.b (kn:Int),.s op,.slice oa on oc,.i ov,.bool os,.bool oe,.slice qa qn qc] 35;have y0:∀w',cE w1 w'→w'.cell? ⟨w.heap.size,0,none⟩=some (.b (kn:Int)):=fun w' h=>fS w' h 0 _ rfl
 have y1:∀w',cE w1 w'→w'.cell? ⟨w.heap.size,1,none⟩=some (.s op):=fun w' h=>fS w' h 1 _ rfl
 have y2:∀w',cE w1 w'→w'.cell? ⟨w.heap.size,2,none⟩=some (.slice oa on oc):=fun w' h=>fS w' h 2 _ rfl
 have y3:∀w',cE w1 w'→w'.cell? ⟨w.heap.size,3,none⟩=some (.i ov):=fun w' h=>fS w' h 3 _ rfl
 have y4:∀w',cE w1 w'→w'.cell? ⟨w.heap.size,4,none⟩=some (.bool os):=fun w' h=>fS w' h 4 _ rfl
 have y5:∀w',cE w1 w'→w'.cell? ⟨w.heap.size,5,none⟩=some (.bool oe):=fun w' h=>fS w' h 5 _ rfl
 have y6:∀w',cE w1 w'→w'.cell? ⟨w.heap.size,6,none⟩=some (.slice qa qn qc):=fun w' h=>fS w' h 6 _ rfl
 have zQ:=cD fun W (h:cE w1 W)=>hB.below (dB.trans (h.mono dB.size))
 have HD:=cD (cC (fun W (h:cE w1 W)=>Yd.below (dB.trans (h.mono dB.size))) (fun W (h:cE w1 W)=>hD.below (dB.trans (h.mono dB.size))));have HK:=cD (cC hk (cC hl (cC FQ hp)));have HW:=cD (cC hw1 dB);clear hB hw1 fS hD hk hl FQ dB Yd h6 h7 h8 hp;go_enter func134,ntmps134
 go_wp2_with fail
 rw[←HW.out.1];refine rB fun wd hS=>?_
 refine tI 0 rfl hS ?_;refine tI 1 rfl hS ?_;refine tJ 2 rfl hS y0 ?_;refine tI 4 rfl hS ?_;simp only[cR];refine tJ 5 rfl hS y1 ?_;refine tI 8 rfl hS ?_;refine tJ 9 rfl hS y2 ?_;simp only[cR];obtain⟨cc,wc,hcv,hps⟩:=BB wd op;have BW:=hS.trans (hps.bl.mono hS.size);refine jR 3 6 rfl rfl cJ cN cN _ _ (by go_simp<;>first|rfl|exact⟨rfl,rfl⟩) (.slice (some ⟨wd.heap.size,0,none⟩) op.length cc) wc (by go_simp<;>first|rfl|exact⟨rfl,rfl⟩) ?_ BW ?_
 ·refine(nN wd (zQ.out wd hS) (by have:=HK.out.2.1;omega) kn (by have:=HK.out.1;omega)).mono ?_
  rintro e w2 ⟨a2,n2,c2,rfl,P2⟩;have oR:=hS.trans (P2.bl.mono hS.size);refine⟨oR,?_⟩;simp only[cR];clear hcv hps BW;obtain⟨cc,W,hcv,hps⟩:=BB w2 op;have ek:=oR.trans (hps.bl.mono oR.size);refine gI 6 rfl _ W ek ?_;have Z:=cD (cC (P2.pH.below hps.bl) (cC hps.pH ek));clear P2 hps hS oR ek hcv;simp only[cR];refine cI 7 rfl ?_;refine(oV W Z.out.1 (by have:=HK.out.2.1;simp only[af,dD];omega) Z.out.2.1 (by have:=HK.out.2.1;omega)).mono ?_;rintro e w4 ⟨a4,n4,c4,rfl,P4⟩;have eV:=Z.out.2.2.trans (P4.bl.mono Z.out.2.2.size);refine⟨eV,?_⟩;simp only[cR];refine cI 10 rfl ?_;refine(oV w4 P4.pH (by have:=HK.out.2.1;simp only[af,dD];omega) (HD.out.1 w4 eV) (by have:=HK.out.2.1;omega)).mono ?_;rintro e w5 ⟨a5,n5,c5,rfl,P5⟩;have oM:=eV.trans (P5.bl.mono eV.size);refine⟨oM,?_⟩;simp only[cR];refine tI 11 rfl oM ?_;simp only[cR];refine aG cJ ?_ _;have H5:=cD (cC P5.pH oM);clear P4 P5 eV oM Z;go_wp2_with fail
  refine rC H5.out.2 fun wd hS hd=>?_
  refine tI 0 rfl hS ?_;refine tI 1 rfl hS ?_;refine tJ 2 rfl hS y3 ?_;refine tI 4 rfl hS ?_;simp only[cR];refine tJ 5 rfl hS y4 ?_;refine tI 7 rfl hS ?_;refine tJ 8 rfl hS y5 ?_;simp only[cR];refine cI 3 rfl ?_;refine(vK wd (H5.out.1.below hd) (by have:=HK.out.2.1;simp only[af,dD];omega) ov).mono ?_;rintro e w6 ⟨a6,n6,c6,rfl,P6⟩;have uh:=hS.trans (P6.bl.mono hS.size);refine⟨uh,?_⟩;simp only[cR];refine cI 6 rfl ?_;refine(rF w6 P6.pH (by have:=HK.out.2.1;simp only[af,dD];omega) os).mono ?_;rintro e w7 ⟨a7,n7,c7,rfl,P7⟩;have Bc:=uh.trans (P7.bl.mono uh.size);refine⟨Bc,?_⟩;simp only[cR];refine cI 9 rfl ?_;refine(rF w7 P7.pH (by have:=HK.out.2.1;simp only[af,dD];omega) oe).mono ?_;rintro e w8 ⟨a8,n8,c8,rfl,P8⟩;have jP:=Bc.trans (P8.bl.mono Bc.size);refine⟨jP,?_⟩;simp only[cR];refine tI 10 rfl jP ?_;simp only[cR];refine aG cJ ?_ _;have YN:=cD (Dj HK.out.2.2.2 w8 (sc:=qc) P8.pH (HD.out.2 w8 jP) (by have:=HK.out.2.1;simp only[af,dD];omega) HK.out.2.2.1);have k6:=y6 w8 jP;have Xm:=cD jP;clear P6 P7 P8 hS uh Bc jP hd H5;go_wp2_with fail
  refine YN.out.mono ?_;rintro e w9 ⟨a9,n9,c9,rfl,P9⟩;have H9:=cD ((P9.trans Xm.out).trans HW.out.2);clear P9 k6;go_wp2
  go_ret
  exact⟨a9,n9,c9,rfl,H9.out.cast (by unfold kq;simp[aI])⟩
 skip
 simp only[cR];refine cI 3 rfl ?_;refine(nN wc (zQ.out wc BW) (by have:=HK.out.2.1;omega) kn (by have:=HK.out.1;omega)).mono ?_;rintro e W ⟨a2,n2,c2,rfl,P2⟩;have ek:=BW.trans (P2.bl.mono BW.size);refine⟨ek,?_⟩;have Z:=cD (cC P2.pH (cC (hps.pH.below P2.bl) ek));clear P2 hps hS ek hcv BW;simp only[cR];refine cI 7 rfl ?_;refine(oV W Z.out.1 (by have:=HK.out.2.1;simp only[af,dD];omega) Z.out.2.1 (by have:=HK.out.2.1;omega)).mono ?_;rintro e w4 ⟨a4,n4,c4,rfl,P4⟩;have eV:=Z.out.2.2.trans (P4.bl.mono Z.out.2.2.size);refine⟨eV,?_⟩;simp only[cR];refine cI 10 rfl ?_;refine(oV w4 P4.pH (by have:=HK.out.2.1;simp only[af,dD];omega) (HD.out.1 w4 eV) (by have:=HK.out.2.1;omega)).mono ?_;rintro e w5 ⟨a5,n5,c5,rfl,P5⟩;have oM:=eV.trans (P5.bl.mono eV.size);refine⟨oM,?_⟩;simp only[cR];refine tI 11 rfl oM ?_;simp only[cR];refine aG cJ ?_ _;have H5:=cD (cC P5.pH oM);clear P4 P5 eV oM Z;go_wp2_with fail
 refine rC H5.out.2 fun wd hS hd=>?_
 refine tI 0 rfl hS ?_;refine tI 1 rfl hS ?_;refine tJ 2 rfl hS y3 ?_;refine tI 4 rfl hS ?_;simp only[cR];refine tJ 5 rfl hS y4 ?_;refine tI 7 rfl hS ?_;refine tJ 8 rfl hS y5 ?_;simp only[cR];refine cI 3 rfl ?_;refine(vK wd (H5.out.1.below hd) (by have:=HK.out.2.1;simp only[af,dD];omega) ov).mono ?_;rintro e w6 ⟨a6,n6,c6,rfl,P6⟩;have uh:=hS.trans (P6.bl.mono hS.size);refine⟨uh,?_⟩;simp only[cR];refine cI 6 rfl ?_;refine(rF w6 P6.pH (by have:=HK.out.2.1;simp only[af,dD];omega) os).mono ?_;rintro e w7 ⟨a7,n7,c7,rfl,P7⟩;have Bc:=uh.trans (P7.bl.mono uh.size);refine⟨Bc,?_⟩;simp only[cR];refine cI 9 rfl ?_;refine(rF w7 P7.pH (by have:=HK.out.2.1;simp only[af,dD];omega) oe).mono ?_;rintro e w8 ⟨a8,n8,c8,rfl,P8⟩;have jP:=Bc.trans (P8.bl.mono Bc.size);refine⟨jP,?_⟩;simp only[cR];refine tI 10 rfl jP ?_;simp only[cR];refine aG cJ ?_ _;have YN:=cD (Dj HK.out.2.2.2 w8 (sc:=qc) P8.pH (HD.out.2 w8 jP) (by have:=HK.out.2.1;simp only[af,dD];omega) HK.out.2.2.1);have k6:=y6 w8 jP;have Xm:=cD jP;clear P6 P7 P8 hS uh Bc jP hd H5;go_wp2_with fail
 refine YN.out.mono ?_;rintro e w9 ⟨a9,n9,c9,rfl,P9⟩;have H9:=cD ((P9.trans Xm.out).trans HW.out.2);clear P9 k6;go_wp2
 go_ret
 exact⟨a9,n9,c9,rfl,H9.out.cast (by unfold kq;simp[aI])⟩
theorem qJ.pos{w:ah}:∀{n:Nat} {r:di} {D:cO},qJ w n r D→0<D.length
 |0,_,_,h=>h.elim
 |n+1,r,D,h=>by
  obtain⟨o,Ds,_,_,h3,_⟩:=h;subst h3;rw[af,jX];omega
theorem AQ:∀{Ds:List cO},(∀D∈Ds,0<D.length)→Ds.length≤Ds.flatten.length
 |[],_=>aq _
 |D::Ds,h=>by
  have h1:=AQ (fun E hE=>h E (List.mem_cons_of_mem _ hE));have h2:=h D List.mem_cons_self;rw[List.flatten_cons,af,List.length_cons];omega
theorem ED:∀n,LJ n
 |0=>fun w ao nb c B r D _ h _=>h.elim
 |n+1=>fun w ao nb c B r D hB h hl=>by
  obtain⟨o,Ds,h1,h2,h3,h4,h5⟩:=h;subst h3;simp only[af,dD] at hl;refine GC (ED n) w hB r o h1 h2.1 Ds ⟨h4,h5⟩ cK ?_;have h6:=AQ (Ds:=Ds) (fun E hE=>by
   obtain⟨k,hk⟩:=List.getElem?_of_mem hE;obtain⟨_,_,_,_,_,_,g⟩:=h5 k E hk;exact g.pos)
  omega
structure sQ(w1 W:ah)(rb:Nat)(r:Rd)(o:Option Nat)(pa:Option aJ)(pc:Nat)(P:cO)(a:Option aJ)(c:Nat)(D:cO):Prop where
 rd:eZ W rb r
 kp:cQ (·=rb) w1 W
 bx:∀bb,o=some bb→W.heap[bb]?=some (.cells #[.B,.z,.n,.I,.F,.F,.n] 35 (0,0))∧w1.heap.size≤bb
 dp:dW W (fun b=>b≠rb∧o≠some b) pa pc P
 dt:dW W (fun b=>w1.heap.size≤b∧o≠some b) a c D
 lt:rb<w1.heap.size
section
variable{w1 W W':World}{rb:Nat}{r r':Rd}{o:Option Nat}{pa a:Option Addr}{pc c:Nat}{P D:cO}
theorem sQ.alloc(h:sQ w1 W rb r none pa pc P a c D):sQ w1 (W.alloc (.cells #[.B,.z,.n,.I,.F,.F,.n] 35)) rb r (some W.heap.size) pa pc P a c D:=by
 have hb:=cT (aC _ W) (.cells #[.B,.z,.n,.I,.F,.F,.n] 35);exact⟨h.rd.below hb,h.kp.trans (dA hb),fun bb e=>by cases e;exact⟨aK W _,h.kp.size⟩,
  (h.dp.mono (fun b hb h=>⟨h.1,fun e=>by cases e;omega⟩)).below hb,(h.dt.mono (fun b hb h=>⟨h.1,fun e=>by cases e;omega⟩)).below hb,h.lt⟩
theorem sQ.call(h:sQ w1 W rb r o pa pc P a c D)(hr:eZ W' rb r')(hk:cQ (·=rb) W W'):sQ w1 W' rb r' o pa pc P a c D:=
 ⟨hr,h.kp.trans hk,fun bb e=>by
  obtain⟨h1,h2⟩:=h.bx bb e;exact⟨(hk.block bb (aO h1) (fun e=>by have e:bb=rb:=e;have:=h.lt;omega)).trans h1,h2⟩,
  h.dp.kept hk (fun b hb _ e=>hb.1 e),h.dt.kept hk (fun b hb _ e=>by have:=hb.1;have e:b=rb:=e;have:=h.lt;omega),h.lt⟩
theorem sQ.cW(h:sQ w1 W rb r o pa pc P a c D){a2:Option aJ}{c2:Nat}{D2:cO}(hr:eZ W' rb r')(hk:cQ (·=rb) W W')(hd:dW W' (fU W.heap.size) a2 c2 D2):sQ w1 W' rb r' o a2 c2 D2 a c D:=by
 have g:=h.call hr hk;refine⟨g.rd,g.kp,g.bx,hd.mono (fun b _ hb=>?_),g.dt,g.lt⟩;have hb:W.heap.size≤b:=hb;have:=h.kp.size;have:=h.lt;exact⟨by omega,fun e=>by have:=aO (h.bx b e).1;omega⟩
theorem sQ.data(h:sQ w1 W rb r o pa pc P a c D){a2:Option aJ}{c2:Nat}{D2:cO}(hr:eZ W' rb r')(hk:cQ (·=rb) W W')(hd:dW W' (fU W.heap.size) a2 c2 D2):sQ w1 W' rb r' o pa pc P a2 c2 D2:=by
 have g:=h.call hr hk;refine⟨g.rd,g.kp,g.bx,g.dp,hd.mono (fun b _ hb=>?_),g.lt⟩;have hb:W.heap.size≤b:=hb;have:=h.kp.size;exact⟨by omega,fun e=>by have:=aO (h.bx b e).1;omega⟩
end
theorem IL(W:ah)(lo:Nat→Prop):dW W lo none 0 []:=⟨fun j x hj=>by simp at hj,fun _=>⟨rfl,rfl⟩⟩
def Rd.jy(r:Rd):fh:=
 let r1:=r.take 1;let r2:=r1.text 64;let r3:=r2.text 64;let r4:=r3.take 8;let r5:=r4.place 2
 ⟨(r.num 1:Nat),r1.lz,r2.lz,wrap64 (r3.num 8:Nat),r4.rG,r5.rG⟩
def Rd.leaf(r:Rd):Rd:=(((((r.take 1).text 64).text 64).take 8).place 2).place 2
def YE(w1:ah)(rb:Nat)(x:fh)(r:Rd)(bv:aA)(wc:ah):Prop:=∃bb a c,bv=.p bb∧wc.heap[bb]?=some (.cells #[.b x.kind,.s x.cW,.slice a x.data.length c,.i x.gW,.bool x.seq,.bool x.mV,.n] 35 (0,0))∧w1.heap.size≤bb∧eZ wc rb r∧cQ (·=rb) w1 wc∧dW wc (fun b=>w1.heap.size≤b∧b≠bb) a c x.data
theorem sQ.box{w1 W:ah}{rb bb:Nat}{r:Rd}{pa a:Option aJ}{pc c:Nat}{P:cO}{x:fh}(h:sQ w1 W rb r (some bb) pa pc P a c x.data):YE w1 rb x r (.p bb) (W.setCells bb 0 [.b x.kind,.s x.cW,.slice a x.data.length c,.i x.gW,.bool x.seq,.bool x.mV,.n]):=by
 obtain⟨h1,h2⟩:=h.bx bb rfl;have K:=kE W bb [.b x.kind,.s x.cW,.slice a x.data.length c,.i x.gW,.bool x.seq,.bool x.mV,.n];have:=h.lt;exact⟨bb,a,c,rfl,gq h1 rfl,h2,h.rd.kept K (fun b hb e=>by have e:b=bb:=e;omega),h.kp.sM K h2,(h.dt.kept K (fun b hb _ e=>hb.2 (by have e:b=bb:=e;rw[e]))).mono (fun b _ hb=>⟨hb.1,fun e=>hb.2 (by rw[e])⟩)⟩
theorem We:(prog.info? 35).map (fun i=>(i.zero,i.size,i.bytes))=some (some (.agg #[.B,.z,.n,.I,.F,.F,.n]),7,88):=by kernel_rfl
theorem Rd.EU(r:Rd):r.leaf.b.length≤r.b.length:=by
 unfold Rd.leaf;exact aa (Rd.lW _ _) (aa (Rd.lW _ _) (aa (Rd.gS _ _) (aa (Rd.sr _ _) (aa (Rd.sr _ _) (Rd.gS _ _)))))
def Rd.XE(r:Rd):Rd:=r.leaf.dY 0
theorem Rd.ZA(r:Rd):r.XE.b.length≤r.b.length:=aa (Rd.lH _ _) r.EU
def Rd.EM(k:Nat)(r:Rd):Rd:=Nat.repeat Rd.XE k r
theorem Rd.J6:∀(k:Nat) (r:Rd),(Rd.EM k r).b.length≤r.b.length
 |0,_=>aq _
 |k+1,r=>aa (Rd.ZA _) (Rd.J6 k r)
def Rd.GD:Nat→Rd→List fh
 |0,_=>[]
 |k+1,r=>Rd.GD k r++[(Rd.EM k r).jy]
def nQ(w:ah)(lo:Nat→Prop)(L:List di)(X:List fh):Prop:=L.length=X.length∧∀(k:Nat) q x,L[k]?=some q→X[k]?=some x→fo w lo q x∧q.pa=none∧q.pn=0∧q.pc=0
theorem fo.dZ{w w':ah}{S lo:Nat→Prop}{q:di}{x:fh}(h:fo w lo q x)(hk:cQ S w w')(hn:∀b,lo b→b<w.heap.size→¬S b):fo w' lo q x:=
 ⟨h.kind,h.cW,h.gW,h.seq,h.mV,h.len,(h.data.kept hk (aq _) (fun b h1 h2 _=>hn b h1 h2)).mono (fun _ h=>h) hk.size,h.nil⟩
theorem nQ.dZ{w w':ah}{S lo:Nat→Prop}{L:List di}{X:List fh}(h:nQ w lo L X)(hk:cQ S w w')(hn:∀b,lo b→b<w.heap.size→¬S b):nQ w' lo L X:=⟨h.1,fun k q x h1 h2=>⟨(h.2 k q x h1 h2).1.dZ hk hn,(h.2 k q x h1 h2).2⟩⟩
theorem nQ.both{w:ah}{lo lo':Nat→Prop}{L:List di}{X:List fh}(h:nQ w lo L X)(hl:∀b,lo b→b<w.heap.size→lo' b):nQ w lo' L X:=⟨h.1,fun k q x h1 h2=>⟨(h.2 k q x h1 h2).1.both hl,(h.2 k q x h1 h2).2⟩⟩
theorem nQ.more{w:ah}{lo:Nat→Prop}{L:List di}{X:List fh}(h:nQ w lo L X){q:di}{x:fh}(hq:fo w lo q x)(h2:q.pa=none∧q.pn=0∧q.pc=0):nQ w lo (L++[q]) (X++[x]):=⟨by rw[af,af,h.1];rfl,fun k q' x' g1 g2=>by
 by_cases hlt:k<L.length
 ·rw[aR hlt] at g1
  rw[aR (by rw[←h.1];exact hlt)] at g2;exact h.2 k q' x' g1 g2
 ·have hk0:k=L.length:=by have:=(aD.1 g1).1;simp at this;omega
  subst hk0;rw[aQ (aq _),Nat.sub_self] at g1;rw[aQ (by rw[h.1];exact aq _),h.1,Nat.sub_self] at g2;simp at g1 g2;subst g1 g2;exact⟨hq,h2⟩⟩
def Ua(w wr:ah)(v:aA)(L:List di)(X:List fh):Prop:=wr.ownsRow w.heap.size 35 7 v L.length (L.flatMap di.cells)∧nQ wr (fun k=>v.ownBlock≠some k∧w.heap.size≤k) L X∧(L=[]→v=.n)
theorem DQ:∀(L:List di) (k:Nat) (r:di),L[k]?=some r→∀j u,r.cells[j]?=some u→(L.flatMap di.cells)[k*7+j]?=some u
 |[],k,r,h,j,u,hu=>by simp at h
 |x::L,0,r,h,j,u,hu=>by
  simp at h;subst h;rw[bz,Nat.zero_mul,aT,aR (aD.1 hu).1];exact hu
 |x::L,k+1,r,h,j,u,hu=>by
  have h':L[k]?=some r:=by simpa using h
  have hx:x.cells.length=7:=rfl;rw[bz,aQ (by rw[hx];omega),hx,show(k+1)*7+j - 7=k*7+j by omega];exact DQ L k r h' j u hu
def FO:Prop:=∀(w:ah) (rb:Nat) (r:Rd),eZ w rb r→r.b.length≤1000000000→
 an prog 233 #[.p rb] w fun e w'=>∃q:di,e=.returned q.val∧fo w' (fU w.heap.size) q r.jy∧(q.pa=none∧q.pn=0∧q.pc=0)∧eZ w' rb r.XE∧cQ (·=rb) w w'
theorem G2(w:ah)(rb:Nat)(r:Rd)(hr:eZ w rb r)(hl:r.b.length≤1000000000)(most:Nat)(hm:most≤1000)(HG:0<most→FO):
  an prog 232 #[.p rb,.i most,.func (.func 233) #[] #[]] w fun e w'=>∃v L,e=.returned v∧Ua w w' v L (Rd.GD (r.count most) (r.dY most))∧eZ w' rb (Rd.EM (r.count most) (r.dY most))∧cQ (·=rb) w w':=by
 have HT:=cD (Au w rb r hr most hm);have hrb:=hr.lt;have hnm:r.count most≤1000∧r.count most≤most:=by unfold Rd.count;split<;>omega
 have hcl:(r.dY most).b.length≤1000000000:=aa (Rd.lH _ _) hl;obtain⟨N,hN⟩:=cF (r.count most);obtain⟨r1,kP⟩:=cF (r.dY most);rw[←hN,←kP] at HT⊢;rw[←hN] at hnm;rw[←kP] at hcl;have pT:=cD (cC hcl (cC HG hnm.2));have hnm:=hnm.1;obtain⟨i0,wS,hz0,hz1,hz2⟩:=info_parts We;have HI:=cD (cC wS (cC hz0 (cC hz1 hz2)));clear hr hN kP wS hz0 hz1 hz2 hl hcl HG;go_enter func232,ntmps232
 go_wp2_with fail
 refine HT.out.mono ?_;rintro e w1 ⟨rfl,h1,h2⟩;have H1:=cD (cC h1 h2);clear h1 h2;go_wp2
 go_loopw [7,11] (fun uv kv wr=>∃(k:Nat) (L:List di),k≤N∧kv=.i k∧Hid (L.length=k∧Ua w wr uv L (Rd.GD k r1)∧eZ wr rb (Rd.EM k r1)∧cQ (·=rb) w wr)) (fun _ kv _=>N - (intOf kv).toNat)
 case atStart=>exact⟨0,[],by omega,rfl,cD ⟨rfl,⟨aY _ _ _ _,⟨rfl,fun k q x h=>by simp at h⟩,fun _=>rfl⟩,H1.out⟩⟩
 obtain⟨k,L,hk,rfl,HS⟩:=hrel;by_cases hlt:k<N
 ·obtain⟨Pg,⟨ho,hlk,_⟩,hR,hK⟩:=HS.out
  rw[Pg] at ho;have Xs:=cD (pT.out.2.1 (by have:=pT.out.2.2;omega) wr rb _ hR (aa (Rd.J6 _ _) pT.out.1));have H0:=cD (cC Pg (cC ho (cC hlk hK)));clear Pg ho hlk hR hK;go_wp2_with fail
  refine Xs.out.mono ?_;rintro e w2 ⟨⟨ok,op,oa,on,oc,ov,os,oe,qa,qn,qc⟩,rfl,hlf,hqs,h1,h2⟩;unfold di.val di.cells;dsimp only;have hown:=fA H0.out.2.1 h2 (fun g hg e=>by have:=(H0.out.2.1.lt g hg).1;have e:g=rb:=e;omega);have Ic:=(H0.out.2.2.1.dZ h2 (fun b h _ e=>by have:=h.2;have e:b=rb:=e;omega)).more (hlf.both (fun b h _=>⟨fun e=>by have:=(H0.out.2.1.lt b e).2;have h:wr.heap.size≤b:=h;omega,aa H0.out.2.2.2.size h⟩)) hqs;have hsz:w.heap.size≤w2.heap.size:=aa H0.out.2.2.2.size h2.size;have H2:=cD (cC hown (cC Ic (cC h1 (H0.out.2.2.2.trans h2))));clear h1 h2 hown Ic hlf hqs;go_wp2_with (at_builtin;refine eD rfl (.tmp 13) (.tmp 17) 33 rfl w.heap.size 35 i0 (.agg #[.B,.z,.n,.I,.F,.F,.n]) 7 88 underlying33 HI.out.1 HI.out.2.1 HI.out.2.2.1 HI.out.2.2.2 rfl cL _ k _ rfl (H2.out.1.alloc _) ⟨w2.heap.size,0,none⟩ 1 1 [.b ok,.s op,.slice oa on oc,.i ov,.bool os,.bool oe,.slice qa qn qc] rfl rfl (zH w2 _ _) (by intro u hu;simp at hu;rcases hu with rfl|rfl|rfl|rfl|rfl|rfl|rfl<;>rfl) (by unfold maxLen;omega) cK (by simp;omega) ?_;intro v5 w5 hown5 hgrow5 hwh5)
  have hba:=cT (aC _ w2) (.cells #[.b ok,.s op,.slice oa on oc,.i ov,.bool os,.bool oe,.slice qa qn qc] 35);have Fj:cQ (·=rb) w w5:=(H2.out.2.2.2.trans (dA hba)).grown hgrow5 (fun g hg=>.inl (H2.out.1.lt g hg).1);have FU:eZ w5 rb (Rd.EM (k+1) r1):=(H2.out.2.2.1.below hba).kept (jF hgrow5) (fun b hb e=>by have:=(H2.out.1.lt b e).1;omega);have jB:nQ w5 (fun k=>v5.ownBlock≠some k∧w.heap.size≤k) (L++[⟨ok,op,oa,on,oc,ov,os,oe,qa,qn,qc⟩]) (Rd.GD (k+1) r1):=by
   rw[show Rd.GD (k+1) r1=Rd.GD k r1++[(Rd.EM k r1).jy] from rfl];have g1:=H2.out.2.1.both (lo':=fun k=>(u7.ownBlock≠some k∧v5.ownBlock≠some k)∧w.heap.size≤k) (fun k h hk=>⟨⟨h.1,fun e=>by
    rcases hwh5 k e with h3|h3
    ·exact h.1 h3
    simp at h3;omega⟩,h.2⟩)
   exact((g1.dZ (dA (S:=fun _=>False) hba) (fun _ _ _ h=>h)).dZ (jF hgrow5) (fun b h _ e=>h.1.1 e)).both (fun k h _=>⟨h.1.2,h.2⟩)
  have hrow:(L.flatMap di.cells)++[.b ok,.s op,.slice oa on oc,.i ov,.bool os,.bool oe,.slice qa qn qc]=(L++[⟨ok,op,oa,on,oc,ov,os,oe,qa,qn,qc⟩]:List di).flatMap di.cells:=by rw[bq];simp[di.cells]
  rw[hrow] at hown5;have QD:Hid ((L++[⟨ok,op,oa,on,oc,ov,os,oe,qa,qn,qc⟩]:List di).length=k+1∧Ua w w5 v5 (L++[⟨ok,op,oa,on,oc,ov,os,oe,qa,qn,qc⟩]) (Rd.GD (k+1) r1)∧eZ w5 rb (Rd.EM (k+1) r1)∧cQ (·=rb) w w5):=cD (by
   have hlen:(L++[⟨ok,op,oa,on,oc,ov,os,oe,qa,qn,qc⟩]:List di).length=k+1:=by rw[af,H0.out.1];rfl
   exact⟨hlen,⟨by rw[hlen];exact hown5,jB,fun e=>by simp at e⟩,FU,Fj⟩)
  clear hown5 hgrow5 hwh5 Fj FU hrow hsz jB hba;go_wp2
  go_roundw
  case rel=>exact⟨k+1,_,by omega,by go_num,QD⟩
  case measure=>simp[intOf];omega
 obtain rfl:N=k:=by omega
 have t1:decide ((N:Int)<(N:Int))=false:=by simp
 have t2:decide (N<N)=false:=by simp
 clear hlt hk;go_wp2
 go_ret
 exact⟨_,L,rfl,HS.out.2⟩
theorem J4{w:ah}{base:Nat}{v:aA}{L:List di}(h:w.ownsRow base 35 7 v L.length (L.flatMap di.cells)):∃a c,v=.slice a L.length c∧(∀(k:Nat) x,L[k]?=some x→∃g,a=some ⟨g,0,none⟩∧base≤g∧g<w.heap.size∧w.rangeAt g (k*7) x.cells):=by
 rcases h.2 with ⟨h1,h0⟩|⟨g,cap,cur,h1,yG,hg,_⟩
 ·have:L=[]:=aN h0
  subst this;exact⟨none,0,h1,fun k r hk=>by simp at hk⟩
 have hl:=h.lt g (by rw[h1];rfl);refine⟨some ⟨g,0,none⟩,cap,h1,fun k r hk=>⟨g,rfl,hl.1,hl.2,fun j u hu=>?_⟩⟩;have:=h.cells (g:=g) (by rw[h1];rfl) (k*7+j) u (DQ L k r hk j u hu);rw[Addr.add_mid,aT] at this;exact this
def Ni(w:ah)(rb:Nat)(r:Rd)(most:Nat)(e:Ending)(w':ah):Prop:=∃(q:di) (L:List di),e=.returned q.val∧fo w' (fU w.heap.size) q r.jy∧q.pn=L.length∧nQ w' (fU w.heap.size) L (Rd.GD (r.leaf.count most) (r.leaf.dY most))∧(∀(k:Nat) x,L[k]?=some x→∃g,q.pa=some ⟨g,0,none⟩∧w.heap.size≤g∧g<w'.heap.size∧w'.rangeAt g (k*7) x.cells)∧(L=[]→q.pa=none∧q.pc=0)∧eZ w' rb (Rd.EM (r.leaf.count most) (r.leaf.dY most))∧cQ (·=rb) w w'
theorem S0(w:ah)(rb:Nat)(r:Rd)(hr:eZ w rb r)(hl:r.b.length≤1000000000)(most:Nat)(hm:most≤1000)(HG:0<most→FO):
  an prog 136 #[.p rb,.i most] w (Ni w rb r most):=by
 have hrb:=hr.lt;obtain⟨w1,hw1,dB,hs1,fS⟩:=dX w [.B,.z,.n,.I,.F,.F,.n] 35;have kP:=hr.below dB;have hl1:(r.take 1).b.length≤1000000000:=aa (Rd.gS _ _) hl;have HL:=cD (cC hl1 (aa (Rd.sr (r.take 1) 64) hl1));have HW:=cD (cC hw1 (cC dB kP));have HGG:=cD (cC hl (cC hm HG));have fm:Hid (cG 35 7):=cD cJ;clear hr hw1 fS dB hl hl1 kP HG hm;go_enter func136,ntmps136
 go_wp2_with fail
 rw[←HW.out.1];go_cut [5] (fun bv wc=>YE w1 rb r.jy r.leaf bv wc)
 case first=>
  refine rT fun wd hd=>?_
  refine tI 0 rfl trivial ?_;refine tI 2 rfl trivial ?_;refine tI 5 rfl trivial ?_;refine tI 7 rfl trivial ?_;simp only[cR];refine tI 9 rfl trivial ?_;refine tI 11 rfl trivial ?_;simp only[cR];have H0:Hid (sQ w1 wd rb r none none 0 [] none 0 []):=cD ⟨HW.out.2.2.below hd,dA hd,(fun bb e=>by cases e),IL _ _,IL _ _,by omega⟩;clear hd;refine jR 1 14 rfl rfl cJ cN cN _ _ (by go_simp<;>first|rfl|exact⟨rfl,rfl⟩) (.p (aP _ |>.size)) (aM _ (.cells #[.B,.z,.n,.I,.F,.F,.n] 35)) (by go_simp<;>first|rfl|exact⟨rfl,rfl⟩) ?_ (trivial) ?_
  rotate_left
  simp only[cR];have H0:=cD H0.out.alloc
  rotate_right
  all_goals try refine cI 1 rfl ?_
  all_goals refine(EC _ rb _ H0.out.rd).mono ?_
  all_goals rintro e W1 ⟨rfl,g1,g2⟩
  all_goals have H1:=cD (H0.out.call g1 g2)
  all_goals refine⟨trivial,?_⟩
  all_goals try dsimp only
  all_goals simp only[cR]
  all_goals clear g1 g2 H0
  refine jR 3 14 rfl rfl cJ cN cN _ _ (by go_simp<;>first|rfl|exact⟨rfl,rfl⟩) (.p (aP _ |>.size)) (aM _ (.cells #[.B,.z,.n,.I,.F,.F,.n] 35)) (by go_simp<;>first|rfl|exact⟨rfl,rfl⟩) ?_ (trivial) ?_
  rotate_left
  simp only[cR];have H1:=cD H1.out.alloc
  rotate_right
  all_goals try refine cI 3 rfl ?_
  all_goals refine(vS _ rb _ H1.out.rd HL.out.1 64 cL).mono ?_
  all_goals rintro e W2 ⟨pa,pc,rfl,gd,g1,g2⟩
  all_goals have H2:=cD (H1.out.cW g1 g2 gd)
  all_goals refine⟨trivial,?_⟩
  all_goals try dsimp only
  all_goals simp only[cR]
  all_goals clear g1 g2 gd H1
  all_goals refine NC (S':=fun w'=>dW w' (fun b=>b≠rb) pa pc (r.take 1).lz) (fun _ _=>trivial) _ _ _ _ ?_
  all_goals have hS:=H2.out.dp.mono (lo':=fun b=>b≠rb) (fun b _ hb=>hb.1)
  all_goals have y2:∀w',dW w' (fun b=>b≠rb) pa pc (r.take 1).lz→(convert 32 9 (.slice pa (r.take 1).lz.length pc)).run prog w'=.ok (.string (bs (r.take 1).lz)) w':=fun w' hd=>rL hd.cS hd.nil
  all_goals refine tJ 4 rfl hS (fun w' h=>y2 w' h) ?_
  all_goals simp only[cR]
  all_goals clear y2 hS
  refine jR 6 14 rfl rfl cJ cN cN _ _ (by go_simp<;>first|rfl|exact⟨rfl,rfl⟩) (.p (aP _ |>.size)) (aM _ (.cells #[.B,.z,.n,.I,.F,.F,.n] 35)) (by go_simp<;>first|rfl|exact⟨rfl,rfl⟩) ?_ ((H2.out.alloc.dp.mono (fun b _ hb=>hb.1))) ?_
  rotate_left
  simp only[cR];have H2:=cD H2.out.alloc
  rotate_right
  all_goals try refine cI 6 rfl ?_
  all_goals refine(vS _ rb _ H2.out.rd HL.out.2 64 cL).mono ?_
  all_goals rintro e W3 ⟨da,dc,rfl,gd,g1,g2⟩
  all_goals have H3:=cD (H2.out.data g1 g2 gd)
  all_goals refine⟨(H3.out.dp.mono (fun b _ hb=>hb.1)),?_⟩
  all_goals try dsimp only
  all_goals simp only[cR]
  all_goals clear g1 g2 gd H2
  refine jR 8 14 rfl rfl cJ cN cN _ _ (by go_simp<;>first|rfl|exact⟨rfl,rfl⟩) (.p (aP _ |>.size)) (aM _ (.cells #[.B,.z,.n,.I,.F,.F,.n] 35)) (by go_simp<;>first|rfl|exact⟨rfl,rfl⟩) ?_ ((H3.out.alloc.dp.mono (fun b _ hb=>hb.1))) ?_
  rotate_left
  simp only[cR];have H3:=cD H3.out.alloc
  rotate_right
  all_goals try refine cI 8 rfl ?_
  all_goals refine(Rr _ rb _ H3.out.rd).mono ?_
  all_goals rintro e W4 ⟨rfl,g1,g2⟩
  all_goals have H4:=cD (H3.out.call g1 g2)
  all_goals refine⟨(H4.out.dp.mono (fun b _ hb=>hb.1)),?_⟩
  all_goals try dsimp only
  all_goals simp only[cR]
  all_goals clear g1 g2 H3
  refine jR 10 14 rfl rfl cJ cN cN _ _ (by go_simp<;>first|rfl|exact⟨rfl,rfl⟩) (.p (aP _ |>.size)) (aM _ (.cells #[.B,.z,.n,.I,.F,.F,.n] 35)) (by go_simp<;>first|rfl|exact⟨rfl,rfl⟩) ?_ ((H4.out.alloc.dp.mono (fun b _ hb=>hb.1))) ?_
  rotate_left
  simp only[cR];have H4:=cD H4.out.alloc
  rotate_right
  all_goals try refine cI 10 rfl ?_
  all_goals refine(Bh _ rb _ H4.out.rd).mono ?_
  all_goals rintro e W5 ⟨rfl,g1,g2⟩
  all_goals have H5:=cD (H4.out.call g1 g2)
  all_goals refine⟨(H5.out.dp.mono (fun b _ hb=>hb.1)),?_⟩
  all_goals try dsimp only
  all_goals simp only[cR]
  all_goals clear g1 g2 H4
  refine jR 12 14 rfl rfl cJ cN cN _ _ (by go_simp<;>first|rfl|exact⟨rfl,rfl⟩) (.p (aP _ |>.size)) (aM _ (.cells #[.B,.z,.n,.I,.F,.F,.n] 35)) (by go_simp<;>first|rfl|exact⟨rfl,rfl⟩) ?_ ((H5.out.alloc.dp.mono (fun b _ hb=>hb.1))) ?_
  rotate_left
  simp only[cR];have H5:=cD H5.out.alloc
  rotate_right
  all_goals try refine cI 12 rfl ?_
  all_goals refine(Bh _ rb _ H5.out.rd).mono ?_
  all_goals rintro e W6 ⟨rfl,g1,g2⟩
  all_goals have H6:=cD (H5.out.call g1 g2)
  all_goals refine⟨(H6.out.dp.mono (fun b _ hb=>hb.1)),?_⟩
  all_goals try dsimp only
  all_goals simp only[cR]
  all_goals clear g1 g2 H5
  all_goals refine tI 13 rfl (H6.out.dp.mono (fun b _ hb=>hb.1)) ?_
  all_goals simp only[cR]
  refine gI 14 rfl (.p (aP _ |>.size)) (aM _ (.cells #[.B,.z,.n,.I,.F,.F,.n] 35)) (H6.out.alloc.dp.mono (fun b _ hb=>hb.1)) ?_;simp only[cR];have H6:=cD H6.out.alloc
  all_goals have gG:Hid ((#[.b r.jy.kind,.s r.jy.cW,.slice da r.jy.data.length dc,.i r.jy.gW,.bool r.jy.seq,.bool r.jy.mV,.n]:Array aA).all (·.oneCell')=true):=cD (by simp[aj])
  all_goals refine sI 15 rfl 35 (.tmp 5) (.tmp 19) _ 0 #[.b r.jy.kind,.s r.jy.cW,.slice da r.jy.data.length dc,.i r.jy.gW,.bool r.jy.seq,.bool r.jy.mV,.n] (eE (H6.out.bx _ rfl).1 cM) fm.out gG.out ((H6.out.dp.kept (kE _ _ _) (fun b hb _ e=>hb.2 (congrArg some (Eq.symm e)))).mono (fun b _ hb=>hb.1)) ?_
  all_goals simp only[cR]
  all_goals refine aG cJ ?_ _
  all_goals have HX:=cD (sQ.box (x:=r.jy) H6.out)
  all_goals clear H6
  all_goals go_wp2_with fail
  all_goals (go_meet;case rel=>exact HX.out)
 case rest=>
 obtain⟨bb,a,c,rfl,gQ,jt,hR,hK,hD⟩:=hcut;obtain⟨w4,lP⟩:=cF wc;subst lP;have HLO:=cD (G2 w4 rb _ hR (aa (Rd.EU r) HGG.out.1) most HGG.out.2.1 HGG.out.2.2);have H4:=cD (cC gQ (cC hR (cC hK hD)));clear gQ hR hK hD;go_wp2_with fail
 refine HLO.out.mono ?_;rintro e w5 ⟨v,L,rfl,ho,h1,h2⟩;obtain⟨x,hx⟩:=cF r.jy;obtain⟨qa,qc,rfl,hrow⟩:=J4 ho.1;have Jc:=aO H4.out.1;have Cv:=(h2.block bb Jc (fun e=>by have e:bb=rb:=e;omega)).trans H4.out.1;have hD:=H4.out.2.2.2;rw[←hx] at Cv hD;have c6:w5.cell? ⟨bb,6,none⟩=some (.n):=aX _ _ 6 _ 35 (0,0) Cv;have f6:w5.frozen? ⟨bb,6,none⟩=false:=by simp[aW,Cv]
 obtain⟨w6,mU⟩:=cF (w5.setCell ⟨bb,6,none⟩ (.slice qa L.length qc));have K6:cQ (·=bb) w5 w6:=by rw[mU];exact cQ.setCell (S:=(·=bb)) (p:=⟨bb,6,none⟩) (cQ.refl _ w5) rfl _
 have Ff:w6.heap[bb]?=some (.cells #[.b x.kind,.s x.cW,.slice a x.data.length c,.i x.gW,.bool x.seq,.bool x.mV,.slice qa L.length qc] 35 (0,0)):=by rw[mU];simp[bh,aV,Cv]
 have Jd:cQ (·=rb) w1 w6:=(H4.out.2.2.1.trans h2).sM K6 jt;have hd6:dW w6 (fun b=>w1.heap.size≤b) a c x.data:=((hD.kept h2 (fun b hb _ e=>by have:=hb.1;have e:b=rb:=e;omega)).kept K6 (fun b hb _ e=>hb.2 e)).mono (fun b _ hb=>hb.1);have aii:=H4.out.2.2.1.size;have adZ:nQ w6 (fun b=>w1.heap.size≤b) L (Rd.GD (r.leaf.count most) (r.leaf.dY most)):=(ho.2.1.dZ K6 (fun b hb _ e=>by have:=hb.2;have e:b=bb:=e;omega)).both (fun b hb _=>by have:=hb.2;omega);have DC:∀(k:Nat) y,L[k]?=some y→∃g,qa=some ⟨g,0,none⟩∧w1.heap.size≤g∧g<w6.heap.size∧w6.rangeAt g (k*7) y.cells:=fun k y hy=>by
  obtain⟨g,e1,e2,e3,e4⟩:=hrow k y hy;exact⟨g,e1,by omega,aF e3 K6.size,fun j u hu=>(K6.cell (p:=⟨g,k*7+j,none⟩) e3 (fun e=>by have e:g=bb:=e;omega)).trans (e4 j u hu)⟩
 have nT:=cD (dJ Ff);have HT:Hid (w6.there w.heap.size 0 7):=cD (lK HW.out.1 Jd (fun e=>by have e:w.heap.size=rb:=e;omega));have gG:Hid ((#[.b x.kind,.s x.cW,.slice a x.data.length c,.i x.gW,.bool x.seq,.bool x.mV,.slice qa L.length qc]:Array aA).all (·.oneCell')=true):=cD (by simp[aj]);have H6:=cD (cC (h1.kept K6 (fun b hb e=>by have e:b=bb:=e;omega)) (cC Jd (cC hd6 (cC adZ (cC DC ho.2.2)))));have Ef:=cD (cC mU hx);clear h1 h2 Cv mU K6 Ff Jd hd6 adZ DC hrow ho hD hx aii Jc;go_wp2_with (first
  |(rw[←Ef.out.1];refine ag rfl 35 (.tmp 5) rfl bb 0 rfl [.b x.kind,.s x.cW,.slice a x.data.length c,.i x.gW,.bool x.seq,.bool x.mV,.slice qa L.length qc] _ nT.out underlying35 rfl fm.out ?_)
  |(refine aB rfl 35 (.tmp 4) (.tmp 24) rfl w.heap.size 0 #[.b x.kind,.s x.cW,.slice a x.data.length c,.i x.gW,.bool x.seq,.bool x.mV,.slice qa L.length qc] rfl rfl HT.out fm.out gG.out ?_))
 refine aL (dz rfl _ _ w.heap.size 0 [.b x.kind,.s x.cW,.slice a x.data.length c,.i x.gW,.bool x.seq,.bool x.mV,.slice qa L.length qc] _ rfl (ay _ _ _ _ HT.out) underlying35 rfl fm.out) rfl ?_;have K:=kE w6 w.heap.size [.b x.kind,.s x.cW,.slice a x.data.length c,.i x.gW,.bool x.seq,.bool x.mV,.slice qa L.length qc];obtain⟨g1,g2,g3,g4,g5,g6⟩:=H6.out;have hne:∀b,w1.heap.size≤b→¬b=w.heap.size:=fun b hb e=>by omega
 unfold Ni;rw[←Ef.out.2];refine⟨⟨x.kind,x.cW,a,x.data.length,c,x.gW,x.seq,x.mV,qa,L.length,qc⟩,L,rfl,⟨rfl,rfl,rfl,rfl,rfl,rfl,((g3.kept K (fun b hb _ e=>hne b hb e)).mono (lo':=fU w.heap.size) (fun b _ hb=>by have hb:w1.heap.size≤b:=hb;show w.heap.size≤b;omega)).cS,g3.nil⟩,rfl,(g4.dZ K (fun b hb _ e=>hne b hb e)).both (fun b hb _=>by have hb:w1.heap.size≤b:=hb;show w.heap.size≤b;omega),fun k y hy=>?_,fun e=>?_,g1.kept K (fun b hb e=>by have e:b=w.heap.size:=e;omega),((dA HW.out.2.1).trans g2).sM K (aq _)⟩
 ·obtain⟨g,e1,e2,e3,e4⟩:=g5 k y hy
  exact⟨g,e1,by omega,aF e3 K.size,fun j u hu=>(K.cell (p:=⟨g,k*7+j,none⟩) e3 (fun e=>hne g e2 e)).trans (e4 j u hu)⟩
 have:=g6 e;simp at this;exact⟨this.1,this.2.2⟩
theorem SX:FO:=fun w rb r hr hl=>by
 have hrb:=hr.lt;obtain⟨w1,hw1,dB,hs1,fS⟩:=dX w [.B,.z,.n,.I,.F,.F,.n] 35;have HO:=cD (S0 w1 rb r (hr.below dB) hl 0 cL (fun h=>absurd h (Nat.lt_irrefl 0)));have HW:=cD (cC hw1 dB);have fm:Hid (cG 35 7):=cD cJ;have h00:((0:Nat):Int)=0:=rfl;rw[h00] at HO;clear hr hw1 fS dB hl h00;go_enter func233,ntmps233
 go_wp2_with fail
 rw[←HW.out.1];refine HO.out.mono ?_;rintro e w2 ⟨⟨ok,op,oa,on,oc,ov,os,oe,qa,qn,qc⟩,L,rfl,h1,h2,h3,h4,h5,h6,h7⟩;have hc0:r.leaf.count 0=0:=by unfold Rd.count;split<;>omega
 rw[hc0] at h3 h6;have hL:L=[]:=aN h3.1;subst hL;obtain⟨rfl,rfl⟩:=h5 rfl;have h2:qn=0:=h2;subst h2;unfold di.val di.cells;dsimp only;have HT:Hid (w2.there w.heap.size 0 7):=cD (lK HW.out.1 h7 (fun e=>by have e:w.heap.size=rb:=e;omega));have gG:Hid ((#[.b ok,.s op,.slice oa on oc,.i ov,.bool os,.bool oe,.n]:Array aA).all (·.oneCell')=true):=cD (by simp[aj]);have H2:=cD (cC h1 (cC h6 h7));clear h1 h3 h4 h5 h6 h7 hc0;go_wp2_with (refine aB rfl 35 (.tmp 2) (.tmp 4) rfl w.heap.size 0 #[.b ok,.s op,.slice oa on oc,.i ov,.bool os,.bool oe,.n] rfl rfl HT.out fm.out gG.out ?_)
 refine aL (dz rfl _ _ w.heap.size 0 [.b ok,.s op,.slice oa on oc,.i ov,.bool os,.bool oe,.n] _ rfl (ay _ _ _ _ HT.out) underlying35 rfl fm.out) rfl ?_;have K:=kE w2 w.heap.size [.b ok,.s op,.slice oa on oc,.i ov,.bool os,.bool oe,.n];exact⟨⟨ok,op,oa,on,oc,ov,os,oe,none,0,0⟩,rfl,(H2.out.1.dZ K (fun b hb _ e=>by have hb:w1.heap.size≤b:=hb;have e:b=w.heap.size:=e;omega)).both (fun b hb _=>by have hb:w1.heap.size≤b:=hb;show w.heap.size≤b;omega),⟨rfl,rfl,rfl⟩,H2.out.2.1.kept K (fun b hb e=>by have e:b=w.heap.size:=e;omega),((dA HW.out.2).trans H2.out.2.2).sM K (aq _)⟩
def ou(s:Int):Bool:=decide (0≤s)&&decide (s<3)
theorem yw(w:ah)(s n:Int):an prog 132 #[.agg #[.i s,.u n]] w fun e w'=>e=.returned (.bool (ou s))∧cE w w':=by
 unfold ou;obtain⟨w1,hw1,dB,hs1,fS⟩:=dX w [.i s,.u n] 31;obtain⟨b0,t0⟩:∃b0,decide ((0:Int)≤s)=b0:=⟨_,rfl⟩;obtain⟨b1,t1⟩:∃b1,decide (s<(3:Int))=b1:=⟨_,rfl⟩;rw[t0,t1];have HW:=cD (cC hw1 dB);clear hw1 dB hs1 fS;cases b0 with
 |false=>
  go_enter func132,ntmps132
  go_wp2
  go_ret
  rw[←HW.out.1];exact⟨rfl,HW.out.2⟩
 |true=>
 cases b1 with
 |false=>
  go_enter func132,ntmps132
  go_wp2
  go_ret
  rw[←HW.out.1];exact⟨rfl,HW.out.2⟩
 |true=>
 go_enter func132,ntmps132
 go_wp2
 go_ret
 rw[←HW.out.1];exact⟨rfl,HW.out.2⟩
def FX(d:Nd):Bool:=decide (d.data.length=0)&&(decide (d.num.gW=0)&&(decide (d.num.BV=0)&&(decide (d.num.next=0)&&(iq d.num.os d.num.on&&(decide (d.num.made=0)&&(decide (d.num.CI=0)&&decide (d.num.Ch=0)))))))
theorem Yr(x:Int):(x==0)=decide (x=0):=by by_cases h:x=0<;>simp[h]
theorem QI(w:ah)(r:Raw)(d:Nd)(hn:r.num=d.num)(hd:r.n=d.data.length):an prog 178 #[r.val] w fun e w'=>e=.returned (.bool (FX d))∧cE w w':=by
 obtain⟨da,dn,dc,⟨q1,q2,q3,q4,q5,q6,q7,q8⟩⟩:=r;obtain⟨D,q⟩:=d;dsimp only at hn hd;subst hn;unfold FX;dsimp only;rw[←hd];unfold Raw.val Raw.cells eU.cells;dsimp only;obtain⟨w1,hw1,dB,hs1,fS⟩:=dX w [.slice da dn dc,.u q1,.u q2,.u q3,.i q4,.u q5,.v q6,.v q7,.v q8] 44;obtain⟨b0,hb0⟩:∃b0,decide (dn=0)=b0:=⟨_,rfl⟩;have t0:((dn:Int)==0)=b0:=by rw[←hb0];by_cases h:dn=0<;>simp[h]
 have t0':(dn==0)=b0:=by rw[←hb0];by_cases h:dn=0<;>simp[h]
 obtain⟨b1,aaz⟩:∃b,decide (q1=0)=b:=⟨_,rfl⟩;have t1:(q1==0)=b1:=(Yr q1).trans aaz;obtain⟨b2,dI⟩:∃b,decide (q2=0)=b:=⟨_,rfl⟩;have t2:(q2==0)=b2:=(Yr q2).trans dI;obtain⟨b3,eO⟩:∃b,decide (q3=0)=b:=⟨_,rfl⟩;have t3:(q3==0)=b3:=(Yr q3).trans eO;obtain⟨b5,jz⟩:∃b,decide (q6=0)=b:=⟨_,rfl⟩;have t5:(q6==0)=b5:=(Yr q6).trans jz;obtain⟨b6,uE⟩:∃b,decide (q7=0)=b:=⟨_,rfl⟩;have t6:(q7==0)=b6:=(Yr q7).trans uE;obtain⟨b7,nY⟩:∃b,decide (q8=0)=b:=⟨_,rfl⟩;have t7:(q8==0)=b7:=(Yr q8).trans nY;obtain⟨b4,hb4⟩:∃b,iq q4 q5=b:=⟨_,rfl⟩;have t4:=fun W:ah=>Mj q4 q5 W
 rw[hb4] at t4;rw[hb0,aaz,dI,eO,hb4,jz,uE,nY];have HW:=cD (cC hw1 dB);have fm:Hid (cG 31 2):=cD cJ;have hrs:w1.rangeAt w.heap.size 4 [.i q4,.u q5]:=fun j u hu=>by
  have h1:=fS w1 (aC _ _) (4+j) u (by rcases(show j=0∨j=1 by have:=(aD.1 hu).1;simp at this;omega) with rfl|rfl<;>exact hu);rw[aT] at h1;exact h1
 have Jm:=cD hrs;clear hw1 dB hs1 fS hrs hd hb0 aaz dI eO hb4 jz uE nY;cases b0 with
 |false=>
  go_enter func178,ntmps178
  go_wp2_with (rw[←HW.out.1];refine ag rfl 31 (.tmp 23) rfl w.heap.size 4 rfl [.i q4,.u q5] _ Jm.out underlying31 rfl fm.out ?_)
  go_ret
  try rw[←HW.out.1]
  exact⟨rfl,HW.out.2⟩
 |true=>
 cases b1 with
 |false=>
  go_enter func178,ntmps178
  go_wp2_with (rw[←HW.out.1];refine ag rfl 31 (.tmp 23) rfl w.heap.size 4 rfl [.i q4,.u q5] _ Jm.out underlying31 rfl fm.out ?_)
  go_ret
  try rw[←HW.out.1]
  exact⟨rfl,HW.out.2⟩
 |true=>
 cases b2 with
 |false=>
  go_enter func178,ntmps178
  go_wp2_with (rw[←HW.out.1];refine ag rfl 31 (.tmp 23) rfl w.heap.size 4 rfl [.i q4,.u q5] _ Jm.out underlying31 rfl fm.out ?_)
  go_ret
  try rw[←HW.out.1]
  exact⟨rfl,HW.out.2⟩
 |true=>
 cases b3 with
 |false=>
  go_enter func178,ntmps178
  go_wp2_with (rw[←HW.out.1];refine ag rfl 31 (.tmp 23) rfl w.heap.size 4 rfl [.i q4,.u q5] _ Jm.out underlying31 rfl fm.out ?_)
  go_ret
  try rw[←HW.out.1]
  exact⟨rfl,HW.out.2⟩
 |true=>
 cases b4 with
 |false=>
  go_enter func178,ntmps178
  go_wp2_with (rw[←HW.out.1];refine ag rfl 31 (.tmp 23) rfl w.heap.size 4 rfl [.i q4,.u q5] _ Jm.out underlying31 rfl fm.out ?_)
  go_ret
  try rw[←HW.out.1]
  exact⟨rfl,HW.out.2⟩
 |true=>
 cases b5 with
 |false=>
  go_enter func178,ntmps178
  go_wp2_with (rw[←HW.out.1];refine ag rfl 31 (.tmp 23) rfl w.heap.size 4 rfl [.i q4,.u q5] _ Jm.out underlying31 rfl fm.out ?_)
  go_ret
  try rw[←HW.out.1]
  exact⟨rfl,HW.out.2⟩
 |true=>
 cases b6 with
 |false=>
  go_enter func178,ntmps178
  go_wp2_with (rw[←HW.out.1];refine ag rfl 31 (.tmp 23) rfl w.heap.size 4 rfl [.i q4,.u q5] _ Jm.out underlying31 rfl fm.out ?_)
  go_ret
  try rw[←HW.out.1]
  exact⟨rfl,HW.out.2⟩
 |true=>
 cases b7 with
 |false=>
  go_enter func178,ntmps178
  go_wp2_with (rw[←HW.out.1];refine ag rfl 31 (.tmp 23) rfl w.heap.size 4 rfl [.i q4,.u q5] _ Jm.out underlying31 rfl fm.out ?_)
  go_ret
  try rw[←HW.out.1]
  exact⟨rfl,HW.out.2⟩
 |true=>
 go_enter func178,ntmps178
 go_wp2_with (rw[←HW.out.1];refine ag rfl 31 (.tmp 23) rfl w.heap.size 4 rfl [.i q4,.u q5] _ Jm.out underlying31 rfl fm.out ?_)
 go_ret
 try rw[←HW.out.1]
 exact⟨rfl,HW.out.2⟩
def gV(w:ah)(K:Nat)(a:Option aJ)(cs:List (List aA)):Prop:=∀(k:Nat) c,cs[k]?=some c→∃b off,a=some ⟨b,off,none⟩∧b<w.heap.size∧w.rangeAt b (off+k*K) c∧c.length=K
theorem gV.below{w w':ah}{K:Nat}{a:Option aJ}{cs:List (List aA)}(h:gV w K a cs)(hb:cE w w'):gV w' K a cs:=fun k c hk=>by
 obtain⟨b,off,h1,h2,h3,h4⟩:=h k c hk;exact⟨b,off,h1,aF h2 hb.size,dR h3 hb h2,h4⟩
section
theorem ZP(w:ah){a:Option aJ}{n c:Nat}{cs:List (List aA)}(hc:gV w 11 a cs)(hn:n=cs.length)(hl:n≤1000000000)(cv:aA)(bad:Nat→Bool)
  (HF:∀W,cE w W→∀(k:Nat) x,cs[k]?=some x→an prog 177 #[.agg x.toArray,cv] W fun e w'=>e=.returned (.bool (bad k))∧cE W w'):
  an prog 254 #[.slice a n c,.func (.func 177) #[] #[cv]] w fun e w'=>∃i:Int,e=.returned (.i i)∧decide (0≤i)=(au n).any bad∧cE w w':=by
 have HD:=cD (cC hc (cC hn HF));have fm:Hid (cG 93 11):=cD cJ;clear hc hn HF;go_enter func254,ntmps254
 go_wp2
 go_loopw [8] (fun kv wr=>∃k:Nat,k≤n∧kv=.i k∧Hid ((au k).any bad=false∧cE w wr)) (fun kv _=>n - (intOf kv).toNat)
 case atStart=>exact⟨0,by omega,rfl,cD ⟨rfl,aC _ _⟩⟩
 obtain⟨k,hk,rfl,HS⟩:=hrel;by_cases hlt:k<n
 ·obtain⟨x,hx⟩:∃x,cs[k]?=some x:=⟨_,aS (by rw[←HD.out.2.1];exact hlt)⟩
  obtain⟨b,off,hao,hb,fS,hlen⟩:=HD.out.1 k x hx;subst hao;have nT:=cD (cC (dR fS HS.out.2 hb) hlen);have HC:=cD (HD.out.2.2 wr HS.out.2 k x hx);obtain⟨g,hg⟩:=cF (bad k);have HG:=cD hg;rw[←hg] at HC;clear fS hb hx hlen hg;go_wp2_with (refine ag rfl 93 (.tmp 14) rfl b (off+k*11) rfl x _ nT.out.1 underlying93 rfl (by rw[nT.out.2];exact fm.out) ?_)
  refine HC.out.mono ?_;rintro e w2 ⟨rfl,h1⟩;have H2:=cD (HS.out.2.trans (h1.mono HS.out.2.size));clear h1;cases g with
  |true=>
   have HB:Hid (decide ((0:Int)≤(k:Int))=(au n).any bad):=cD (by
    rw[List.any_eq_true.2 ⟨k,List.mem_range.2 hlt,HG.out.symm⟩];simp)
   go_wp2
   go_ret
   exact⟨k,rfl,HB.out,H2.out⟩
  |false=>
  have HB:Hid ((au (k+1)).any bad=false):=cD (by
   rw[List.range_succ,List.any_append,HS.out.1];simp[←HG.out])
  go_wp2
  go_roundw
  case rel=>exact⟨k+1,by omega,by go_num,cD ⟨HB.out,H2.out⟩⟩
  case measure=>simp[intOf];omega
 obtain rfl:n=k:=by omega
 have t1:decide ((n:Int)<(n:Int))=false:=by simp
 have t2:decide (n<n)=false:=by simp
 clear hlt hk;go_wp2
 go_ret
 exact⟨-1,rfl,by rw[HS.out.1];rfl,HS.out.2⟩
theorem PK(w:ah){a:Option aJ}{n c:Nat}{cs:List (List aA)}(hc:gV w 11 a cs)(hn:n=cs.length)(hl:n≤1000000000)(cv:aA)(bad:Nat→Bool)
  (HF:∀W,cE w W→∀(k:Nat) x,cs[k]?=some x→an prog 177 #[.agg x.toArray,cv] W fun e w'=>e=.returned (.bool (bad k))∧cE W w'):
  an prog 176 #[.slice a n c,.func (.func 177) #[] #[cv]] w fun e w'=>e=.returned (.bool ((au n).any bad))∧cE w w':=by
 have HI:=cD (ZP w (c:=c) hc hn hl cv bad HF);obtain⟨g,hg⟩:=cF ((au n).any bad);rw[←hg] at HI⊢;clear hc hn hl HF hg;go_enter func176,ntmps176
 go_wp2_with fail
 refine HI.out.mono ?_;rintro e w2 ⟨i,rfl,h0,h1⟩;have H1:=cD h1;clear h1;go_wp2
 go_ret
 exact⟨rfl,H1.out⟩
theorem ajD(w:ah){a:Option aJ}{n c:Nat}{cs:List (List aA)}(hc:gV w 11 a cs)(hn:n=cs.length)(hl:n≤1000000000)(most:Nat)(may:Nat→Bool)
  (HF:∀W,cE w W→∀(k:Nat) x,cs[k]?=some x→n≤most→an prog 69 #[.agg x.toArray] W fun e w'=>e=.returned (.bool (may k))∧cE W w'):
  an prog 68 #[.slice a n c,.i most,.func (.func 69) #[] #[]] w fun e w'=>e=.returned (.bool (decide (n≤most)&&!(au n).any (fun k=>!may k)))∧cE w w':=by
 obtain⟨w1,hw1,dB,hs1,fS⟩:=dX w [.func (.func 69) #[] #[]] 152;have HW:=cD (cC hw1 dB);have fm:Hid (cG 93 11):=cD cJ;have HA1:Hid (n≤most→∀W,cE w1 W→∀(k:Nat) x,cs[k]?=some x→an prog 177 #[.agg x.toArray,.p w.heap.size] W fun e w'=>e=.returned (.bool (!may k))∧cE W w'):=cD (fun hnm W hW k x hx=>by
  obtain⟨b,off,_,_,_,hlen⟩:=hc k x hx;have hfn:W.cell? ⟨w.heap.size,0,none⟩=some (.func (.func 69) #[] #[]):=fS W hW 0 _ rfl;obtain⟨wb,Cr,jt,hsb,hrb⟩:=dX W x 93;have HC:=cD (HF wb (dB.trans ((hW.trans (jt.mono hW.size)).mono dB.size)) k x hx hnm);have HX:=cD (cC (hrb wb (aC _ _)) (cC Cr (cC jt hlen)));have aal:wb.cell? ⟨w.heap.size,0,none⟩=some (.func (.func 69) #[] #[]):=(jt.cell (p:=⟨w.heap.size,0,none⟩) (aH _ _ hfn)).trans hfn;rw[Cr] at aal;obtain⟨g,hg⟩:=cF (may k);rw[←hg] at HC⊢;clear hc HF hrb Cr jt hsb hlen hx hg hfn fS hW dB hw1 hn hnm;go_enter func177,ntmps177
  go_wp2_with (rw[←HX.out.2.1];refine ag rfl 93 (.tmp 2) rfl W.heap.size 0 rfl x _ HX.out.1 underlying93 rfl (by rw[HX.out.2.2.2];exact fm.out) ?_)
  refine HC.out.mono ?_;rintro e w2 ⟨rfl,h1⟩;have H1:=cD (HX.out.2.2.1.trans (h1.mono HX.out.2.2.1.size));clear h1;go_wp2
  go_ret
  exact⟨rfl,H1.out⟩)
 have Xu:=cD (hc.below dB);have HN:=cD hn;clear hc hn HF hw1 dB hs1 fS;by_cases hnm:n≤most
 ·have t1:decide ((n:Int)≤(most:Int))=true:=by simp;omega
  have t2:decide (n≤most)=true:=by simpa using hnm
  rw[t2,Bool.true_and];have HCO:=cD (PK w1 (c:=c) Xu.out HN.out hl (.p w.heap.size) (fun k=>!may k) (HA1.out hnm));obtain⟨g,hg⟩:=cF ((au n).any (fun k=>!may k));rw[←hg] at HCO⊢;clear hnm hg;go_enter func68,ntmps68
  go_wp2_with fail
  rw[←HW.out.1];refine HCO.out.mono ?_;rintro e w2 ⟨rfl,h1⟩;have H1:=cD (HW.out.2.trans (h1.mono HW.out.2.size));clear h1;go_wp2
  go_ret
  exact⟨rfl,H1.out⟩
 have t1:decide ((n:Int)≤(most:Int))=false:=by simp;omega
 have t2:decide (n≤most)=false:=by simpa using hnm
 rw[t2,Bool.false_and];clear hnm;go_enter func68,ntmps68
 go_wp2
 go_ret
 rw[←HW.out.1];exact⟨rfl,HW.out.2⟩
end
section
theorem ZO(w:ah){a:Option aJ}{n c:Nat}{cs:List (List aA)}(hc:gV w 7 a cs)(hn:n=cs.length)(hl:n≤1000000000)(cv:aA)(bad:Nat→Bool)
  (HF:∀W,cE w W→∀(k:Nat) x,cs[k]?=some x→an prog 284 #[.agg x.toArray,cv] W fun e w'=>e=.returned (.bool (bad k))∧cE W w'):
  an prog 314 #[.slice a n c,.func (.func 284) #[] #[cv]] w fun e w'=>∃i:Int,e=.returned (.i i)∧decide (0≤i)=(au n).any bad∧cE w w':=by
 have HD:=cD (cC hc (cC hn HF));have fm:Hid (cG 35 7):=cD cJ;clear hc hn HF;go_enter func314,ntmps314
 go_wp2
 go_loopw [8] (fun kv wr=>∃k:Nat,k≤n∧kv=.i k∧Hid ((au k).any bad=false∧cE w wr)) (fun kv _=>n - (intOf kv).toNat)
 case atStart=>exact⟨0,by omega,rfl,cD ⟨rfl,aC _ _⟩⟩
 obtain⟨k,hk,rfl,HS⟩:=hrel;by_cases hlt:k<n
 ·obtain⟨x,hx⟩:∃x,cs[k]?=some x:=⟨_,aS (by rw[←HD.out.2.1];exact hlt)⟩
  obtain⟨b,off,hao,hb,fS,hlen⟩:=HD.out.1 k x hx;subst hao;have nT:=cD (cC (dR fS HS.out.2 hb) hlen);have HC:=cD (HD.out.2.2 wr HS.out.2 k x hx);obtain⟨g,hg⟩:=cF (bad k);have HG:=cD hg;rw[←hg] at HC;clear fS hb hx hlen hg;go_wp2_with (refine ag rfl 35 (.tmp 14) rfl b (off+k*7) rfl x _ nT.out.1 underlying35 rfl (by rw[nT.out.2];exact fm.out) ?_)
  refine HC.out.mono ?_;rintro e w2 ⟨rfl,h1⟩;have H2:=cD (HS.out.2.trans (h1.mono HS.out.2.size));clear h1;cases g with
  |true=>
   have HB:Hid (decide ((0:Int)≤(k:Int))=(au n).any bad):=cD (by
    rw[List.any_eq_true.2 ⟨k,List.mem_range.2 hlt,HG.out.symm⟩];simp)
   go_wp2
   go_ret
   exact⟨k,rfl,HB.out,H2.out⟩
  |false=>
  have HB:Hid ((au (k+1)).any bad=false):=cD (by
   rw[List.range_succ,List.any_append,HS.out.1];simp[←HG.out])
  go_wp2
  go_roundw
  case rel=>exact⟨k+1,by omega,by go_num,cD ⟨HB.out,H2.out⟩⟩
  case measure=>simp[intOf];omega
 obtain rfl:n=k:=by omega
 have t1:decide ((n:Int)<(n:Int))=false:=by simp
 have t2:decide (n<n)=false:=by simp
 clear hlt hk;go_wp2
 go_ret
 exact⟨-1,rfl,by rw[HS.out.1];rfl,HS.out.2⟩
theorem PJ(w:ah){a:Option aJ}{n c:Nat}{cs:List (List aA)}(hc:gV w 7 a cs)(hn:n=cs.length)(hl:n≤1000000000)(cv:aA)(bad:Nat→Bool)
  (HF:∀W,cE w W→∀(k:Nat) x,cs[k]?=some x→an prog 284 #[.agg x.toArray,cv] W fun e w'=>e=.returned (.bool (bad k))∧cE W w'):
  an prog 283 #[.slice a n c,.func (.func 284) #[] #[cv]] w fun e w'=>e=.returned (.bool ((au n).any bad))∧cE w w':=by
 have HI:=cD (ZO w (c:=c) hc hn hl cv bad HF);obtain⟨g,hg⟩:=cF ((au n).any bad);rw[←hg] at HI⊢;clear hc hn hl HF hg;go_enter func283,ntmps283
 go_wp2_with fail
 refine HI.out.mono ?_;rintro e w2 ⟨i,rfl,h0,h1⟩;have H1:=cD h1;clear h1;go_wp2
 go_ret
 exact⟨rfl,H1.out⟩
theorem ajC(w:ah){a:Option aJ}{n c:Nat}{cs:List (List aA)}(hc:gV w 7 a cs)(hn:n=cs.length)(hl:n≤1000000000)(most:Nat)(may:Nat→Bool)
  (HF:∀W,cE w W→∀(k:Nat) x,cs[k]?=some x→n≤most→an prog 235 #[.agg x.toArray] W fun e w'=>e=.returned (.bool (may k))∧cE W w'):
  an prog 234 #[.slice a n c,.i most,.func (.func 235) #[] #[]] w fun e w'=>e=.returned (.bool (decide (n≤most)&&!(au n).any (fun k=>!may k)))∧cE w w':=by
 obtain⟨w1,hw1,dB,hs1,fS⟩:=dX w [.func (.func 235) #[] #[]] 295;have HW:=cD (cC hw1 dB);have fm:Hid (cG 35 7):=cD cJ;have HA1:Hid (n≤most→∀W,cE w1 W→∀(k:Nat) x,cs[k]?=some x→an prog 284 #[.agg x.toArray,.p w.heap.size] W fun e w'=>e=.returned (.bool (!may k))∧cE W w'):=cD (fun hnm W hW k x hx=>by
  obtain⟨b,off,_,_,_,hlen⟩:=hc k x hx;have hfn:W.cell? ⟨w.heap.size,0,none⟩=some (.func (.func 235) #[] #[]):=fS W hW 0 _ rfl;obtain⟨wb,Cr,jt,hsb,hrb⟩:=dX W x 35;have HC:=cD (HF wb (dB.trans ((hW.trans (jt.mono hW.size)).mono dB.size)) k x hx hnm);have HX:=cD (cC (hrb wb (aC _ _)) (cC Cr (cC jt hlen)));have aal:wb.cell? ⟨w.heap.size,0,none⟩=some (.func (.func 235) #[] #[]):=(jt.cell (p:=⟨w.heap.size,0,none⟩) (aH _ _ hfn)).trans hfn;rw[Cr] at aal;obtain⟨g,hg⟩:=cF (may k);rw[←hg] at HC⊢;clear hc HF hrb Cr jt hsb hlen hx hg hfn fS hW dB hw1 hn hnm;go_enter func284,ntmps284
  go_wp2_with (rw[←HX.out.2.1];refine ag rfl 35 (.tmp 2) rfl W.heap.size 0 rfl x _ HX.out.1 underlying35 rfl (by rw[HX.out.2.2.2];exact fm.out) ?_)
  refine HC.out.mono ?_;rintro e w2 ⟨rfl,h1⟩;have H1:=cD (HX.out.2.2.1.trans (h1.mono HX.out.2.2.1.size));clear h1;go_wp2
  go_ret
  exact⟨rfl,H1.out⟩)
 have Xu:=cD (hc.below dB);have HN:=cD hn;clear hc hn HF hw1 dB hs1 fS;by_cases hnm:n≤most
 ·have t1:decide ((n:Int)≤(most:Int))=true:=by simp;omega
  have t2:decide (n≤most)=true:=by simpa using hnm
  rw[t2,Bool.true_and];have HCO:=cD (PJ w1 (c:=c) Xu.out HN.out hl (.p w.heap.size) (fun k=>!may k) (HA1.out hnm));obtain⟨g,hg⟩:=cF ((au n).any (fun k=>!may k));rw[←hg] at HCO⊢;clear hnm hg;go_enter func234,ntmps234
  go_wp2_with fail
  rw[←HW.out.1];refine HCO.out.mono ?_;rintro e w2 ⟨rfl,h1⟩;have H1:=cD (HW.out.2.trans (h1.mono HW.out.2.size));clear h1;go_wp2
  go_ret
  exact⟨rfl,H1.out⟩
 have t1:decide ((n:Int)≤(most:Int))=false:=by simp;omega
 have t2:decide (n≤most)=false:=by simpa using hnm
 rw[t2,Bool.false_and];clear hnm;go_enter func234,ntmps234
 go_wp2
 go_ret
 rw[←HW.out.1];exact⟨rfl,HW.out.2⟩
end
theorem Rd.oZ(r:Rd):r.eH<4294967296:=by unfold Rd.eH;split<;>omega
theorem QJ:tH L1:=⟨⟨by decide,by decide⟩,⟨by decide,by decide⟩,⟨by decide,by decide⟩,⟨by decide,by decide⟩,⟨by decide,by decide⟩,⟨by decide,by decide⟩,⟨by decide,by decide⟩⟩
theorem rZ(r:Rd):wD ((r.eH:Nat):Int):=⟨by omega,by have:=r.oZ;omega⟩
theorem Em(r:Rd):Ji ((r.num 8:Nat):Int):=⟨by omega,by have:=r.On;omega⟩
theorem Rd.RG(r:Rd):tH r.yu.num:=⟨rZ _,rZ _,rZ _,rZ _,Em _,Em _,Em _⟩
theorem Rd.Md:∀(k:Nat) (r:Rd),(Rd.skip k r).b.length≤r.b.length
 |0,_=>aq _
 |k+1,r=>aa (Rd.gS _ _) (Rd.Md k r)
theorem Rd.Ab(r:Rd):r.de.b.length≤r.b.length:=aa (Rd.Md _ _) (Rd.lH _ _)
theorem yM{w:ah}{base:Nat}{v:aA}{L:List dr}(h:w.ownsRow base 93 11 v L.length (L.flatMap dr.cells)):∃a c,v=.slice a L.length c∧gH w w.heap.size a L∧(∀ad,a=some ad→base≤ad.block)∧(a=none→c=0):=by
 rcases h.2 with ⟨h1,h0⟩|⟨g,cap,cur,h1,yG,hg,_⟩
 ·have:L=[]:=aN h0
  subst this;exact⟨none,0,h1,fun k r hk=>by simp at hk,(fun ad e=>by cases e),fun _=>rfl⟩
 refine⟨some ⟨g,0,none⟩,cap,h1,fun k r hk=>⟨g,0,rfl,(h.lt g (by rw[h1];rfl)).2,fun j u hu=>?_⟩,(fun ad e=>by cases e;exact(h.lt g (by rw[h1];rfl)).1),(fun e=>by cases e)⟩;have:=h.cells (g:=g) (by rw[h1];rfl) (k*11+j) u (vW L k r hk j u hu);rw[Addr.add_lit] at this;rw[show 0+k*11+j=0+(k*11+j) by omega];exact this
structure ez(w:ah)(lo:Nat→Prop)(r:ei)(L:List dr)(x:fW):Prop where
 de:dK w lo r.sa x.de
 like:ff w lo L x.dF
 row:gH w w.heap.size r.ea L
 new:∀ad,r.ea=some ad→lo ad.block
theorem ez.below{w1 w2:ah}{lo:Nat→Prop}{r:ei}{L:List dr}{x:fW}(h:ez w1 lo r L x)(hb:cE w1 w2):ez w2 lo r L x:=⟨h.de.below hb,h.like.below hb,(h.row.below hb).mono hb.size,h.new⟩
theorem ez.mono{w1:ah}{lo lo':Nat→Prop}{r:ei}{L:List dr}{x:fW}(h:ez w1 lo r L x)(hl:∀b,lo b→lo' b):ez w1 lo' r L x:=⟨h.de.mono (fun b _ hb=>hl b hb),h.like.both (fun b hb _=>hl b hb),h.row,fun ad e=>hl _ (h.new ad e)⟩
theorem ez.kept{w1 w2:ah}{lo:Nat→Prop}{r:ei}{L:List dr}{x:fW}{S:Nat→Prop}(h:ez w1 lo r L x)(hk:cQ S w1 w2)(hS:∀b,lo b→¬S b):ez w2 lo r L x:=by
 refine⟨h.de.kept hk (fun b hb _=>hS b hb),h.like.dZ hk hS,fun k q hq=>?_,h.new⟩;obtain⟨b,off,e1,e2,e3⟩:=h.row k q hq;exact⟨b,off,e1,aF e2 hk.size,fun j v hv=>(hk.cell (p:=⟨b,off+k*11+j,none⟩) e2 (hS b (h.new _ e1))).trans (e3 j v hv)⟩
def Rd.qB(r:Rd):fW:=
 let r0:=r.place 3;let r1:=r0.take 8;let r2:=r1.dO (-1);let r3:=r2.take 8;let r4:=r3.de;let r5:=Rd.rJ (r4.count 16) (r4.dY 16)
 ⟨(r.gL 3:Nat),r0.num 8,r1.nX (-1),r2.num 8,r3.nj,Rd.qj (r4.count 16) (r4.dY 16),r5.eH⟩
def Rd.item(r:Rd):Rd:=
 let r4:=(((r.place 3).take 8).dO (-1)).take 8 |>.de;(Rd.rJ (r4.count 16) (r4.dY 16)).small
theorem S9(w:ah)(rb:Nat)(r:Rd)(hr:eZ w rb r)(hl:r.b.length≤1000000000):
  an prog 141 #[.p rb] w fun e w'=>∃q L,e=.returned (eW r.qB q)∧ez w' (fU w.heap.size) q L r.qB∧eZ w' rb r.item∧cQ (·=rb) w w':=by
 have hrb:=hr.lt;obtain⟨w1,hw1,dB,hs1,fS⟩:=dX w [.I,.V,.I,.V,.n,.n,.U] 40;have HP:=cD (sC w1 rb r (hr.below dB) 3 cL);have HW:=cD (cC hw1 dB);unfold Rd.qB Rd.item;dsimp only;have Jc:((((((r.place 3).take 8).dO (-1)).take 8).de)).b.length≤1000000000:=aa (Rd.Ab _) (aa (Rd.gS _ _) (aa (Rd.JU _ _) (aa (Rd.gS _ _) (aa (Rd.lW _ _) hl))));obtain⟨r0,Ib⟩:=cF (r.place 3);rw[←Ib] at HP Jc⊢;obtain⟨v0,Qm⟩:=cF (r.gL 3);rw[←Qm] at HP⊢;have HL4:=cD Jc;have fm:Hid (cG 40 7):=cD cJ;clear hr Ib Qm hw1 fS dB hl Jc;go_enter func141,ntmps141
 go_wp2_with fail
 rw[←HW.out.1];refine HP.out.mono ?_;rintro e w2 ⟨rfl,h1,h2⟩;have H2:=cD (cC h1 h2);clear h1 h2;go_wp2_with fail
 refine(lN w2 rb r0 H2.out.1).mono ?_;rintro e w3 ⟨rfl,h1,h2⟩;have H3:=cD (cC h1 (H2.out.2.trans h2));clear h1 h2 H2;go_wp2_with fail
 refine(Bg w3 rb _ H3.out.1 (-1)).mono ?_;rintro e w4 ⟨rfl,h1,h2⟩;have H4:=cD (cC h1 (H3.out.2.trans h2));clear h1 h2 H3;go_wp2_with fail
 refine(lN w4 rb _ H4.out.1).mono ?_;rintro e w5 ⟨rfl,h1,h2⟩;have H5:=cD (cC h1 (H4.out.2.trans h2));clear h1 h2 H4;go_wp2_with fail
 refine(DL w5 rb _ H5.out.1).mono ?_;rintro e w6 ⟨sa,sn,sc,rfl,h0,h1,h2⟩;obtain⟨w7,pI,nY,Wl,hr7⟩:=dX w6 [.i (v0:Int),.v (r0.num 8:Nat),.i ((r0.take 8).nX (-1)),.v (((r0.take 8).dO (-1)).num 8:Nat),.slice sa sn sc,.n,.U] 40;have H6:=cD (cC h1 (cC (H5.out.2.trans h2) (cC h0 (H5.out.2.size))));have Jj:=cD (cC pI nY);clear h1 h2 h0 H5 pI nY Wl hr7;go_wp2_with fail
 rw[←Jj.out.1];refine(G3 w7 rb _ (H6.out.1.below Jj.out.2) HL4.out 16 cL).mono ?_;obtain⟨r4,UI⟩:=cF ((((r0.take 8).dO (-1)).take 8).de);rw[←UI];have HR4:=cD UI;clear UI;rintro e w8 ⟨v,L,rfl,ho,h1,h2⟩;obtain⟨ea,ec,rfl,g1,g2,_⟩:=yM ho.1;have WA:w6.heap.size<w7.heap.size:=by rw[Jj.out.1];simp
 have hne:w6.heap.size≠rb:=by have:=H6.out.2.1.size;omega
 have Wx:w8.heap[w6.heap.size]?=some (.cells #[.i (v0:Int),.v (r0.num 8:Nat),.i ((r0.take 8).nX (-1)),.v (((r0.take 8).dO (-1)).num 8:Nat),.slice sa sn sc,.n,.U] 40 (0,0)):=(h2.block _ WA (fun e=>hne e)).trans (by rw[Jj.out.1];exact aK w6 _);have c5:w8.cell? ⟨w6.heap.size,5,none⟩=some (.n):=aX _ _ 5 _ 40 (0,0) Wx;have f5:w8.frozen? ⟨w6.heap.size,5,none⟩=false:=by simp[aW,Wx]
 obtain⟨w9,nH⟩:=cF (w8.setCell ⟨w6.heap.size,5,none⟩ (.slice ea L.length ec));have K9:cQ (·=w6.heap.size) w8 w9:=by rw[nH];exact cQ.setCell (S:=(·=w6.heap.size)) (p:=⟨w6.heap.size,5,none⟩) (cQ.refl _ w8) rfl _
 have aek:w9.heap[w6.heap.size]?=some (.cells #[.i (v0:Int),.v (r0.num 8:Nat),.i ((r0.take 8).nX (-1)),.v (((r0.take 8).dO (-1)).num 8:Nat),.slice sa sn sc,.slice ea L.length ec,.U] 40 (0,0)):=by rw[nH];simp[bh,aV,Wx]
 have UO:cQ (·=rb) w1 w9:=((H6.out.2.1.trans (dA Jj.out.2)).trans h2).sM K9 (by have:=H6.out.2.1.size;omega);have aih:=H6.out.2.2.2;have O5:=H6.out.2.1.size;have hout:ez w9 (fun k=>w1.heap.size≤k∧k≠w6.heap.size) ⟨sa,sc,ea,ec⟩ L ⟨(v0:Int),r0.num 8,(r0.take 8).nX (-1),((r0.take 8).dO (-1)).num 8,(((r0.take 8).dO (-1)).take 8).nj,Rd.qj (r4.count 16) (r4.dY 16),(Rd.rJ (r4.count 16) (r4.dY 16)).eH⟩:=by
  have z0:=(H6.out.2.2.1.2).mono (lo':=fun k=>w1.heap.size≤k∧k≠w6.heap.size) (fun b hb h=>⟨by have h:w5.heap.size≤b:=h;omega,by omega⟩);have z1:=((z0.below Jj.out.2).kept h2 (fun b hb _ e=>by have e:b=rb:=e;have:=hb.1;omega)).kept K9 (fun b hb _ e=>hb.2 e);have z2:ff w8 (fun k=>w1.heap.size≤k∧k≠w6.heap.size) L (Rd.qj (r4.count 16) (r4.dY 16)):=ho.2.both (fun k h _=>⟨by have:=h.2;omega,by have:=h.2;omega⟩);have z3:=z2.dZ K9 (fun b hb e=>hb.2 e);refine⟨z1,z3,fun k q hq=>?_,fun ad e=>⟨by have:=g2 ad e;omega,by have:=g2 ad e;omega⟩⟩;obtain⟨b,off,e1,e2,e3⟩:=g1 k q hq;have nY:=g2 _ e1;exact⟨b,off,e1,aF e2 K9.size,fun j v hv=>(K9.cell (p:=⟨b,off+k*11+j,none⟩) e2 (fun e=>by have e:b=w6.heap.size:=e;have nY:w7.heap.size≤b:=nY;omega)).trans (e3 j v hv)⟩
 obtain⟨u,hu⟩:=cF ((Rd.rJ (r4.count 16) (r4.dY 16)).eH);have UH:=lG w9 rb _ (h1.kept K9 (fun b hb e=>by have e:b=w6.heap.size:=e;omega));rw[←hu] at UH hout;have H9:=cD (cC UH (cC hout (cC UO (cC aek (cC ho.1.1 ho.2.1)))));have Uc:=cD (cC nH hu);have YM:Hid (L.length=(Rd.qj (r4.count 16) (r4.dY 16)).length):=cD ho.2.1;clear ho h1 h2 g1 g2 Wx nH K9 aek UO hout UH hu aih O5;go_wp2_with fail
 rw[←Uc.out.1];refine H9.out.1.mono ?_;rintro e lR ⟨rfl,h1,h2⟩;have MT:=(h2.block w6.heap.size (aO H9.out.2.2.2.1) (fun e=>hne e)).trans H9.out.2.2.2.1;have c6:lR.cell? ⟨w6.heap.size,6,none⟩=some (.U):=aX _ _ 6 _ 40 (0,0) MT;have f6:lR.frozen? ⟨w6.heap.size,6,none⟩=false:=by simp[aW,MT]
 obtain⟨sU,qF⟩:=cF (lR.setCell ⟨w6.heap.size,6,none⟩ (.u (u:Int)));have YH:cQ (·=w6.heap.size) lR sU:=by rw[qF];exact cQ.setCell (S:=(·=w6.heap.size)) (p:=⟨w6.heap.size,6,none⟩) (cQ.refl _ lR) rfl _
 have Yi:sU.heap[w6.heap.size]?=some (.cells #[.i (v0:Int),.v (r0.num 8:Nat),.i ((r0.take 8).nX (-1)),.v (((r0.take 8).dO (-1)).num 8:Nat),.slice sa sn sc,.slice ea L.length ec,.u (u:Int)] 40 (0,0)):=by rw[qF];simp[bh,aV,MT]
 have O5:=H6.out.2.1.size;have aai:cQ (·=rb) w1 sU:=(H9.out.2.2.1.trans h2).sM YH O5;have nT:=cD (dJ Yi);have HT:Hid (sU.there w.heap.size 0 7):=cD (lK HW.out.1 aai (fun e=>by have e:w.heap.size=rb:=e;omega));have gG:Hid ((#[.i (v0:Int),.v (r0.num 8:Nat),.i ((r0.take 8).nX (-1)),.v (((r0.take 8).dO (-1)).num 8:Nat),.slice sa sn sc,.slice ea L.length ec,.u (u:Int)]:Array aA).all (·.oneCell')=true):=cD (by simp[aj]);have Up:=cD (cC (h1.kept YH (fun b hb e=>by have e:b=w6.heap.size:=e;omega)) (cC aai ((H9.out.2.1.kept h2 (fun b hb e=>by have:=hb.1;have e:b=rb:=e;omega)).kept YH (fun b hb e=>hb.2 e))));have I1:=cD qF;clear h1 h2 MT qF YH Yi aai O5;go_wp2_with (first
  |(rw[←I1.out];refine ag rfl 40 (.tmp 3) rfl w6.heap.size 0 rfl [.i (v0:Int),.v (r0.num 8:Nat),.i ((r0.take 8).nX (-1)),.v (((r0.take 8).dO (-1)).num 8:Nat),.slice sa sn sc,.slice ea L.length ec,.u (u:Int)] _ nT.out underlying40 rfl fm.out ?_)
  |(refine aB rfl 40 (.tmp 2) (.tmp 21) rfl w.heap.size 0 #[.i (v0:Int),.v (r0.num 8:Nat),.i ((r0.take 8).nX (-1)),.v (((r0.take 8).dO (-1)).num 8:Nat),.slice sa sn sc,.slice ea L.length ec,.u (u:Int)] rfl rfl HT.out fm.out gG.out ?_))
 refine aL (dz rfl _ _ w.heap.size 0 [.i (v0:Int),.v (r0.num 8:Nat),.i ((r0.take 8).nX (-1)),.v (((r0.take 8).dO (-1)).num 8:Nat),.slice sa sn sc,.slice ea L.length ec,.u (u:Int)] _ rfl (ay _ _ _ _ HT.out) underlying40 rfl fm.out) rfl ?_;have K:=kE sU w.heap.size [.i (v0:Int),.v (r0.num 8:Nat),.i ((r0.take 8).nX (-1)),.v (((r0.take 8).dO (-1)).num 8:Nat),.slice sa sn sc,.slice ea L.length ec,.u (u:Int)];rw[←HR4.out,←Uc.out.2];refine⟨⟨sa,sc,ea,ec⟩,L,?_,(Up.out.2.2.kept K (fun b hb e=>by have:=hb.1;have e:b=w.heap.size:=e;omega)).mono (fun b hb=>by have:=hb.1;show w.heap.size≤b;omega),Up.out.1.kept K (fun b hb e=>by have e:b=w.heap.size:=e;omega),((dA HW.out.2).trans Up.out.2.1).sM K (aq _)⟩;unfold eW cU;dsimp only;rw[←YM.out,←H6.out.2.2.1.1]
def oN(x:gm):Bool:=decide (x.cW.length≤64)&&(decide (x.node.data.length≤64)&&(ou x.node.num.os&&(!x.gone||FX x.node)))
theorem Ke(w:ah)(r:dr)(x:gm){lo:Nat→Prop}(hr:kU w lo r x):an prog 69 #[r.val] w fun e w'=>e=.returned (.bool (oN x))∧cE w w':=by
 obtain⟨rp,rg,⟨da,dn,dc,⟨q1,q2,q3,q4,q5,q6,q7,q8⟩⟩⟩:=r;obtain⟨p,g,⟨D,q⟩⟩:=x;obtain⟨h1,h2,⟨h3,h4,h5,h6⟩⟩:=hr;dsimp only at h1 h2 h3 h4;subst h1 h2 h3;have HZ:=cD fun W:ah=>QI W ⟨da,dn,dc,⟨q1,q2,q3,q4,q5,q6,q7,q8⟩⟩ ⟨D,⟨q1,q2,q3,q4,q5,q6,q7,q8⟩⟩ rfl h4
 unfold oN;dsimp only;rw[←h4];obtain⟨z,hz⟩:=cF (FX ⟨D,⟨q1,q2,q3,q4,q5,q6,q7,q8⟩⟩);rw[←hz] at HZ⊢;unfold Raw.val Raw.cells eU.cells at HZ;dsimp only at HZ;unfold dr.val dr.cells Raw.cells eU.cells;dsimp only[aZ,bg];obtain⟨w1,hw1,dB,hs1,fS⟩:=dX w [.s rp,.bool rg,.slice da dn dc,.u q1,.u q2,.u q3,.i q4,.u q5,.v q6,.v q7,.v q8] 93;have HW:=cD (cC hw1 (cC dB fS));obtain⟨b0,hb0⟩:∃b,decide (rp.length≤64)=b:=⟨_,rfl⟩;have t0:decide (((bs rp).size:Int)≤64)=b0:=by rw[fL,←hb0];by_cases h:rp.length≤64<;>simp[h]<;>omega
 obtain⟨b1,KE⟩:∃b,decide (dn≤64)=b:=⟨_,rfl⟩;have t1:decide ((dn:Int)≤64)=b1:=by rw[←KE];by_cases h:dn≤64<;>simp[h]<;>omega
 rw[hb0,KE];obtain⟨sm,UH⟩:∃b,ou q4=b:=⟨_,rfl⟩;have HS:=cD fun W:ah=>yw W q4 q5
 rw[UH] at HS⊢;have za:Hid (cG 31 2):=cD cJ;have fm:Hid (cG 44 9):=cD cJ;have hrs:w1.rangeAt w.heap.size 6 [.i q4,.u q5]:=fun j u hu=>by
  have h1:=fS w1 (aC _ _) (6+j) u (by rcases(show j=0∨j=1 by have:=(aD.1 hu).1;simp at this;omega) with rfl|rfl<;>exact hu);rw[aT] at h1;exact h1
 have Jm:=cD hrs;rw[hw1] at Jm;clear h4 h5 h6 hz hw1 dB hs1 fS hb0 KE UH hrs;cases b0 with
 |false=>
  go_enter func69,ntmps69
  go_wp2
  go_ret
  rw[←HW.out.1];exact⟨rfl,HW.out.2.1⟩
 |true=>
 cases b1 with
 |false=>
  go_enter func69,ntmps69
  go_wp2
  go_ret
  rw[←HW.out.1];exact⟨rfl,HW.out.2.1⟩
 |true=>
 go_enter func69,ntmps69
 go_wp2_with (refine ag rfl 31 (.tmp 16) rfl w.heap.size 6 rfl [.i q4,.u q5] _ Jm.out underlying31 rfl za.out ?_)
 rw[←HW.out.1];refine(HS.out _).mono ?_;rintro e w2 ⟨rfl,B2⟩;have y1:=HW.out.2.2 w2 B2 1 _ rfl;have y2:=HW.out.2.2 w2 B2 2 _ rfl;have y3:=HW.out.2.2 w2 B2 3 _ rfl;have y4:=HW.out.2.2 w2 B2 4 _ rfl;have y5:=HW.out.2.2 w2 B2 5 _ rfl;have y6:=HW.out.2.2 w2 B2 6 _ rfl;have y7:=HW.out.2.2 w2 B2 7 _ rfl;have y8:=HW.out.2.2 w2 B2 8 _ rfl;have y9:=HW.out.2.2 w2 B2 9 _ rfl;have y10:=HW.out.2.2 w2 B2 10 _ rfl;have iK:=cD (HW.out.2.1.trans (B2.mono HW.out.2.1.size));clear B2;cases sm with
 |false=>
  clear y1 y2 y3 y4 y5 y6 y7 y8 y9 y10;go_wp2
  go_ret
  exact⟨rfl,iK.out⟩
 |true=>
 cases rg with
 |false=>
  clear y2 y3 y4 y5 y6 y7 y8 y9 y10;go_wp2
  go_ret
  exact⟨rfl,iK.out⟩
 |true=>
 simp only[aT] at y1 y2 y3 y4 y5 y6 y7 y8 y9 y10;go_wp2_with fail
 refine(HZ.out _).mono ?_;rintro e w3 ⟨rfl,B3⟩;have mQ:=cD (iK.out.trans (B3.mono iK.out.size));clear B3;go_wp2
 go_ret
 exact⟨rfl,mQ.out⟩
def qz(r:di)(most:Nat)(may:Nat→Bool):Bool:=decide (r.cW.length≤64)&&(decide (r.dn≤64)&&(decide (r.pn≤most)&&!(au r.pn).any (fun k=>!may k)))
theorem RV(w:ah)(r:di)(cs:List (List aA))(hc:gV w 7 r.pa cs)(hn:r.pn=cs.length)(hl:r.pn≤1000000000)(most:Nat)(may:Nat→Bool)
  (HF:∀W,cE w W→∀(k:Nat) x,cs[k]?=some x→r.pn≤most→an prog 235 #[.agg x.toArray] W fun e w'=>e=.returned (.bool (may k))∧cE W w'):
  an prog 138 #[r.val,.i most] w fun e w'=>e=.returned (.bool (qz r most may))∧cE w w':=by
 obtain⟨rk,rp,da,dn,dc,rv,rs,re,pa,pn,pc⟩:=r;dsimp only at hc hn hl HF;unfold qz;dsimp only;unfold di.val di.cells;dsimp only;obtain⟨w1,hw1,dB,hs1,fS⟩:=dX w [.b rk,.s rp,.slice da dn dc,.i rv,.bool rs,.bool re,.slice pa pn pc] 35;have HA:=cD (ajC w1 (c:=pc) (hc.below dB) hn hl most may (fun W hW k x hx hm=>HF W (dB.trans (hW.mono dB.size)) k x hx hm));have HW:=cD (cC hw1 dB);obtain⟨z,hz⟩:=cF ((decide (pn≤most)&&!(au pn).any (fun k=>!may k)));rw[←hz] at HA⊢;obtain⟨b0,hb0⟩:∃b,decide (rp.length≤64)=b:=⟨_,rfl⟩;have t0:decide (((bs rp).size:Int)≤64)=b0:=by rw[fL,←hb0];by_cases h:rp.length≤64<;>simp[h]<;>omega
 obtain⟨b1,KE⟩:∃b,decide (dn≤64)=b:=⟨_,rfl⟩;have t1:decide ((dn:Int)≤64)=b1:=by rw[←KE];by_cases h:dn≤64<;>simp[h]<;>omega
 rw[hb0,KE];clear hc hn hl HF hz hw1 dB hs1 fS hb0 KE;cases b0 with
 |false=>
  go_enter func138,ntmps138
  go_wp2
  go_ret
  rw[←HW.out.1];exact⟨rfl,HW.out.2⟩
 |true=>
 cases b1 with
 |false=>
  go_enter func138,ntmps138
  go_wp2
  go_ret
  rw[←HW.out.1];exact⟨rfl,HW.out.2⟩
 |true=>
 go_enter func138,ntmps138
 go_wp2_with fail
 rw[←HW.out.1];refine HA.out.mono ?_;rintro e w2 ⟨rfl,h1⟩;have H1:=cD (HW.out.2.trans (h1.mono HW.out.2.size));clear h1;go_wp2
 go_ret
 exact⟨rfl,H1.out⟩
theorem VT(w:ah)(r:di)(cs:List (List aA))(hc:gV w 7 r.pa cs)(hn:r.pn=cs.length)(hl:r.pn≤1000000000):
  an prog 235 #[r.val] w fun e w'=>e=.returned (.bool (qz r 0 (fun _=>true)))∧cE w w':=by
 obtain⟨w1,hw1,dB,hs1,fS⟩:=dX w r.cells 35;have HA:=cD (RV w1 r cs (hc.below dB) hn hl 0 (fun _=>true) (fun W hW k x hx hm=>by
  have:=(aD.1 hx).1;omega))
 have HW:=cD (cC hw1 dB);obtain⟨z,hz⟩:=cF (qz r 0 (fun _=>true));rw[←hz] at HA⊢;obtain⟨rk,rp,da,dn,dc,rv,rs,re,pa,pn,pc⟩:=r;unfold di.val di.cells at HA⊢;unfold di.cells at HW;dsimp only at HA HW⊢;clear hc hn hl hz hw1 dB hs1 fS;go_enter func235,ntmps235
 go_wp2_with fail
 rw[←HW.out.1];refine HA.out.mono ?_;rintro e w2 ⟨rfl,h1⟩;have H1:=cD (HW.out.2.trans (h1.mono HW.out.2.size));clear h1;go_wp2
 go_ret
 exact⟨rfl,H1.out⟩
def tX(x:fW):Bool:=decide (0≤x.ew)&&(decide (x.ew<3)&&(decide (-1≤x.dO)&&(decide (x.dO<4)&&(decide (x.de.length≤3)&&(decide (x.dF.length≤16)&&!(au x.dF.length).any (fun k=>!oN (x.dF.getD k ⟨[],false,iQ⟩)))))))
theorem RX(w:ah)(x:fW)(r:ei)(cs:List (List aA))(hc:gV w 11 r.ea cs)(hn:x.dF.length=cs.length)(hl:x.dF.length≤1000000000)
  (HF:∀W,cE w W→∀(k:Nat) c,cs[k]?=some c→an prog 69 #[.agg c.toArray] W fun e w'=>e=.returned (.bool (oN (x.dF.getD k ⟨[],false,iQ⟩)))∧cE W w'):
  an prog 26 #[eW x r] w fun e w'=>e=.returned (.bool (tX x))∧cE w w':=by
 obtain⟨sa,sc,ea,ec⟩:=r;dsimp only at hc;unfold tX eW cU;dsimp only;obtain⟨w1,hw1,dB,hs1,fS⟩:=dX w [.i x.ew,.v (x.seq:Int),.i x.dO,.v (x.ep:Int),.slice sa x.de.length sc,.slice ea x.dF.length ec,.u (x.cl:Int)] 40;have HA:=cD (ajD w1 (c:=ec) (hc.below dB) hn hl 16 (fun k=>oN (x.dF.getD k ⟨[],false,iQ⟩)) (fun W hW k c hx hm=>HF W (dB.trans (hW.mono dB.size)) k c hx));have HW:=cD (cC hw1 dB);obtain⟨z,hz⟩:=cF ((decide (x.dF.length≤16)&&!(au x.dF.length).any (fun k=>!oN (x.dF.getD k ⟨[],false,iQ⟩))));rw[←hz] at HA⊢;obtain⟨en,DG⟩:∃n,n=x.dF.length:=⟨_,rfl⟩;obtain⟨sn,FQ⟩:∃n,n=x.de.length:=⟨_,rfl⟩;rw[←DG] at HA HW;rw[←FQ] at HW⊢;rw[←DG];obtain⟨og,hog⟩:∃n,n=x.ew:=⟨_,rfl⟩;obtain⟨rgn,adw⟩:∃n,n=x.dO:=⟨_,rfl⟩;obtain⟨sq,Kv⟩:∃n:Int,n=x.seq:=⟨_,rfl⟩;obtain⟨ep,sO⟩:∃n:Int,n=x.ep:=⟨_,rfl⟩;obtain⟨cl,hcl⟩:∃n:Int,n=x.cl:=⟨_,rfl⟩;rw[←hog,←adw,←Kv,←sO,←hcl] at HW⊢;obtain⟨b0,t0⟩:∃b,decide ((0:Int)≤og)=b:=⟨_,rfl⟩;obtain⟨b1,t1⟩:∃b,decide (og<(3:Int))=b:=⟨_,rfl⟩;obtain⟨b2,t2⟩:∃b,decide ((-1:Int)≤rgn)=b:=⟨_,rfl⟩;obtain⟨b3,t3⟩:∃b,decide (rgn<(4:Int))=b:=⟨_,rfl⟩;obtain⟨b4,hb4⟩:∃b,decide (sn≤3)=b:=⟨_,rfl⟩;have t4:decide ((sn:Int)≤3)=b4:=by rw[←hb4];by_cases h:sn≤3<;>simp[h]<;>omega
 rw[t0,t1,t2,t3,hb4];clear hc hn hl HF hz hw1 dB hs1 fS hb4 DG FQ hog adw Kv sO hcl;cases b0 with
 |false=>
  go_enter func26,ntmps26
  go_wp2
  go_ret
  rw[←HW.out.1];exact⟨rfl,HW.out.2⟩
 |true=>
 cases b1 with
 |false=>
  go_enter func26,ntmps26
  go_wp2
  go_ret
  rw[←HW.out.1];exact⟨rfl,HW.out.2⟩
 |true=>
 cases b2 with
 |false=>
  go_enter func26,ntmps26
  go_wp2
  go_ret
  rw[←HW.out.1];exact⟨rfl,HW.out.2⟩
 |true=>
 cases b3 with
 |false=>
  go_enter func26,ntmps26
  go_wp2
  go_ret
  rw[←HW.out.1];exact⟨rfl,HW.out.2⟩
 |true=>
 cases b4 with
 |false=>
  go_enter func26,ntmps26
  go_wp2
  go_ret
  rw[←HW.out.1];exact⟨rfl,HW.out.2⟩
 |true=>
 go_enter func26,ntmps26
 go_wp2_with fail
 rw[←HW.out.1];refine HA.out.mono ?_;rintro e w2 ⟨rfl,h1⟩;have H1:=cD (HW.out.2.trans (h1.mono HW.out.2.size));clear h1;go_wp2
 go_ret
 exact⟨rfl,H1.out⟩
variable(w:World)
theorem N4{ao:Option aJ}{nb c:Nat}{B:cO}(hB:BytesIn w ao nb c B)(xb:Nat)(s n:Int)(x3:w.cell? ⟨xb,3,none⟩=some (.i s))(x4:w.cell? ⟨xb,4,none⟩=some (.u n))(hl:B.length≤800000000)(hn:wD n):
  an prog 127 #[.slice ao nb c,.p xb] w (fe w (B++iO s n)):=by
 have HC:=cD (yh w hB hl s n hn);clear hB hl hn;go_enter func127,ntmps127
 go_wp2_with fail
 refine HC.out.mono ?_;rintro e w2 ⟨a,n,c2,rfl,h⟩;have H:=cD h;clear h x3 x4;go_wp2
 go_ret
 exact⟨a,n,c2,rfl,H.out⟩
theorem Vv{ao:Option aJ}{nb c:Nat}{B:cO}(hB:BytesIn w ao nb c B)(xb:Nat)(r:di)(m:Nat)(D:cO)(x5:w.cell? ⟨xb,5,none⟩=some (.b r.kind))(x6:w.cell? ⟨xb,6,none⟩=some (.s r.cW))(x7:w.cell? ⟨xb,7,none⟩=some (.slice r.da r.dn r.dc))(x8:w.cell? ⟨xb,8,none⟩=some (.i r.gW))(x9:w.cell? ⟨xb,9,none⟩=some (.bool r.seq))(x10:w.cell? ⟨xb,10,none⟩=some (.bool r.mV))(x11:w.cell? ⟨xb,11,none⟩=some (.slice r.pa r.pn r.pc))(hr:qJ w m r D)(hl:B.length+D.length≤200000000):
  an prog 133 #[.slice ao nb c,.p xb] w (fe w (B++D)):=by
 have HC:=cD (ED m w ao nb c B r D hB hr hl);unfold di.val di.cells at HC;clear hB hl hr;go_enter func133,ntmps133
 go_wp2_with fail
 refine HC.out.mono ?_;rintro e w2 ⟨a,n,c2,rfl,h⟩;have H:=cD h;clear h x5 x6 x7 x8 x9 x10 x11;go_wp2
 go_ret
 exact⟨a,n,c2,rfl,H.out⟩
theorem N5{ao:Option aJ}{nb c:Nat}{B:cO}(hB:BytesIn w ao nb c B)(xb:Nat)(r:ei)(L:List dr)(x:fW)(x12:w.cell? ⟨xb,12,none⟩=some (.i x.ew))(x13:w.cell? ⟨xb,13,none⟩=some (.v (x.seq:Int)))(x14:w.cell? ⟨xb,14,none⟩=some (.i x.dO))(x15:w.cell? ⟨xb,15,none⟩=some (.v (x.ep:Int)))(x16:w.cell? ⟨xb,16,none⟩=some (.slice r.sa x.de.length r.sc))(x17:w.cell? ⟨xb,17,none⟩=some (.slice r.ea x.dF.length r.ec))(x18:w.cell? ⟨xb,18,none⟩=some (.u (x.cl:Int)))(hx:uy w r L x)(hl:B.length+kF x≤200000000):
  an prog 139 #[.slice ao nb c,.p xb] w (fe w (B++jl x)):=by
 have HC:=cD (Hu w hB r L x hx hl);unfold eW cU at HC;clear hB hl hx;go_enter func139,ntmps139
 go_wp2_with fail
 refine HC.out.mono ?_;rintro e w2 ⟨a,n,c2,rfl,h⟩;have H:=cD h;clear h x12 x13 x14 x15 x16 x17 x18;go_wp2
 go_ret
 exact⟨a,n,c2,rfl,H.out⟩
theorem Rt{ao:Option aJ}{nb c:Nat}{B:cO}(hB:BytesIn w ao nb c B)(xb:Nat)(s:Int)(x19:w.cell? ⟨xb,19,none⟩=some (.i s))(hl:B.length≤900000000):
  an prog 143 #[.slice ao nb c,.p xb] w (fe w (B++dw 1 (s % 256).toNat)):=by
 obtain⟨v,hv,qg,Dz⟩:=ES s;have HWR:IntKind.u8.wrap s=v:=(wrap_u8 s).trans hv;rw[Dz];have HC:=cD (nN w hB hl v qg);clear hB hl hv qg Dz;go_enter func143,ntmps143
 go_wp2_with fail
 refine HC.out.mono ?_;rintro e w2 ⟨a,n,c2,rfl,h⟩;have H:=cD h;clear h x19;go_wp2
 go_ret
 exact⟨a,n,c2,rfl,H.out⟩
theorem NZ{ao:Option aJ}{nb c:Nat}{B:cO}(hB:BytesIn w ao nb c B)(xb:Nat)(s:Int)(x20:w.cell? ⟨xb,20,none⟩=some (.i s))(hl:B.length≤900000000):
  an prog 148 #[.slice ao nb c,.p xb] w (fe w (B++dw 8 (lu s))):=by
 have HC:=cD (vK w hB hl s);clear hB hl;go_enter func148,ntmps148
 go_wp2_with fail
 refine HC.out.mono ?_;rintro e w2 ⟨a,n,c2,rfl,h⟩;have H:=cD h;clear h x20;go_wp2
 go_ret
 exact⟨a,n,c2,rfl,H.out⟩
theorem N6{ao:Option aJ}{nb c:Nat}{B:cO}(hB:BytesIn w ao nb c B)(xb:Nat)(v:Nat)(x21:w.cell? ⟨xb,21,none⟩=some (.v (v:Int)))(hl:B.length≤900000000)(hv:v<18446744073709551616):
  an prog 153 #[.slice ao nb c,.p xb] w (fe w (B++dw 8 v)):=by
 have HC:=cD (iW w hB hl v hv);clear hB hl hv;go_enter func153,ntmps153
 go_wp2_with fail
 refine HC.out.mono ?_;rintro e w2 ⟨a,n,c2,rfl,h⟩;have H:=cD h;clear h x21;go_wp2
 go_ret
 exact⟨a,n,c2,rfl,H.out⟩
theorem JX{ao:Option aJ}{nb c:Nat}{B:cO}(hB:BytesIn w ao nb c B)(xb:Nat){so:Option aJ}{sn sc:Nat}(V:List Nat)(x22:w.cell? ⟨xb,22,none⟩=some (.slice so sn sc))(hV:mP w so sn V)(hl:(B++gw V).length≤800000000):
  an prog 156 #[.slice ao nb c,.p xb] w (fe w (B++gw V)):=by
 have HC:=cD (xh w hB (sc:=sc) hV hl);clear hB hl hV;go_enter func156,ntmps156
 go_wp2_with fail
 refine HC.out.mono ?_;rintro e w2 ⟨a,n,c2,rfl,h⟩;have H:=cD h;clear h x22;go_wp2
 go_ret
 exact⟨a,n,c2,rfl,H.out⟩
theorem OG(xb:Nat)(s n:Int)(x3:w.cell? ⟨xb,3,none⟩=some (.i s))(x4:w.cell? ⟨xb,4,none⟩=some (.u n)):
  an prog 131 #[.p xb] w fun e w'=>e=.returned (.bool (ou s))∧cE w w':=by
 have HC:=cD (yw w s n)
 skip
 go_enter func131,ntmps131
 go_wp2_with fail
 refine HC.out.mono ?_;rintro e w2 ⟨rfl,h⟩;have H:=cD h;clear h x3 x4;go_wp2
 go_ret
 exact⟨rfl,H.out⟩
theorem VS(xb:Nat)(r:di)(cs:List (List aA))(may:Nat→Bool)(x5:w.cell? ⟨xb,5,none⟩=some (.b r.kind))(x6:w.cell? ⟨xb,6,none⟩=some (.s r.cW))(x7:w.cell? ⟨xb,7,none⟩=some (.slice r.da r.dn r.dc))(x8:w.cell? ⟨xb,8,none⟩=some (.i r.gW))(x9:w.cell? ⟨xb,9,none⟩=some (.bool r.seq))(x10:w.cell? ⟨xb,10,none⟩=some (.bool r.mV))(x11:w.cell? ⟨xb,11,none⟩=some (.slice r.pa r.pn r.pc))(hc:gV w 7 r.pa cs)(hn:r.pn=cs.length)(hl:r.pn≤1000000000)
  (HF:∀W,cE w W→∀(k:Nat) x,cs[k]?=some x→r.pn≤6→an prog 235 #[.agg x.toArray] W fun e w'=>e=.returned (.bool (may k))∧cE W w'):
  an prog 137 #[.p xb] w fun e w'=>e=.returned (.bool (qz r 6 may))∧cE w w':=by
 have HC:=cD (RV w r cs hc hn hl 6 may HF);unfold di.val di.cells at HC;obtain⟨z,hz⟩:=cF (qz r 6 may);rw[←hz] at HC⊢;clear hc hn hl HF hz;go_enter func137,ntmps137
 go_wp2_with fail
 refine HC.out.mono ?_;rintro e w2 ⟨rfl,h⟩;have H:=cD h;clear h x5 x6 x7 x8 x9 x10 x11;go_wp2
 go_ret
 exact⟨rfl,H.out⟩
theorem OH(xb:Nat)(x:fW)(r:ei)(cs:List (List aA))(x12:w.cell? ⟨xb,12,none⟩=some (.i x.ew))(x13:w.cell? ⟨xb,13,none⟩=some (.v (x.seq:Int)))(x14:w.cell? ⟨xb,14,none⟩=some (.i x.dO))(x15:w.cell? ⟨xb,15,none⟩=some (.v (x.ep:Int)))(x16:w.cell? ⟨xb,16,none⟩=some (.slice r.sa x.de.length r.sc))(x17:w.cell? ⟨xb,17,none⟩=some (.slice r.ea x.dF.length r.ec))(x18:w.cell? ⟨xb,18,none⟩=some (.u (x.cl:Int)))(hc:gV w 11 r.ea cs)(hn:x.dF.length=cs.length)(hl:x.dF.length≤1000000000)
  (HF:∀W,cE w W→∀(k:Nat) c,cs[k]?=some c→an prog 69 #[.agg c.toArray] W fun e w'=>e=.returned (.bool (oN (x.dF.getD k ⟨[],false,iQ⟩)))∧cE W w'):
  an prog 142 #[.p xb] w fun e w'=>e=.returned (.bool (tX x))∧cE w w':=by
 have HC:=cD (RX w x r cs hc hn hl HF);unfold eW cU at HC;obtain⟨z,hz⟩:=cF (tX x);rw[←hz] at HC⊢;clear hc hn hl HF hz;go_enter func142,ntmps142
 go_wp2_with fail
 refine HC.out.mono ?_;rintro e w2 ⟨rfl,h⟩;have H:=cD h;clear h x12 x13 x14 x15 x16 x17 x18;go_wp2
 go_ret
 exact⟨rfl,H.out⟩
theorem RU(xb:Nat)(s:Int)(x19:w.cell? ⟨xb,19,none⟩=some (.i s)):
  an prog 147 #[.p xb] w fun e w'=>e=.returned (.bool (decide (0≤s)&&decide (s<3)))∧w=w':=by
 obtain⟨b0,t0⟩:∃b,decide ((0:Int)≤s)=b:=⟨_,rfl⟩;obtain⟨b1,t1⟩:∃b,decide (s<(3:Int))=b:=⟨_,rfl⟩;rw[t0,t1];cases b0 with
 |false=>
  go_enter func147,ntmps147
  go_wp2
  go_ret
  exact⟨rfl,rfl⟩
 |true=>
 go_enter func147,ntmps147
 go_wp2
 go_ret
 exact⟨rfl,rfl⟩
theorem OF(xb:Nat)(s:Int)(x20:w.cell? ⟨xb,20,none⟩=some (.i s)):
  an prog 152 #[.p xb] w fun e w'=>e=.returned (.bool (decide (0≤s)&&decide (s<4)))∧w=w':=by
 obtain⟨b0,t0⟩:∃b,decide ((0:Int)≤s)=b:=⟨_,rfl⟩;obtain⟨b1,t1⟩:∃b,decide (s<(4:Int))=b:=⟨_,rfl⟩;rw[t0,t1];cases b0 with
 |false=>
  go_enter func152,ntmps152
  go_wp2
  go_ret
  exact⟨rfl,rfl⟩
 |true=>
 go_enter func152,ntmps152
 go_wp2
 go_ret
 exact⟨rfl,rfl⟩
theorem Kc(xb:Nat)(so:Option aJ)(sn sc:Nat)(x22:w.cell? ⟨xb,22,none⟩=some (.slice so sn sc)):
  an prog 160 #[.p xb] w fun e w'=>e=.returned (.bool (decide (sn≤3)))∧w=w':=by
 obtain⟨b0,hb0⟩:∃b,decide (sn≤3)=b:=⟨_,rfl⟩;have t0:decide ((sn:Int)≤3)=b0:=by rw[←hb0];by_cases h:sn≤3<;>simp[h]<;>omega
 rw[hb0];clear hb0;go_enter func160,ntmps160
 go_wp2
 go_ret
 exact⟨rfl,rfl⟩
end
section
open Go.RowKit Go.Shelf Go.MapKept Go.ChangeMaps
def zF(w:ah)(rb xb o:Nat)(cs:List aA)(r:Rd)(w':ah):Prop:=∃w1,eZ w1 rb r∧cQ (·=rb) w w1∧w'=w1.setCells xb o cs
variable(w:World)(rb xb:Nat)(r:Rd)(hr:eZ w rb r)(hx:rb<xb)(xc:Array Value)(xt:TypeId)(hb:w.heap[xb]?=some (.cells xc xt (0,0)))(hc:xc.size=23)
include hr hx hb hc
theorem lS{w1:ah}(h:cQ (·=rb) w w1)(o m:Nat)(hm:o+m≤23):w1.there xb o m:=
 have _:=hr
 ey (w:=w1) (cs:=xc) (t:=xt) ((h.block xb (by rcases Nat.lt_or_ge xb w.heap.size with h0|h0;exact h0;rw[Array.getElem?_eq_none h0] at hb;cases hb) (fun e=>by have e:xb=rb:=e;omega)).trans hb) o m cK
theorem Pn:an prog 129 #[.p rb,.p xb] w fun e w'=>e=.returned (.tuple #[])∧zF w rb xb 3 r.Gj r.mu w':=by
 have HG:=cD (yI w rb r hr);have HT:=cD (fun w1 (h:cQ (·=rb) w w1)=>lS w rb xb r hr hx xc xt hb hc h 3 2 cL);have fm:Hid (cG 31 2):=cD cJ;unfold Rd.Gj at HG⊢;clear hr hx hb hc;go_enter func129,ntmps129
 go_wp2_with fail
 refine HG.out.mono ?_;rintro e w1 ⟨rfl,h1,h2⟩;have yZ:=cD (HT.out w1 h2);have gG:Hid ((#[.i (r.gL 3:Nat),.u ((r.place 3).eH:Nat)]:Array aA).all (·.oneCell')=true):=cD (by simp[aj]);have H1:=cD (cC h1 h2);clear h1 h2;go_wp2_with (refine aB rfl 31 (.tmp 8) (.tmp 6) rfl xb 3 #[.i (r.gL 3:Nat),.u ((r.place 3).eH:Nat)] rfl rfl yZ.out fm.out gG.out ?_)
 go_end0
 exact⟨rfl,w1,H1.out.1,H1.out.2,rfl⟩
theorem SY:an prog 145 #[.p rb,.p xb] w fun e w'=>e=.returned (.tuple #[])∧zF w rb xb 19 [.i (r.gL 3:Nat)] (r.place 3) w':=by
 have HG:=cD (sC w rb r hr 3 cL);have HT:=cD (fun w1 (h:cQ (·=rb) w w1)=>lS w rb xb r hr hx xc xt hb hc h 19 1 cL 0 cL);clear hr hx hb hc;go_enter func145,ntmps145
 go_wp2_with fail
 refine HG.out.mono ?_;rintro e w1 ⟨rfl,h1,h2⟩;obtain⟨v0,y1⟩:=aE.1 (HT.out w1 h2).1;have y2:=(HT.out w1 h2).2;rw[aU] at y1 y2;have H1:=cD (cC h1 h2);clear h1 h2;go_wp2
 go_end0
 exact⟨rfl,w1,H1.out.1,H1.out.2,rfl⟩
theorem Pm:an prog 150 #[.p rb,.p xb] w fun e w'=>e=.returned (.tuple #[])∧zF w rb xb 20 [.i (r.nX 0)] (r.dO 0) w':=by
 have HG:=cD (Bg w rb r hr 0);have HT:=cD (fun w1 (h:cQ (·=rb) w w1)=>lS w rb xb r hr hx xc xt hb hc h 20 1 cL 0 cL);clear hr hx hb hc;go_enter func150,ntmps150
 go_wp2_with fail
 refine HG.out.mono ?_;rintro e w1 ⟨rfl,h1,h2⟩;obtain⟨v0,y1⟩:=aE.1 (HT.out w1 h2).1;have y2:=(HT.out w1 h2).2;rw[aU] at y1 y2;have H1:=cD (cC h1 h2);clear h1 h2;go_wp2
 go_end0
 exact⟨rfl,w1,H1.out.1,H1.out.2,rfl⟩
theorem Pp:an prog 154 #[.p rb,.p xb] w fun e w'=>e=.returned (.tuple #[])∧zF w rb xb 21 [.v (r.num 8:Nat)] (r.take 8) w':=by
 have HG:=cD (lN w rb r hr);have HT:=cD (fun w1 (h:cQ (·=rb) w w1)=>lS w rb xb r hr hx xc xt hb hc h 21 1 cL 0 cL);clear hr hx hb hc;go_enter func154,ntmps154
 go_wp2_with fail
 refine HG.out.mono ?_;rintro e w1 ⟨rfl,h1,h2⟩;obtain⟨v0,y1⟩:=aE.1 (HT.out w1 h2).1;have y2:=(HT.out w1 h2).2;rw[aU] at y1 y2;have H1:=cD (cC h1 h2);clear h1 h2;go_wp2
 go_end0
 exact⟨rfl,w1,H1.out.1,H1.out.2,rfl⟩
theorem WH(hl:r.b.length≤1000000000):an prog 135 #[.p rb,.p xb] w fun e w'=>e=.returned (.tuple #[])∧∃(q:di) (w1:ah),Ni w rb r 6 (.returned q.val) w1∧w'=w1.setCells xb 5 q.cells:=by
 have HG:=cD (S0 w rb r hr hl 6 cL (fun _=>SX));have HT:=cD (fun w1 (h:cQ (·=rb) w w1)=>lS w rb xb r hr hx xc xt hb hc h 5 7 cL);have fm:Hid (cG 35 7):=cD cJ;clear hr hx hb hc hl;go_enter func135,ntmps135
 go_wp2_with fail
 refine HG.out.mono ?_;rintro e w1 h;obtain⟨q,L,rfl,h3,h4,h5,h6,h7,h8,hk⟩:=h;have H1:=cD (show Ni w rb r 6 (.returned q.val) w1 from⟨q,L,rfl,h3,h4,h5,h6,h7,h8,hk⟩);clear h3 h4 h5 h6 h7 h8;obtain⟨k,p,da,dn,dc,gW,sq,ep,pa,pn,pc⟩:=q;unfold di.val di.cells;dsimp only;have yZ:=cD (HT.out w1 hk);have gG:Hid ((#[.b k,.s p,.slice da dn dc,.i gW,.bool sq,.bool ep,.slice pa pn pc]:Array aA).all (·.oneCell')=true):=cD (by simp[aj]);clear hk;go_wp2_with (refine aB rfl 35 (.tmp 8) (.tmp 6) rfl xb 5 #[.b k,.s p,.slice da dn dc,.i gW,.bool sq,.bool ep,.slice pa pn pc] rfl rfl yZ.out fm.out gG.out ?_)
 go_end0
 exact⟨rfl,⟨k,p,da,dn,dc,gW,sq,ep,pa,pn,pc⟩,w1,H1.out,rfl⟩
theorem Po(hl:r.b.length≤1000000000):an prog 140 #[.p rb,.p xb] w fun e w'=>e=.returned (.tuple #[])∧∃(q:ei) (L:List dr) (w1:ah),ez w1 (fU w.heap.size) q L r.qB∧eZ w1 rb r.item∧cQ (·=rb) w w1∧w'=w1.setCells xb 12 (cU r.qB q):=by
 have HG:=cD (S9 w rb r hr hl);have HT:=cD (fun w1 (h:cQ (·=rb) w w1)=>lS w rb xb r hr hx xc xt hb hc h 12 7 cL);have fm:Hid (cG 40 7):=cD cJ;obtain⟨x,hx2⟩:=cF r.qB;rw[←hx2] at HG⊢;clear hx2;clear hr hx hb hc hl;go_enter func140,ntmps140
 go_wp2_with fail
 refine HG.out.mono ?_;rintro e w1 h;obtain⟨q,L,rfl,h3,h4,hk⟩:=h;have H1:=cD (cC h3 (cC h4 hk));clear h3 h4;obtain⟨sa,sc,ea,ec⟩:=q;unfold eW cU;dsimp only;have yZ:=cD (HT.out w1 hk);have gG:Hid ((#[.i x.ew,.v (x.seq:Int),.i x.dO,.v (x.ep:Int),.slice sa x.de.length sc,.slice ea x.dF.length ec,.u (x.cl:Int)]:Array aA).all (·.oneCell')=true):=cD (by simp[aj]);clear hk;go_wp2_with (refine aB rfl 40 (.tmp 8) (.tmp 6) rfl xb 12 #[.i x.ew,.v (x.seq:Int),.i x.dO,.v (x.ep:Int),.slice sa x.de.length sc,.slice ea x.dF.length ec,.u (x.cl:Int)] rfl rfl yZ.out fm.out gG.out ?_)
 go_end0
 exact⟨rfl,⟨sa,sc,ea,ec⟩,_,w1,H1.out.1,H1.out.2.1,H1.out.2.2,rfl⟩
theorem KH:an prog 158 #[.p rb,.p xb] w fun e w'=>e=.returned (.tuple #[])∧∃a c,∃w1:ah,dK w1 (fU w.heap.size) a r.nj∧eZ w1 rb r.de∧cQ (·=rb) w w1∧w'=w1.setCells xb 22 [.slice a r.nj.length c]:=by
 have HG:=cD (DL w rb r hr);have HT:=cD (fun w1 (h:cQ (·=rb) w w1)=>lS w rb xb r hr hx xc xt hb hc h 22 1 cL 0 cL);clear hr hx hb hc;go_enter func158,ntmps158
 go_wp2_with fail
 refine HG.out.mono ?_;rintro e w1 ⟨a,n,c,rfl,⟨rfl,h0⟩,h1,h2⟩;obtain⟨v0,y1⟩:=aE.1 (HT.out w1 h2).1;have y2:=(HT.out w1 h2).2;rw[aU] at y1 y2;have H1:=cD (cC h0 (cC h1 h2));clear h0 h1 h2;go_wp2
 go_end0
 exact⟨rfl,a,c,w1,H1.out.1,H1.out.2.1,H1.out.2.2,rfl⟩
end
section
open Go.RowKit Go.Shelf Go.MapKept Go.ChangeMaps
theorem KJ(w:ah)(rb xb:Nat)(r:Rd)(hr:eZ w rb r)(hx:rb<xb)(xc:Array aA)(xt:TypeId)(hb:w.heap[xb]?=some (.cells xc xt (0,0)))(hc:xc.size=23):
  an prog 125 #[.p rb,.p xb] w fun e w'=>e=.returned (.tuple #[])∧zF w rb xb 1 [.u (r.eH:Nat),.u (r.small.eH:Nat)] r.small.small w':=by
 have HG:=cD (lG w rb r hr);have HT:=cD (fun w1 (h:cQ (·=rb) w w1)=>lS w rb xb r hr hx xc xt hb hc h 1 2 cL);clear hr hx hb hc;go_enter func125,ntmps125
 go_wp2_with fail
 refine HG.out.mono ?_;rintro e w1 ⟨rfl,h1,h2⟩;have H1:=cD (cC h1 h2);clear h1 h2;go_wp2_with fail
 refine(lG w1 rb r.small H1.out.1).mono ?_;rintro e w2 ⟨rfl,h1,h2⟩;have hk:=H1.out.2.trans h2;obtain⟨v0,y1⟩:=aE.1 (HT.out w2 hk 0 cL).1;have y2:=(HT.out w2 hk 0 cL).2;obtain⟨v1,y3⟩:=aE.1 (HT.out w2 hk 1 cL).1;have y4:=(HT.out w2 hk 1 cL).2;simp only[aU,Nat.reduceAdd] at y1 y2 y3 y4;have H2:=cD (cC h1 hk);clear h1 h2 hk;go_wp2
 go_end0
 exact⟨rfl,w2,H2.out.1,H2.out.2,rfl⟩
theorem JY(w:ah){ao:Option aJ}{nb c:Nat}{B:cO}(hB:BytesIn w ao nb c B)(xb:Nat)(p q:Nat)(x1:w.cell? ⟨xb,1,none⟩=some (.u (p:Int)))(x2:w.cell? ⟨xb,2,none⟩=some (.u (q:Int)))(hl:B.length≤800000000)(hp:p<4294967296)(hq:q<4294967296):
  an prog 123 #[.slice ao nb c,.p xb] w (fe w (B++(dw 8 p++dw 8 q))):=by
 have tk:∀_:True,IntKind.u64.wrap (p:Int)=(p:Int):=fun _=>qM cK
 have tm:∀_:True,IntKind.u64.wrap (q:Int)=(q:Int):=fun _=>qM cK
 have y0:∀w',cE w w'→w'.cell? ⟨xb,1,none⟩=some (.u (p:Int)):=fun w' h=>(h.cell (p:=⟨xb,1,none⟩) (aH _ _ x1)).trans x1
 have y1:∀w',cE w w'→w'.cell? ⟨xb,2,none⟩=some (.u (q:Int)):=fun w' h=>(h.cell (p:=⟨xb,2,none⟩) (aH _ _ x2)).trans x2
 have HB:=cD fun W (h:cE w W)=>iW W (hB.below h) cK p cK
 have HU:=cD fun(W:ah) (a:Option aJ) (n c:Nat) (h:BytesIn W a n c (B++dw 8 p))=>iW W h (by rw[af,dD];omega) q cK
 clear hB hl hp hq x1 x2;go_enter func123,ntmps123
 go_wp2_with fail
 refine rB fun wd hS=>?_
 refine tI 0 rfl hS ?_;refine tI 1 rfl hS ?_;refine tI 2 rfl hS ?_;refine tI 3 rfl hS ?_;simp only[cR];refine tJ 4 rfl hS y0 ?_;refine tI 5 rfl hS ?_;refine tI 7 rfl hS ?_;refine tI 8 rfl hS ?_;simp only[cR];refine tI 9 rfl hS ?_;refine tJ 10 rfl hS y1 ?_;refine tI 11 rfl hS ?_;simp only[cR];refine cI 6 rfl ?_;refine(HB.out _ hS).mono ?_;rintro e w2 ⟨a2,n2,c2,rfl,h2⟩;refine⟨hS.trans (h2.bl.mono hS.size),?_⟩;simp only[cR];refine cI 12 rfl ?_;refine(HU.out _ a2 n2 c2 h2.pH).mono ?_;rintro e w3 ⟨a3,n3,c3,rfl,h3⟩;have b3:=(hS.trans (h2.bl.mono hS.size)).trans (h3.bl.mono (hS.trans (h2.bl.mono hS.size)).size);refine⟨b3,?_⟩;simp only[cR];refine tI 13 rfl b3 ?_;simp only[cR];refine aG cJ ?_ _;have H3:=cD ((h3.trans h2.bl).trans hS);clear h2 h3 b3 hS;go_wp2
 go_ret
 exact⟨a3,n3,c3,rfl,H3.out.cast (aI ..)⟩
end
inductive Pt where|client|owner|op|item|dy|place|epoch|de
 deriving DecidableEq
structure fV where
 kind:Nat
 oE:Nat
 req:Nat
 os:Int
 on:Nat
 op:fh
 parts:List fh
 eu:fW
 dy:Int
 dO:Int
 ep:Nat
 fr:List Nat
def U2:fh:=⟨0,[],[],0,false,false⟩
def mY:fW:=⟨0,0,0,0,[],[],0⟩
def fV.zero(k:Nat):fV:=⟨k,0,0,0,0,U2,[],mY,0,0,0,[]⟩
def Pt.rd:Pt→Rd→Rd
 |.client,r=>r.small.small
 |.owner,r=>r.mu
 |.op,r=>Rd.EM (r.leaf.count 6) (r.leaf.dY 6)
 |.item,r=>r.item
 |.dy,r=>r.place 3
 |.place,r=>r.dO 0
 |.epoch,r=>r.take 8
 |.de,r=>r.de
def Pt.get:Pt→Rd→fV→fV
 |.client,r,x=>{x with oE:=r.eH,req:=r.small.eH}
 |.owner,r,x=>{x with os:=(r.gL 3:Nat),on:=(r.place 3).eH}
 |.op,r,x=>{x with op:=r.jy,parts:=Rd.GD (r.leaf.count 6) (r.leaf.dY 6)}
 |.item,r,x=>{x with eu:=r.qB}
 |.dy,r,x=>{x with dy:=(r.gL 3:Nat)}
 |.place,r,x=>{x with dO:=r.nX 0}
 |.epoch,r,x=>{x with ep:=r.num 8}
 |.de,r,x=>{x with fr:=r.nj}
def fq:Nat→List Pt
 |1=>[.client,.owner,.op]
 |2=>[.client]
 |3=>[.client,.owner]
 |4=>[.item]
 |5=>[.place,.epoch,.de]
 |6=>[.place,.epoch]
 |7=>[.place]
 |8=>[.dy,.place]
 |9=>[.dy,.place,.epoch,.de]
 |_=>[]
def kindOk(k:Nat):Bool:=decide (1≤k)&&decide (k≤9)
theorem De{k:Nat}(h:kindOk k=false):fq k=[]:=by
 unfold kindOk at h;by_cases h1:1≤k
 ·simp[h1] at h
  unfold fq;split<;>first|omega|rfl
 have:k=0:=by omega
 subst this;rfl
def iR(s:Rd×fV)(p:Pt):Rd×fV:=(p.rd s.1,p.get s.1 s.2)
def yl(D:cO):Rd×fV:=(fq ((⟨D,false⟩:Rd).num 1)).foldl iR ((⟨D,false⟩:Rd).take 1,fV.zero ((⟨D,false⟩:Rd).num 1))
def eM(D:cO):fV:=(yl D).2
def kM(D:cO):Bool:=kindOk ((⟨D,false⟩:Rd).num 1)&&decide (Br (yl D).1=0)
structure jA where
 kind:Nat
 oE:Nat
 req:Nat
 os:Int
 on:Nat
 FP:cO
 oP:Bool
 eu:fW
 dy:Int
 dO:Int
 ep:Nat
 fr:List Nat
def Pt.put:Pt→jA→cO
 |.client,x=>dw 8 x.oE++dw 8 x.req
 |.owner,x=>iO x.os x.on
 |.op,x=>x.FP
 |.item,x=>jl x.eu
 |.dy,x=>dw 1 (x.dy % 256).toNat
 |.place,x=>dw 8 (lu x.dO)
 |.epoch,x=>dw 8 x.ep
 |.de,x=>gw x.fr
def Pt.may:Pt→jA→Bool
 |.client,_=>true
 |.owner,x=>ou x.os
 |.op,x=>x.oP
 |.item,x=>tX x.eu
 |.dy,x=>decide (0≤x.dy)&&decide (x.dy<3)
 |.place,x=>decide (0≤x.dO)&&decide (x.dO<4)
 |.epoch,_=>true
 |.de,x=>decide (x.fr.length≤3)
def jg(x:jA):cO:=dw 1 x.kind++(fq x.kind).flatMap (·.put x)
def qN(x:jA):List Int:=[x.kind,x.oE,x.req,x.os,x.on,x.dy,x.dO,Go.RowKit.wrap64 x.ep,x.eu.ew,x.eu.dO]
def pW(x:jA):cO:=(qN x).flatMap (fun v=>dw 8 (lu v))++x.FP++gw x.fr++jl x.eu
def XC(o:fh)(ps:List fh):cO:=opHead o++(dw 8 ps.length++ps.flatMap fun p=>opHead p++(dw 8 0++[]))
def fV.x(v:fV):jA:=⟨v.kind,v.oE,v.req,v.os,v.on,XC v.op v.parts,true,v.eu,v.dy,v.dO,v.ep,v.fr⟩
def OI(x:jA):Bool:=kindOk x.kind&&!(fq x.kind).any (fun p=>!p.may x)
def Am(x y:jA):Bool:=decide (pW x=pW y)
def Cl(x:jA):Int:=if OI x=false then 1 else if kM (jg x)=false∨Am x (eM (jg x)).x=false then 1 else if 4096<(jg x).length then 3 else 0
def zJ(x:jA):cO:=if Cl x=0 then jg x else []
def mF(D:cO):Bool:=kM D&&decide (D.length≤4096)
theorem EE{x:jA}(h:Cl x=0):OI x=true∧mF (zJ x)=true∧pW x=pW (eM (zJ x)).x∧zJ x=jg x:=by
 have hd:zJ x=jg x:=by unfold zJ;rw[if_pos h]
 rw[hd];unfold Cl at h;split at h
 ·cases h
 rename_i h1
 split at h
 ·cases h
 rename_i h2
 split at h
 ·cases h
 rename_i h3
 have h4:¬kM (jg x)=false:=fun e=>h2 (.inl e)
 have h5:¬Am x (eM (jg x)).x=false:=fun e=>h2 (.inr e)
 refine⟨by simpa using h1,?_,?_,rfl⟩
 ·unfold mF
  simp at h4;rw[h4];simp;omega
 unfold Am at h5;simpa using h5
