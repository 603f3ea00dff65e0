/- Part 29. -/
import Derived.Test.YtdpaejbaoefdjaaGreatDoorQ27
import Derived.Test.YtdpaejbaoefdjaaGreatDoorQ23
open Nat renaming le_trans → aa,le_refl → aq,lt_of_lt_of_le → aF,zero_add → aT,add_zero → aU
open List renaming length_append → af,range → au,getElem?_eq_some_iff → aD,append_assoc → aI,eq_nil_of_length_eq_zero → aN,getElem?_append_right → aQ,getElem?_append_left → aR,getElem?_eq_getElem → aS,cons_append → aZ,nil_append → bg,flatMap_append → bq,flatMap_cons → bz
open Go renaming wpList_load_mid → ag,World → ah,Calls → an,Value → aA,wpList_store_mid → aB,wpAnyH_done → aG,Addr → aJ,heap_alloc_new → aK,bodyPost_ret → aL,lt_of_block → aO,cell_of_row → aX
open Go.Value renaming oneCell' → aj
open Go.World renaming rangeAt_setCells_same → ay,block_lt_of_cell? → aH,alloc → aM,heap → aP,frozen? → aW,ownsRow_nil → aY,setCell → bh,size_alloc → bu
open Go.RowKit.Below renaming refl → aC
open Option renaming isSome_iff_exists → aE
open Array renaming getElem?_modify → aV
namespace Go.Proofs.YtdpaejbaoefdjaaGreatDoor
open Go.Proofs.Tryz
set_option maxRecDepth 100000
set_option maxHeartbeats 64000000
set_option linter.unusedVariables false
set_option linter.unusedSimpArgs false
section
open Go.RowKit Go.Shelf Go.MapKept Go.ChangeMaps
theorem jD{wr w5:ah}{row:Option Nat}(hg:wr.grownBy w5 row):Kept (fun k=>row=some k) wr w5:=⟨hg.os,hg.tape,hg.output,hg.size,fun k hk hs=>hg.block k hk (fun e=>hs e.symm)⟩
def Rd.zY:Nat→Rd→List Nat
 |0,_=>[]
 |k+1,r=>Rd.zY k r++[((Nat.repeat (fun x=>Rd.take x 8) k r)).num 8]
def Rd.skip(k:Nat)(r:Rd):Rd:=Nat.repeat (fun x=>Rd.take x 8) k r
theorem Rd.Ip:∀(k:Nat) (r:Rd),(Rd.zY k r).length=k
 |0,_=>rfl
 |k+1,r=>by unfold Rd.zY;rw[af,Rd.Ip k r];rfl
def ng(V:List Nat):List aA:=V.map fun(v:Nat)=>Value.int .u64 (v:Int)
theorem F0:(prog.info? 36).map (fun i=>(i.zero,i.size,i.bytes))=some (some (.V),1,8):=by kernel_rfl
theorem II(w:ah)(rb:Nat)(r:Rd)(hr:eT w rb r)(most:Nat)(hm:most≤1000):
  an prog 241 #[.p rb,.i most,.func (.func 155) #[] #[]] w fun e w'=>∃v,e=.returned v∧w'.ownsRow w.heap.size 36 1 v (r.count most) (ng (Rd.zY (r.count most) (r.dQ most)))∧eT w' rb (Rd.skip (r.count most) (r.dQ most))∧Kept (·=rb) w w':=by
 have HT:=cE (Bb w rb r hr most hm);have hrb:=hr.lt;have hnm:r.count most≤1000:=by unfold Rd.count;split<;>omega
 obtain⟨N,hN⟩:=cG (r.count most);obtain⟨r1,kH⟩:=cG (r.dQ most);rw[←hN,←kH] at HT⊢;rw[←hN] at hnm;obtain⟨i0,xF,hz0,hz1,hz2⟩:=info_parts F0;have HI:=cE (cD xF (cD hz0 (cD hz1 hz2)));clear hr hN kH xF hz0 hz1 hz2;go_enter func241,ntmps241
 go_wp2_with fail
 refine HT.out.mono ?_;rintro e w1 ⟨rfl,h1,h2⟩;have H1:=cE (cD h1 h2);clear h1 h2;go_wp2
 go_loopw [7,11] (fun uv kv wr=>∃k:Nat,k≤N∧kv=.i k∧Hid (wr.ownsRow w.heap.size 36 1 uv k (ng (Rd.zY k r1))∧eT wr rb (Rd.skip k r1)∧Kept (·=rb) w wr)) (fun _ kv _=>N - (intOf kv).toNat)
 case atStart=>exact⟨0,by omega,rfl,cE ⟨aY _ _ _ _,H1.out⟩⟩
 obtain⟨k,hk,rfl,HS⟩:=hrel;by_cases hlt:k<N
 ·have HU:=cE (lM wr rb _ HS.out.2.1)
  obtain⟨V,hV⟩:=cG ((Rd.skip k r1).num 8);have HV:=cE hV;rw[←hV] at HU;clear hV;go_wp2_with fail
  refine HU.out.mono ?_;rintro e w2 ⟨rfl,h1,h2⟩;have hown:=fm HS.out.1 h2 (fun g hg e=>by have:=(HS.out.1.lt g hg).1;have e:g=rb:=e;omega);have hsz:w.heap.size≤w2.heap.size:=aa HS.out.2.2.size h2.size;have H2:=cE (cD hown (cD h1 (HS.out.2.2.trans h2)));clear h1 h2 hown;go_wp2_with (at_builtin;refine ef rfl (.tmp 13) (.tmp 17) 37 rfl w.heap.size 36 i0 (.V) 1 8 underlying37 HI.out.1 HI.out.2.1 HI.out.2.2.1 HI.out.2.2.2 rfl cM _ k _ rfl (H2.out.1.alloc _) ⟨w2.heap.size,0,none⟩ 1 1 [.v (V:Int)] rfl rfl (Am w2 _ _) (by intro u hu;simp at hu;subst hu;rfl) (by unfold maxLen;omega) cL (by simp;omega) ?_;intro v5 w5 hown5 hgrow5 hwh5)
  have Gi:Kept (·=rb) w w5:=(H2.out.2.2.trans (dm (cR (aC _ w2) _))).grown hgrow5 (fun g hg=>.inl (H2.out.1.lt g hg).1);have GN:eT w5 rb (Rd.skip (k+1) r1):=(H2.out.2.1.below (cR (aC _ w2) _)).kept (jD hgrow5) (fun b hb e=>by have:=(H2.out.1.lt b e).1;omega);have hrow:ng (Rd.zY k r1)++[.v (V:Int)]=ng (Rd.zY (k+1) r1):=by
   unfold ng;rw[HV.out,show Rd.zY (k+1) r1=Rd.zY k r1++[(Rd.skip k r1).num 8] from rfl,List.map_append];rfl
  rw[hrow] at hown5;have Sb:=cE (cD hown5 (cD GN Gi));clear hown5 hgrow5 hwh5 Gi GN hrow hsz;go_wp2
  go_roundw
  case rel=>exact⟨k+1,by omega,by go_num,cE Sb.out⟩
  case measure=>simp[intOf];omega
 obtain rfl:N=k:=by omega
 have t1:decide ((N:Int)<(N:Int))=false:=by simp
 have t2:decide (N<N)=false:=by simp
 clear hlt hk;go_wp2
 go_ret
 exact⟨_,rfl,HS.out⟩
theorem Kept.sY{S:Nat→Prop}{w w3 w4:ah}{B:Nat}(h:Kept S w w3)(hk:Kept (·=B) w3 w4)(hB:w.heap.size≤B):Kept S w w4:=
 ⟨hk.os.trans h.os,hk.tape.trans h.tape,hk.output.trans h.output,aa h.size hk.size,fun k hk' hs=>(hk.block k (aF hk' h.size) (fun e=>by have e:k=B:=e;omega)).trans (h.block k hk' hs)⟩
theorem jX(w:ah)(B:Nat)(cs:List aA):Kept (·=B) w (w.setCells B 0 cs):=Kept.setCells (S:=(·=B)) (p:=B) rfl _ 0 (Kept.refl _ w)
theorem lI{w w1 w':ah}{cs:List aA}{t:TypeId}(h:w1=w.alloc (.cells cs.toArray t)){S:Nat→Prop}(hk:Kept S w1 w')(hS:¬S w.heap.size):w'.there w.heap.size 0 cs.length:=by
 refine ei (cs:=cs.toArray) (t:=t) ((hk.block w.heap.size (by rw[h];simp) hS).trans ?_) cN;rw[h];exact aK w _
def adb(w:ah)(rb:Nat)(cs:List aA)(r:Rd)(e:Ending)(w':ah):Prop:=e=.returned (.agg cs.toArray)∧eT w' rb r∧Kept (·=rb) w w'
def Rd.ny(r:Rd):Rd:=(r.place 3).small
def Rd.Hg(r:Rd):List aA:=[.i (r.iu 3:Nat),.u ((r.place 3).eF:Nat)]
theorem zw(w:ah)(rb:Nat)(r:Rd)(hr:eT w rb r):
  an prog 130 #[.p rb] w (adb w rb r.Hg r.ny):=by
 have hrb:=hr.lt;obtain⟨w1,hw1,de,hs1,eW⟩:=dO w [.I,.U] 31;have HP:=cE (sN w1 rb r (hr.below de) 3 cM);have HW:=cE (cD hw1 de);unfold Rd.Hg Rd.ny;obtain⟨v,hv⟩:=cG (r.iu 3);obtain⟨r1,kH⟩:=cG (r.place 3);rw[←hv,←kH] at HP⊢;obtain⟨u,hu⟩:=cG r1.eF;rw[←hu];have HU:=cE hu;have eY:Hid (cH 31 2):=cE cK;clear hr hv kH hw1 eW de hu;go_enter func130,ntmps130
 go_wp2_with fail
 rw[←HW.out.1];refine HP.out.mono ?_;rintro e w2 ⟨rfl,h1,h2⟩;have H2:=cE (cD h1 h2);clear h1 h2;go_wp2_with fail
 refine(lF w2 rb r1 H2.out.1).mono ?_;rintro e w3 ⟨rfl,h3,h4⟩;rw[←HU.out];have abQ:=H2.out.2.trans h4;have HT:Hid (w3.there w.heap.size 0 2):=cE (lI HW.out.1 abQ (fun e=>by have e:w.heap.size=rb:=e;omega));have gu:Hid ((#[.i (v:Int),.u (u:Int)]:Array aA).all (·.oneCell')=true):=cE (by simp[aj]);have H3:=cE (cD h3 abQ);clear h3 h4 abQ;go_wp2_with (refine aB rfl 31 (.tmp 2) (.tmp 7) rfl w.heap.size 0 #[.i (v:Int),.u (u:Int)] rfl rfl HT.out eY.out gu.out ?_)
 refine aL (di rfl _ _ w.heap.size 0 [.i (v:Int),.u (u:Int)] _ rfl (ay _ _ _ _ HT.out) underlying31 rfl eY.out) rfl ?_;have K:=jX w3 w.heap.size [.i (v:Int),.u (u:Int)];exact⟨rfl,H3.out.1.kept K (fun b hb e=>by have e:b=w.heap.size:=e;omega),((dm HW.out.2).trans H3.out.2).sY K (aq _)⟩
def Rd.qh(r:Rd):List Nat:=Rd.zY (r.count 3) (r.dQ 3)
def Rd.stamp(r:Rd):Rd:=Rd.skip (r.count 3) (r.dQ 3)
theorem Rd.Kv(r:Rd):r.qh.length=r.count 3:=Rd.Ip _ _
theorem Rd.Io:∀(k:Nat) (r:Rd),Cu (Rd.zY k r)
 |0,_=>fun v hv=>by cases hv
 |k+1,r=>fun v hv=>by
  unfold Rd.zY at hv;rcases List.mem_append.1 hv with h|h
  ·exact Rd.Io k r v h
  ·simp at h
   subst h;exact Rd.PM _
theorem vF{w:ah}{base n c:Nat}{a:Option aJ}{V:List Nat}(h:w.ownsRow base 36 1 (.slice a n c) n (ng V)):dr w (fQ base) a V∧n=V.length∧(a=none→c=0):=by
 have hn:V.length=n:=by have:=h.1;simp[ng] at this;omega
 refine⟨fun k v hk=>?_,hn.symm,fun e=>?_⟩
 ·rcases h.2 with ⟨h1,h0⟩|⟨g,cap,cur,h1,zn,hg,_⟩
  ·have:=(aD.1 hk).1
   omega
  cases h1;have hx:(ng V)[k]?=some (.v (v:Int)):=by simp[ng,hk]
  have:=h.cells (g:=g) rfl k _ hx;rw[Addr.add_lit] at this;exact⟨g,0,rfl,zn,(Array.getElem?_eq_some_iff.1 hg).1,this⟩
 subst e;rcases h.2 with ⟨h1,h0⟩|⟨g,cap,cur,h1,_⟩
 ·simp at h1
  exact h1.2
 simp at h1
def Vv(w:ah)(rb:Nat)(V:List Nat)(r:Rd)(e:Ending)(w':ah):Prop:=∃a n c,e=.returned (.slice a n c)∧(n=V.length∧dr w' (fQ w.heap.size) a V)∧eT w' rb r∧Kept (·=rb) w w'
theorem EK(w:ah)(rb:Nat)(r:Rd)(hr:eT w rb r):
  an prog 159 #[.p rb] w (Vv w rb r.qh r.stamp):=by
 have HL:=cE (II w rb r hr 3 cM);clear hr;go_enter func159,ntmps159
 go_wp2_with fail
 refine HL.out.mono ?_;rintro e w1 ⟨v,rfl,h1,h2,h3⟩;obtain⟨a,c,rfl⟩:=iA h1;obtain⟨h4,h5,_⟩:=vF h1;have H:=cE (cD (cD h5 h4) (cD h2 h3));clear h1 h2 h3 h4 h5;go_wp2
 go_ret
 exact⟨a,_,c,rfl,H.out⟩
def Rd.Eb(r:Rd):Nd:=
 let r0:=r.text 64;let r1:=r0.small;let r2:=r1.small;let r3:=r2.small;let r4:=r3.ny;let r5:=r4.take 8;let r6:=r5.take 8
 ⟨r.nj,⟨(r0.eF:Nat),(r1.eF:Nat),(r2.eF:Nat),(r3.iu 3:Nat),((r3.place 3).eF:Nat),(r4.num 8:Nat),(r5.num 8:Nat),(r6.num 8:Nat)⟩⟩
def Rd.node(r:Rd):Rd:=((((((((r.text 64).small).small).small).ny).take 8).take 8).take 8)
def GB(w:ah)(rb:Nat)(d:Nd)(r:Rd)(e:Ending)(w':ah):Prop:=∃a c,e=.returned (Raw.val ⟨a,d.data.length,c,d.num⟩)∧dN w' (fQ w.heap.size) a c d.data∧eT w' rb r∧Kept (·=rb) w w'
theorem UA(w:ah)(rb:Nat)(r:Rd)(hr:eT w rb r)(hl:r.b.length≤1000000000):
  an prog 285 #[.p rb] w (GB w rb r.Eb r.node):=by
 have hrb:=hr.lt;obtain⟨w1,hw1,de,hs1,eW⟩:=dO w [.n,.U,.U,.U,.I,.U,.V,.V,.V] 44;have HP:=cE (wN w1 rb r (hr.below de) hl 64 cM);have HW:=cE (cD hw1 de);unfold Rd.Eb Rd.node;dsimp only;obtain⟨D,hD⟩:=cG r.nj;obtain⟨r0,Jb⟩:=cG (r.text 64);rw[←hD,←Jb] at HP⊢;unfold Cw at HP;unfold GB;dsimp only;obtain⟨n,hn⟩:=cG D.length;rw[←hn] at HP⊢;have eY:Hid (cH 44 9):=cE cK;clear hr hD Jb hw1 eW de hl hn;go_enter func285,ntmps285
 go_wp2_with fail
 rw[←HW.out.1];refine HP.out.mono ?_;rintro e w2 ⟨a,c,rfl,d2,h1,h2⟩;have H2:=cE (cD h1 (cD h2 d2));clear h1 h2 d2;go_wp2_with fail
 refine(lF w2 rb r0 H2.out.1).mono ?_;rintro e w3 ⟨rfl,h1,h2⟩;have H3:=cE (cD h1 (cD (H2.out.2.1.trans h2) (H2.out.2.2.kept h2 (fun b hb _ e=>by have hb:w1.heap.size≤b:=hb;have e:b=rb:=e;omega))));clear h1 h2 H2;go_wp2_with fail
 refine(lF w3 rb _ H3.out.1).mono ?_;rintro e w4 ⟨rfl,h1,h2⟩;have H4:=cE (cD h1 (cD (H3.out.2.1.trans h2) (H3.out.2.2.kept h2 (fun b hb _ e=>by have hb:w1.heap.size≤b:=hb;have e:b=rb:=e;omega))));clear h1 h2 H3;go_wp2_with fail
 refine(lF w4 rb _ H4.out.1).mono ?_;rintro e w5 ⟨rfl,h1,h2⟩;have H5:=cE (cD h1 (cD (H4.out.2.1.trans h2) (H4.out.2.2.kept h2 (fun b hb _ e=>by have hb:w1.heap.size≤b:=hb;have e:b=rb:=e;omega))));clear h1 h2 H4;go_wp2_with fail
 refine(zw w5 rb _ H5.out.1).mono ?_;rintro e w6 ⟨rfl,h1,h2⟩;unfold Rd.Hg;have H6:=cE (cD h1 (cD (H5.out.2.1.trans h2) (H5.out.2.2.kept h2 (fun b hb _ e=>by have hb:w1.heap.size≤b:=hb;have e:b=rb:=e;omega))));clear h1 h2 H5;go_wp2_with fail
 refine(lM w6 rb _ H6.out.1).mono ?_;rintro e w7 ⟨rfl,h1,h2⟩;have H7:=cE (cD h1 (cD (H6.out.2.1.trans h2) (H6.out.2.2.kept h2 (fun b hb _ e=>by have hb:w1.heap.size≤b:=hb;have e:b=rb:=e;omega))));clear h1 h2 H6;go_wp2_with fail
 refine(lM w7 rb _ H7.out.1).mono ?_;rintro e w8 ⟨rfl,h1,h2⟩;have H8:=cE (cD h1 (cD (H7.out.2.1.trans h2) (H7.out.2.2.kept h2 (fun b hb _ e=>by have hb:w1.heap.size≤b:=hb;have e:b=rb:=e;omega))));clear h1 h2 H7;go_wp2_with fail
 refine(lM w8 rb _ H8.out.1).mono ?_;rintro e w9 ⟨rfl,h1,h2⟩;have H9:=cE (cD h1 (cD (H8.out.2.1.trans h2) (H8.out.2.2.kept h2 (fun b hb _ e=>by have hb:w1.heap.size≤b:=hb;have e:b=rb:=e;omega))));clear h1 h2 H8;obtain⟨CS,kI⟩:∃CS:List aA,CS=[.slice a n c,.u (r0.eF:Nat),.u (r0.small.eF:Nat),.u (r0.small.small.eF:Nat),.i (r0.small.small.small.iu 3:Nat),.u ((r0.small.small.small.place 3).eF:Nat),.v (r0.small.small.small.ny.num 8:Nat),.v ((r0.small.small.small.ny.take 8).num 8:Nat),.v (((r0.small.small.small.ny.take 8).take 8).num 8:Nat)]:=⟨_,rfl⟩;have HT:Hid (w9.there w.heap.size 0 9):=cE (lI HW.out.1 H9.out.2.1 (fun e=>by have e:w.heap.size=rb:=e;omega));have gu:Hid ((#[.slice a n c,.u (r0.eF:Nat),.u (r0.small.eF:Nat),.u (r0.small.small.eF:Nat),.i (r0.small.small.small.iu 3:Nat),.u ((r0.small.small.small.place 3).eF:Nat),.v (r0.small.small.small.ny.num 8:Nat),.v ((r0.small.small.small.ny.take 8).num 8:Nat),.v (((r0.small.small.small.ny.take 8).take 8).num 8:Nat)]:Array aA).all (·.oneCell')=true):=cE (by simp[aj]);have HCS:=cE kI;clear kI;go_wp2_with (refine aB rfl 44 (.tmp 2) (.tmp 19) rfl w.heap.size 0 #[.slice a n c,.u (r0.eF:Nat),.u (r0.small.eF:Nat),.u (r0.small.small.eF:Nat),.i (r0.small.small.small.iu 3:Nat),.u ((r0.small.small.small.place 3).eF:Nat),.v (r0.small.small.small.ny.num 8:Nat),.v ((r0.small.small.small.ny.take 8).num 8:Nat),.v (((r0.small.small.small.ny.take 8).take 8).num 8:Nat)] rfl rfl HT.out eY.out gu.out ?_)
 refine aL (di rfl _ _ w.heap.size 0 [.slice a n c,.u (r0.eF:Nat),.u (r0.small.eF:Nat),.u (r0.small.small.eF:Nat),.i (r0.small.small.small.iu 3:Nat),.u ((r0.small.small.small.place 3).eF:Nat),.v (r0.small.small.small.ny.num 8:Nat),.v ((r0.small.small.small.ny.take 8).num 8:Nat),.v (((r0.small.small.small.ny.take 8).take 8).num 8:Nat)] _ rfl (ay _ _ _ _ HT.out) underlying44 rfl eY.out) rfl ?_;rw[←HCS.out];have K:=jX w9 w.heap.size CS;refine⟨a,c,?_,(H9.out.2.2.kept K (fun b hb _ e=>by have hb:w1.heap.size≤b:=hb;have e:b=w.heap.size:=e;omega)).mono (fun b _ h=>aa cL h),H9.out.1.kept K (fun b hb e=>by have e:b=w.heap.size:=e;omega),((dm HW.out.2).trans H9.out.2.1).sY K (aq _)⟩;rw[HCS.out];rfl
theorem Rd.gP(r:Rd)(n:Nat):(r.take n).b.length≤r.b.length:=by
 unfold Rd.take;split
 ·exact aq _
 split
 ·exact aq _
 show(r.b.drop n).length≤_;rw[List.length_drop];omega
theorem Rd.lZ(r:Rd)(n:Nat):(r.place n).b.length≤r.b.length:=by unfold Rd.place;split<;>exact r.gP 1
theorem Rd.nu(r:Rd):r.small.b.length≤r.b.length:=by unfold Rd.small;split<;>exact r.gP 8
theorem Rd.sA(r:Rd)(n:Nat):(r.text n).b.length≤r.b.length:=by
 have h:r.Ng.b.length≤r.b.length:=aa ((r.take 4).gP _) (r.gP 4);unfold Rd.text;split<;>exact h
theorem Rd.KV(r:Rd)(n:Int):(r.dK n).b.length≤r.b.length:=by unfold Rd.dK;split<;>exact r.gP 8
theorem Rd.lG(r:Rd)(n:Nat):(r.dQ n).b.length≤r.b.length:=by unfold Rd.dQ;split<;>exact r.gP 8
theorem Rd.Nn(r:Rd):r.ny.b.length≤r.b.length:=aa (r.place 3).nu (r.lZ 3)
theorem Rd.Xk(r:Rd):r.node.b.length≤r.b.length:=by
 unfold Rd.node;exact aa (Rd.gP _ _) (aa (Rd.gP _ _) (aa (Rd.gP _ _) (aa (Rd.Nn _) (aa (Rd.nu _) (aa (Rd.nu _) (aa (Rd.nu _) (Rd.sA _ _)))))))
def Rd.yz(r:Rd):gh:=⟨r.nj,(r.text 64).wR,if (r.text 64).wR=true then iN else ((r.text 64).place 2).Eb⟩
def Rd.Oi(r:Rd):Rd:=if (r.text 64).wR=true then (r.text 64).place 2 else ((r.text 64).place 2).node
def VT(w w1:ah)(rb:Nat)(D:cP)(g:Bool)(r:Rd)(bv:aA)(wc:ah):Prop:=∃bb,bv=.p bb∧wc.heap[bb]?=some (.cells #[.s D,.bool g,.n,.U,.U,.U,.I,.U,.V,.V,.V] 93 (0,0))∧w1.heap.size≤bb∧eT wc rb r∧Kept (·=rb) w1 wc
theorem Mp{w w1 W:ah}{rb bb:Nat}{D:cP}{g:Bool}{r:Rd}(hb:W.heap[bb]?=some (.cells #[.z,.F,.n,.U,.U,.U,.I,.U,.V,.V,.V] 93 (0,0)))(h1:w1.heap.size≤bb)(h2:eT W rb r)(h3:Kept (·=rb) w1 W)(hrb:rb<bb):VT w w1 rb D g r (.p bb) (W.setCells bb 0 [.s D,.bool g,.n,.U,.U,.U,.I,.U,.V,.V,.V]):=
 ⟨bb,rfl,fG hb rfl,h1,h2.kept (jX W bb _) (fun b hb e=>by have e:b=bb:=e;omega),h3.sY (jX W bb _) h1⟩
theorem dR{w:ah}{B:Nat}{cs:Array aA}{t:TypeId}(h:w.heap[B]?=some (.cells cs t (0,0)))(o n:Nat)(hn:o+n≤cs.size):w.there B o n:=fun j hj=>by
 refine⟨?_,by simp[aW,h]⟩;rw[aX _ _ (o+j) _ t (0,0) h,Array.getElem?_eq_getElem cL];rfl
theorem ic(w:ah)(B o:Nat)(cs:List aA):Kept (·=B) w (w.setCells B o cs):=Kept.setCells (S:=(·=B)) (p:=B) rfl _ o (Kept.refl _ w)
theorem L9(w:ah)(rb:Nat)(r:Rd)(hr:eT w rb r)(hl:r.b.length≤1000000000):
  an prog 237 #[.p rb] w fun e w'=>∃a c,e=.returned (cZ.val ⟨r.yz.path,r.yz.gone,⟨a,r.yz.node.data.length,c,r.yz.node.num⟩⟩)∧dN w' (fQ w.heap.size) a c r.yz.node.data∧eT w' rb r.Oi∧Kept (·=rb) w w':=by
 have hrb:=hr.lt;obtain⟨w1,hw1,de,hs1,eW⟩:=dO w [.z,.F,.n,.U,.U,.U,.I,.U,.V,.V,.V] 93;have HP:=cE fun W (h:cF w1 W)=>wN W rb r (hr.below (de.trans (h.mono de.size))) hl 64 cM
 have HW:=cE (cD hw1 de);unfold Rd.yz Rd.Oi;dsimp only;obtain⟨D,hD⟩:=cG r.nj;obtain⟨r0,Jb⟩:=cG (r.text 64);unfold Cw at HP;rw[←hD,←Jb] at HP⊢;obtain⟨g,hg⟩:=cG r0.wR;have HF:=cE fun W (h:eT W rb r0)=>BY W rb r0 h
 rw[←hg] at HF⊢;obtain⟨⟨ND,⟨q1,q2,q3,q4,q5,q6,q7,q8⟩⟩,hnd⟩:∃nd:Nd,nd=if g=true then iN else (r0.place 2).Eb:=⟨_,rfl⟩
 obtain⟨rf,hrf⟩:∃rf:Rd,rf=if g=true then r0.place 2 else (r0.place 2).node:=⟨_,rfl⟩
 rw[←hnd,←hrf];dsimp only;unfold cZ.val cZ.cells Raw.cells eL.cells;dsimp only[aZ,bg];have Kf:=cE (cD hnd hrf);clear hnd hrf;have eY:Hid (cH 93 11):=cE cK;have HLR:Hid ((r0.place 2).b.length≤1000000000):=cE (by rw[Jb];exact aa (Rd.lZ _ _) (aa (Rd.sA _ _) hl));clear hr hD Jb hw1 eW de hl hg;go_enter func237,ntmps237
 go_wp2_with fail
 rw[←HW.out.1];go_cut [3] (fun bv wc=>VT w w1 rb D g (r0.place 2) bv wc)
 case first=>
  refine rT fun wd hd=>?_
  refine tI 0 rfl trivial ?_;refine tI 3 rfl trivial ?_;simp only[cQ];refine jN 1 6 rfl rfl cK cO cO _ _ (by go_simp<;>first|rfl|exact⟨rfl,rfl⟩) (.p wd.heap.size) (wd.alloc (.cells #[.z,.F,.n,.U,.U,.U,.I,.U,.V,.V,.V] 93)) (by go_simp<;>first|rfl|exact⟨rfl,rfl⟩) ?_ trivial ?_
  ·refine(HP.out wd hd).mono ?_
   rintro e w2 ⟨a,c,rfl,d2,h1,h2⟩;refine⟨trivial,?_⟩
   try dsimp only
   simp only[cQ];refine O0 (S':=fun w'=>Kept (·=rb) w2 w') (fun _ _=>trivial) _ _ _ _ ?_;have hS:=Kept.refl (·=rb) w2;have y2:∀w',Kept (·=rb) w2 w'→(convert 32 9 (.slice a D.length c)).run prog w'=.ok (.s D) w':=fun w' hk=>rQ (d2.kept hk (fun b hb _ e=>by have hb:wd.heap.size≤b:=hb;have e:b=rb:=e;have:=hd.size;omega)).at_ d2.nil
   refine tJ 2 rfl hS y2 ?_;simp only[cQ];clear y2;have hk2:Kept (·=rb) w1 w2:=(dm hd).trans h2;refine jN 4 6 rfl rfl cK cO cO _ _ (by go_simp<;>first|rfl|exact⟨rfl,rfl⟩) (.p w2.heap.size) (w2.alloc (.cells #[.z,.F,.n,.U,.U,.U,.I,.U,.V,.V,.V] 93)) (by go_simp<;>first|rfl|exact⟨rfl,rfl⟩) ?_ (dm (cR (aC _ w2) _)) ?_
   ·refine(HF.out w2 h1).mono ?_
    rintro e w3 ⟨rfl,g1,g2⟩;refine⟨g2,?_⟩
    try dsimp only
    simp only[cQ];refine tI 5 rfl g2 ?_;simp only[cQ];have b3:=cR (aC _ w3) (.cells #[.z,.F,.n,.U,.U,.U,.I,.U,.V,.V,.V] 93);have dU:Kept (·=rb) w2 (w3.alloc (.cells #[.z,.F,.n,.U,.U,.U,.I,.U,.V,.V,.V] 93)):=g2.trans (dm b3);refine gI 6 rfl (.p w3.heap.size) (w3.alloc (.cells #[.z,.F,.n,.U,.U,.U,.I,.U,.V,.V,.V] 93)) dU ?_;simp only[cQ];have gM:=aK w3 (.cells #[.z,.F,.n,.U,.U,.U,.I,.U,.V,.V,.V] 93);have hs3:w1.heap.size≤w3.heap.size:=aa hk2.size g2.size;have HX:=Mp (w:=w) (D:=D) (g:=g) gM hs3 (g1.below b3) (hk2.trans dU) cL;have ht:=ei gM (n:=11) cN;have CA:Hid ((#[.s D,.bool g,.n,.U,.U,.U,.I,.U,.V,.V,.V]:Array aA).all (·.oneCell')=true):=cE (by simp[aj]);refine sI 7 rfl 93 (.tmp 3) (.tmp 9) w3.heap.size 0 #[.s D,.bool g,.n,.U,.U,.U,.I,.U,.V,.V,.V] ht eY.out CA.out (dU.sY (jX _ w3.heap.size _) (by have:=g2.size;omega)) ?_;simp only[cQ];refine aG cK ?_ _;have HXH:=cE HX;clear HX gM dU hS hk2;go_wp2_with fail
    go_meet
    case rel=>exact HXH.out
   skip
   simp only[cQ];have b3:=cR (aC _ w2) (.cells #[.z,.F,.n,.U,.U,.U,.I,.U,.V,.V,.V] 93);refine cI 4 rfl ?_;refine(HF.out _ (h1.below b3)).mono ?_;rintro e w3 ⟨rfl,g1,g2⟩;have dU:Kept (·=rb) w2 w3:=(dm b3).trans g2;refine⟨dU,?_⟩
   try dsimp only
   simp only[cQ];have gM:=(g2.block w2.heap.size cN (fun e=>by have e:w2.heap.size=rb:=e;have:=hk2.size;omega)).trans (aK w2 (.cells #[.z,.F,.n,.U,.U,.U,.I,.U,.V,.V,.V] 93));have HX:=Mp (w:=w) (D:=D) (g:=g) gM hk2.size g1 (hk2.trans dU) (by have:=hk2.size;omega);refine tI 5 rfl dU ?_;simp only[cQ];have ht:=ei gM (n:=11) cN;have CA:Hid ((#[.s D,.bool g,.n,.U,.U,.U,.I,.U,.V,.V,.V]:Array aA).all (·.oneCell')=true):=cE (by simp[aj]);refine sI 7 rfl 93 (.tmp 3) (.tmp 9) w2.heap.size 0 #[.s D,.bool g,.n,.U,.U,.U,.I,.U,.V,.V,.V] ht eY.out CA.out (dU.sY (jX _ w2.heap.size _) (aq _)) ?_;simp only[cQ];refine aG cK ?_ _;have HXH:=cE HX;clear HX gM dU hS hk2;go_wp2_with fail
   go_meet
   case rel=>exact HXH.out
  skip
  simp only[cQ];have b2:=cR (aC _ wd) (.cells #[.z,.F,.n,.U,.U,.U,.I,.U,.V,.V,.V] 93);refine cI 1 rfl ?_;refine(HP.out _ (hd.trans (b2.mono hd.size))).mono ?_;rintro e w2 ⟨a,c,rfl,d2,h1,h2⟩;refine⟨trivial,?_⟩
  try dsimp only
  simp only[cQ];refine O0 (S':=fun w'=>Kept (fun k=>k=rb∨k=wd.heap.size) w2 w') (fun _ _=>trivial) _ _ _ _ ?_;have hS:=Kept.refl (fun k=>k=rb∨k=wd.heap.size) w2;have y2:∀w',Kept (fun k=>k=rb∨k=wd.heap.size) w2 w'→(convert 32 9 (.slice a D.length c)).run prog w'=.ok (.s D) w':=fun w' hk=>rQ (d2.kept hk (fun b hb _ e=>by have hb:(wd.alloc (.cells #[.z,.F,.n,.U,.U,.U,.I,.U,.V,.V,.V] 93)).heap.size≤b:=hb;have e:b=rb∨b=wd.heap.size:=e;have:=hd.size;rw[bu] at hb;omega)).at_ d2.nil
  refine tJ 2 rfl hS y2 ?_;simp only[cQ];clear y2;have hk2:Kept (·=rb) w1 w2:=((dm hd).trans (dm b2)).trans h2;refine cI 4 rfl ?_;refine(HF.out w2 h1).mono ?_;rintro e w3 ⟨rfl,g1,g2⟩;have dU:Kept (fun k=>k=rb∨k=wd.heap.size) w2 w3:=⟨g2.os,g2.tape,g2.output,g2.size,fun k hk hs=>g2.block k hk (fun e=>hs (.inl e))⟩;refine⟨dU,?_⟩
  try dsimp only
  simp only[cQ];have gM:=(g2.block wd.heap.size (by have:=h2.size;rw[bu] at this;omega) (fun e=>by have e:wd.heap.size=rb:=e;have:=hd.size;omega)).trans ((h2.block wd.heap.size cN (fun e=>by have e:wd.heap.size=rb:=e;have:=hd.size;omega)).trans (aK wd (.cells #[.z,.F,.n,.U,.U,.U,.I,.U,.V,.V,.V] 93)));have HX:=Mp (w:=w) (D:=D) (g:=g) gM hd.size g1 (hk2.trans g2) (by have:=hd.size;omega);refine tI 5 rfl dU ?_;simp only[cQ];have ht:=ei gM (n:=11) cN;have CA:Hid ((#[.s D,.bool g,.n,.U,.U,.U,.I,.U,.V,.V,.V]:Array aA).all (·.oneCell')=true):=cE (by simp[aj]);refine sI 7 rfl 93 (.tmp 3) (.tmp 9) wd.heap.size 0 #[.s D,.bool g,.n,.U,.U,.U,.I,.U,.V,.V,.V] ht eY.out CA.out (dU.trans (by have K:=jX w3 wd.heap.size [.s D,.bool g,.n,.U,.U,.U,.I,.U,.V,.V,.V];exact⟨K.os,K.tape,K.output,K.size,fun k hk hs=>K.block k hk (fun e=>hs (.inr e))⟩)) ?_;simp only[cQ];refine aG cK ?_ _;have HXH:=cE HX;clear HX gM dU hS hk2;go_wp2_with fail
  go_meet
  case rel=>exact HXH.out
 case rest=>
 obtain⟨bb,rfl,gM,iQ,hR,hK⟩:=hcut;obtain⟨w4,lP⟩:=cG wc;subst lP;have uD:w4.cell? ⟨bb,1,none⟩=some (.bool g):=aX _ _ 1 _ 93 (0,0) gM;have H4:=cE (cD gM (cD hR hK));clear gM hR hK;cases g with
 |true=>
  obtain⟨e1,e2⟩:=Kf.out;rw[if_pos rfl] at e1 e2;unfold iN at e1
  injection e1 with e3 en
  injection en with e4 e5 e6 e7 e8 e9 sO qB
  subst e2 e3 e4 e5 e6 e7 e8 e9 sO qB;have mX:=cE (dD H4.out.1);have HT:Hid (w4.there w.heap.size 0 11):=cE (lI HW.out.1 H4.out.2.2 (fun e=>by have e:w.heap.size=rb:=e;omega));have gu:Hid ((#[.s D,.T,.n,.U,.U,.U,.I,.U,.V,.V,.V]:Array aA).all (·.oneCell')=true):=cE (by simp[aj]);go_wp2_with (first
   |(refine ag rfl 93 (.tmp 3) rfl bb 0 rfl [.s D,.T,.n,.U,.U,.U,.I,.U,.V,.V,.V] _ mX.out underlying93 rfl eY.out ?_)
   |(refine aB rfl 93 (.tmp 2) (.tmp 16) rfl w.heap.size 0 #[.s D,.T,.n,.U,.U,.U,.I,.U,.V,.V,.V] rfl rfl HT.out eY.out gu.out ?_))
  refine aL (di rfl _ _ w.heap.size 0 [.s D,.T,.n,.U,.U,.U,.I,.U,.V,.V,.V] _ rfl (ay _ _ _ _ HT.out) underlying93 rfl eY.out) rfl ?_;have K:=jX w4 w.heap.size [.s D,.T,.n,.U,.U,.U,.I,.U,.V,.V,.V];exact⟨none,0,rfl,⟨fun j x hj=>by simp[iN] at hj,fun _=>⟨rfl,rfl⟩⟩,H4.out.2.1.kept K (fun b hb e=>by have e:b=w.heap.size:=e;omega),((dm HW.out.2).trans H4.out.2.2).sY K (aq _)⟩
 |false=>
 obtain⟨e1,e2⟩:=Kf.out;rw[if_neg cM] at e1 e2;subst e2;have HE1:=cE e1.symm;clear e1;have hlen:(r0.place 2).b.length≤1000000000:=HLR.out;have hno:=UA w4 rb (r0.place 2) H4.out.2.1 hlen;unfold GB at hno;rw[HE1.out] at hno;unfold Raw.val Raw.cells eL.cells at hno;dsimp only at hno;have HNO:=cE hno;clear hlen hno;go_wp2_with fail
 refine HNO.out.mono ?_;rintro e w5 ⟨a,c,rfl,d5,h1,h2⟩;have Dd:=(h2.block bb (aO H4.out.1) (fun e=>by have e:bb=rb:=e;omega)).trans H4.out.1;have VE:=cE (dR Dd 2 9 cN);have HZ9:Hid (cH 44 9):=cE cK;have HO9:Hid ((#[.slice a ND.length c,.u q1,.u q2,.u q3,.i q4,.u q5,.v q6,.v q7,.v q8]:Array aA).all (·.oneCell')=true):=cE (by simp[aj]);obtain⟨w6,l6⟩:=cG (w5.setCells bb 2 [.slice a ND.length c,.u q1,.u q2,.u q3,.i q4,.u q5,.v q6,.v q7,.v q8]);have K6:Kept (·=bb) w5 w6:=by rw[l6];exact ic _ _ _ _
 have Gc:w6.heap[bb]?=some (.cells #[.s D,.F,.slice a ND.length c,.u q1,.u q2,.u q3,.i q4,.u q5,.v q6,.v q7,.v q8] 93 (0,0)):=by
  rw[l6];exact cells_from (B:=bb) (t:=93) (fr:=(0,0)) [.slice a ND.length c,.u q1,.u q2,.u q3,.i q4,.u q5,.v q6,.v q7,.v q8] 2 w5 [.s D,.F,.n,.U,.U,.U,.I,.U,.V,.V,.V] Dd rfl
 have J7:Kept (·=rb) w1 w6:=(H4.out.2.2.trans h2).sY K6 cL;have mX:=cE (dD Gc);have HT:Hid (w6.there w.heap.size 0 11):=cE (lI HW.out.1 J7 (fun e=>by have e:w.heap.size=rb:=e;omega));have gu:Hid ((#[.s D,.F,.slice a ND.length c,.u q1,.u q2,.u q3,.i q4,.u q5,.v q6,.v q7,.v q8]:Array aA).all (·.oneCell')=true):=cE (by simp[aj]);have H6:=cE (cD (h1.kept K6 (fun b hb e=>by have e:b=bb:=e;omega)) (cD J7 (d5.kept K6 (fun b hb _ e=>by have hb:w4.heap.size≤b:=hb;have e:b=bb:=e;have:=aO H4.out.1;omega))));have JS:Hid (w1.heap.size≤w4.heap.size):=cE H4.out.2.2.size;have CO:=cE l6;clear Dd l6 K6 Gc J7 h1 h2 d5;go_wp2_with (first
  |(refine aB rfl 44 (.tmp 15) (.tmp 14) rfl bb 2 #[.slice a ND.length c,.u q1,.u q2,.u q3,.i q4,.u q5,.v q6,.v q7,.v q8] rfl rfl VE.out HZ9.out HO9.out ?_;rw[←CO.out])
  |(refine ag rfl 93 (.tmp 3) rfl bb 0 rfl [.s D,.F,.slice a ND.length c,.u q1,.u q2,.u q3,.i q4,.u q5,.v q6,.v q7,.v q8] _ mX.out underlying93 rfl eY.out ?_)
  |(refine aB rfl 93 (.tmp 2) (.tmp 16) rfl w.heap.size 0 #[.s D,.F,.slice a ND.length c,.u q1,.u q2,.u q3,.i q4,.u q5,.v q6,.v q7,.v q8] rfl rfl HT.out eY.out gu.out ?_))
 refine aL (di rfl _ _ w.heap.size 0 [.s D,.F,.slice a ND.length c,.u q1,.u q2,.u q3,.i q4,.u q5,.v q6,.v q7,.v q8] _ rfl (ay _ _ _ _ HT.out) underlying93 rfl eY.out) rfl ?_;have K:=jX w6 w.heap.size [.s D,.F,.slice a ND.length c,.u q1,.u q2,.u q3,.i q4,.u q5,.v q6,.v q7,.v q8];exact⟨a,c,rfl,(H6.out.2.2.kept K (fun b hb _ e=>by have hb:w4.heap.size≤b:=hb;have e:b=w.heap.size:=e;have:=JS.out;omega)).mono (fun b _ h=>by have h:w4.heap.size≤b:=h;have:=JS.out;show w.heap.size≤b;omega),H6.out.1.kept K (fun b hb e=>by have e:b=w.heap.size:=e;omega),((dm HW.out.2).trans H6.out.2.1).sY K (aq _)⟩
theorem Rd.acs(r:Rd):r.Oi.b.length≤r.b.length:=by
 unfold Rd.Oi;have h:=aa (Rd.lZ (r.text 64) 2) (r.sA 64);split
 ·exact h
 exact aa (Rd.Xk _) h
def Rd.uL(k:Nat)(r:Rd):Rd:=Nat.repeat Rd.Oi k r
theorem Rd.Gq:∀(k:Nat) (r:Rd),(Rd.uL k r).b.length≤r.b.length
 |0,_=>aq _
 |k+1,r=>aa (Rd.acs _) (Rd.Gq k r)
def Rd.rO:Nat→Rd→List gh
 |0,_=>[]
 |k+1,r=>Rd.rO k r++[(Rd.uL k r).yz]
theorem Rd.Jp:∀(k:Nat) (r:Rd),(Rd.rO k r).length=k
 |0,_=>rfl
 |k+1,r=>by unfold Rd.rO;rw[af,Rd.Jp k r];rfl
def M5(w wr:ah)(v:aA)(L:List cZ)(E:List gh):Prop:=wr.ownsRow w.heap.size 93 11 v L.length (L.flatMap cZ.cells)∧eV wr (fun k=>v.ownBlock≠some k∧w.heap.size≤k) L E
theorem IK(w:ah)(rb:Nat)(r:Rd)(hr:eT w rb r)(hl:r.b.length≤1000000000)(most:Nat)(hm:most≤1000):
  an prog 236 #[.p rb,.i most,.func (.func 237) #[] #[]] w fun e w'=>∃v L,e=.returned v∧M5 w w' v L (Rd.rO (r.count most) (r.dQ most))∧eT w' rb (Rd.uL (r.count most) (r.dQ most))∧Kept (·=rb) w w':=by
 have HT:=cE (Bb w rb r hr most hm);have hrb:=hr.lt;have hnm:r.count most≤1000:=by unfold Rd.count;split<;>omega
 have hcl:(r.dQ most).b.length≤1000000000:=aa (Rd.lG _ _) hl;obtain⟨N,hN⟩:=cG (r.count most);obtain⟨r1,kH⟩:=cG (r.dQ most);rw[←hN,←kH] at HT⊢;rw[←hN] at hnm;rw[←kH] at hcl;have pZ:=cE hcl;obtain⟨i0,xF,hz0,hz1,hz2⟩:=info_parts uy;have HI:=cE (cD xF (cD hz0 (cD hz1 hz2)));clear hr hN kH xF hz0 hz1 hz2 hl hcl;go_enter func236,ntmps236
 go_wp2_with fail
 refine HT.out.mono ?_;rintro e w1 ⟨rfl,h1,h2⟩;have H1:=cE (cD h1 h2);clear h1 h2;go_wp2
 go_loopw [7,11] (fun uv kv wr=>∃(k:Nat) (L:List cZ),k≤N∧kv=.i k∧Hid (L.length=k∧M5 w wr uv L (Rd.rO k r1)∧eT wr rb (Rd.uL k r1)∧Kept (·=rb) w wr)) (fun _ kv _=>N - (intOf kv).toNat)
 case atStart=>exact⟨0,[],by omega,rfl,cE ⟨rfl,⟨aY _ _ _ _,rfl,fun k r e h=>by simp at h⟩,H1.out⟩⟩
 obtain⟨k,L,hk,rfl,HS⟩:=hrel;by_cases hlt:k<N
 ·obtain⟨QV,⟨ho,hlk⟩,hR,hK⟩:=HS.out
  rw[QV] at ho;have EG:=L9 wr rb _ hR (aa (Rd.Gq _ _) pZ.out);obtain⟨⟨xp,xg,⟨XD,q1,q2,q3,q4,q5,q6,q7,q8⟩⟩,hx⟩:∃x,x=(Rd.uL k r1).yz:=⟨_,rfl⟩;rw[←hx] at EG;unfold cZ.val cZ.cells Raw.cells eL.cells at EG;dsimp only[aZ,bg] at EG;have Y2:=cE EG;have HX:=cE hx;have H0:=cE (cD QV (cD ho (cD hlk hK)));clear QV ho hlk hR hK EG hx;go_wp2_with fail
  refine Y2.out.mono ?_;rintro e w2 ⟨a,c,rfl,d2,h1,h2⟩;have hown:=fm H0.out.2.1 h2 (fun g hg e=>by have:=(H0.out.2.1.lt g hg).1;have e:g=rb:=e;omega);have Jc:eV w2 (fun k=>u7.ownBlock≠some k∧w.heap.size≤k) (L++[⟨xp,xg,⟨a,XD.length,c,⟨q1,q2,q3,q4,q5,q6,q7,q8⟩⟩⟩]) (Rd.rO k r1++[⟨xp,xg,⟨XD,⟨q1,q2,q3,q4,q5,q6,q7,q8⟩⟩⟩]):=
   (H0.out.2.2.1.dP h2 (fun b h e=>by have:=h.2;have e:b=rb:=e;omega)).append (IM ⟨rfl,rfl,rfl,rfl,d2.at_.mono (fun b h=>⟨fun e=>by have:=(H0.out.2.1.lt b e).2;have h:wr.heap.size≤b:=h;omega,aa H0.out.2.2.2.size h⟩) (aq _),d2.nil⟩)
  have hsz:w.heap.size≤w2.heap.size:=aa H0.out.2.2.2.size h2.size;have H2:=cE (cD hown (cD Jc (cD h1 (H0.out.2.2.2.trans h2))));clear h1 h2 hown Jc d2;go_wp2_with (at_builtin;refine ef rfl (.tmp 13) (.tmp 17) 38 rfl w.heap.size 93 i0 (.agg #[.z,.F,.n,.U,.U,.U,.I,.U,.V,.V,.V]) 11 104 underlying38 HI.out.1 HI.out.2.1 HI.out.2.2.1 HI.out.2.2.2 rfl cM _ k _ rfl (H2.out.1.alloc _) ⟨w2.heap.size,0,none⟩ 1 1 [.s xp,.bool xg,.slice a XD.length c,.u q1,.u q2,.u q3,.i q4,.u q5,.v q6,.v q7,.v q8] rfl rfl (Am w2 _ _) (by intro u hu;simp at hu;rcases hu with rfl|rfl|rfl|rfl|rfl|rfl|rfl|rfl|rfl|rfl|rfl<;>rfl) (by unfold maxLen;omega) cL (by simp;omega) ?_;intro v5 w5 hown5 hgrow5 hwh5)
  have hba:=cR (aC _ w2) (.cells #[.s xp,.bool xg,.slice a XD.length c,.u q1,.u q2,.u q3,.i q4,.u q5,.v q6,.v q7,.v q8] 93);have Gi:Kept (·=rb) w w5:=(H2.out.2.2.2.trans (dm hba)).grown hgrow5 (fun g hg=>.inl (H2.out.1.lt g hg).1);have GN:eT w5 rb (Rd.uL (k+1) r1):=(H2.out.2.2.1.below hba).kept (jD hgrow5) (fun b hb e=>by have:=(H2.out.1.lt b e).1;omega);have ju:eV w5 (fun k=>v5.ownBlock≠some k∧w.heap.size≤k) (L++[⟨xp,xg,⟨a,XD.length,c,⟨q1,q2,q3,q4,q5,q6,q7,q8⟩⟩⟩]) (Rd.rO (k+1) r1):=by
   rw[show Rd.rO (k+1) r1=Rd.rO k r1++[(Rd.uL k r1).yz] from rfl,←HX.out];have g1:=H2.out.2.1.both (lo':=fun k=>(u7.ownBlock≠some k∧v5.ownBlock≠some k)∧w.heap.size≤k) (fun k h hk=>⟨⟨h.1,fun e=>by
    rcases hwh5 k e with h3|h3
    ·exact h.1 h3
    simp at h3;omega⟩,h.2⟩)
   exact((g1.below hba).dP (jD hgrow5) (fun b h e=>h.1.1 e)).both (fun k h _=>⟨h.1.2,h.2⟩)
  have hrow:(L.flatMap cZ.cells)++[.s xp,.bool xg,.slice a XD.length c,.u q1,.u q2,.u q3,.i q4,.u q5,.v q6,.v q7,.v q8]=(L++[⟨xp,xg,⟨a,XD.length,c,⟨q1,q2,q3,q4,q5,q6,q7,q8⟩⟩⟩]:List cZ).flatMap cZ.cells:=by rw[bq];simp[cZ.cells,Raw.cells,eL.cells]
  rw[hrow] at hown5;have Sb:Hid ((L++[⟨xp,xg,⟨a,XD.length,c,⟨q1,q2,q3,q4,q5,q6,q7,q8⟩⟩⟩]:List cZ).length=k+1∧M5 w w5 v5 (L++[⟨xp,xg,⟨a,XD.length,c,⟨q1,q2,q3,q4,q5,q6,q7,q8⟩⟩⟩]) (Rd.rO (k+1) r1)∧eT w5 rb (Rd.uL (k+1) r1)∧Kept (·=rb) w w5):=cE (by
   have hlen:(L++[⟨xp,xg,⟨a,XD.length,c,⟨q1,q2,q3,q4,q5,q6,q7,q8⟩⟩⟩]:List cZ).length=k+1:=by rw[af,H0.out.1];rfl
   exact⟨hlen,⟨by rw[hlen];exact hown5,ju⟩,GN,Gi⟩)
  clear hown5 hgrow5 hwh5 Gi GN hrow hsz ju hba;go_wp2
  go_roundw
  case rel=>exact⟨k+1,_,by omega,by go_num,Sb⟩
  case measure=>simp[intOf];omega
 obtain rfl:N=k:=by omega
 have t1:decide ((N:Int)<(N:Int))=false:=by simp
 have t2:decide (N<N)=false:=by simp
 clear hlt hk;go_wp2
 go_ret
 exact⟨_,L,rfl,HS.out.2⟩
def opHead(o:eC):cP:=dI 1 o.kind.toNat++nk o.path++nk o.data++(dI 8 (oN o.gS)++dI 1 (tR o.seq)++dI 1 (tR o.mM))
theorem jQ(o:eC):(opHead o).length=19+o.path.length+o.data.length:=by
 unfold opHead;simp only[af,dw,xL];omega
def pY(w:ah):Nat→cV→cP→Prop
 |0,_,_=>False
 |n+1,r,D=>∃(o:eC) (Ds:List cP),eZ w (fun _=>True) r o∧((0≤o.kind∧o.kind<256)∧-9223372036854775808≤o.gS∧o.gS<9223372036854775808)∧D=opHead o++(dI 8 r.pn++Ds.flatten)∧r.pn=Ds.length∧∀(k:Nat) Dk,Ds[k]?=some Dk→∃b off q,r.pa=some ⟨b,off,none⟩∧b<w.heap.size∧w.rangeAt b (off+k*7) q.cells∧pY w n q Dk
theorem pY.below{w w':ah}(hb:cF w w'):∀{n:Nat} {r:cV} {D:cP},pY w n r D→pY w' n r D
 |0,_,_,h=>h
 |n+1,r,D,h=>by
  obtain⟨o,Ds,h1,h2,h3,h4,h5⟩:=h;refine⟨o,Ds,h1.below hb,h2,h3,h4,fun k Dk hk=>?_⟩;obtain⟨b,off,q,g1,g2,g3,g4⟩:=h5 k Dk hk;exact⟨b,off,q,g1,aF g2 hb.size,dA g3 hb g2,g4.below hb⟩
structure JO(w:ah)(n:Nat)(a:Option aJ)(sn:Nat)(Ds:List cP):Prop where
 len:sn=Ds.length
 at_:∀(k:Nat) Dk,Ds[k]?=some Dk→∃b off q,a=some ⟨b,off,none⟩∧b<w.heap.size∧w.rangeAt b (off+k*7) q.cells∧pY w n q Dk
theorem JO.below{w w':ah}{n:Nat}{a:Option aJ}{sn:Nat}{Ds:List cP}(h:JO w n a sn Ds)(hb:cF w w'):JO w' n a sn Ds:=⟨h.len,fun k Dk hk=>by
 obtain⟨b,off,q,g1,g2,g3,g4⟩:=h.at_ k Dk hk;exact⟨b,off,q,g1,aF g2 hb.size,dA g3 hb g2,g4.below hb⟩⟩
theorem Gm(Ds:List cP)(k:Nat):((Ds.take k).flatten).length≤(Ds.flatten).length:=by
 have h:Ds.flatten=(Ds.take k).flatten++(Ds.drop k).flatten:=by rw[←List.flatten_append,List.take_append_drop]
 rw[h,af];omega
theorem EN{Ds:List cP}{k:Nat}{D:cP}(h:Ds[k]?=some D):(Ds.take (k+1)).flatten=(Ds.take k).flatten++D:=by
 rw[List.take_add_one,h];simp
def MT(n:Nat):Prop:=∀(w:ah) (ao:Option aJ) (nb c:Nat) (B:cP) (r:cV) (D:cP),BytesIn w ao nb c B→pY w n r D→B.length+D.length≤200000000→
 an prog 134 #[.slice ao nb c,r.val] w (eU w (B++D))
theorem Ed{m:Nat}(hp:MT m)(w:ah){ao:Option aJ}{nb c:Nat}{B:cP}(hB:BytesIn w ao nb c B){so:Option aJ}{sn sc:Nat}{Ds:List cP}(hD:JO w m so sn Ds)(hl:B.length+8+Ds.flatten.length≤200000000)(C8:sn≤200000000):
  an prog 228 #[.slice ao nb c,.slice so sn sc,.func (.func 134) #[] #[]] w (eU w (B++(dI 8 sn++Ds.flatten))):=by
 have HU:=cE (iT w hB cL sn cL);have HV:=cE (cD hD (cD hl hp));clear hB hD hl hp;go_enter func228,ntmps228
 go_wp2_with fail
 refine HU.out.mono ?_;rintro e w1 ⟨a1,n1,c1,rfl,h1⟩;have H1:=cE h1;clear h1;go_wp2
 go_loopw [0,16] (fun bv kv wr=>∃(k:Nat) (a:Option aJ) (n c:Nat),k≤sn∧kv=.i k∧bv=.slice a n c∧Hid (iF w (B++dI 8 sn++(Ds.take k).flatten) a n c wr)) (fun _ kv _=>sn - (intOf kv).toNat)
 case atStart=>exact⟨0,a1,n1,c1,by omega,rfl,rfl,cE (by simpa using H1.out)⟩
 obtain⟨k,a,n,c,hk,rfl,rfl,HS⟩:=hrel;by_cases hlt:k<sn
 ·obtain⟨D,hx⟩:∃D,Ds[k]?=some D:=⟨_,aS (by rw[←HV.out.1.len];exact hlt)⟩
  obtain⟨b,off,⟨ok,op,oa,on,oc,ov,os,oe,qa,qn,qc⟩,hso,hb,eW,hop⟩:=HV.out.1.at_ k D hx;subst hso;have hrw:=dA eW HS.out.bl hb;have hlen:(B++dI 8 sn++(Ds.take k).flatten).length+D.length≤200000000:=by
   have h1:=HV.out.2.1;have h2:=Gm Ds (k+1);rw[EN hx,af] at h2;simp only[af,dw];omega
  unfold cV.cells at hrw;dsimp only at hrw;have mX:=cE hrw;obtain⟨w2,eS,dz,hs2,hr2⟩:=dO wr [.b ok,.s op,.slice oa on oc,.i ov,.bool os,.bool oe,.slice qa qn qc] 35;have uE:=HV.out.2.2 w2 a n c _ _ D (HS.out.pN.below dz) (hop.below (HS.out.bl.trans (dz.mono HS.out.bl.size))) hlen;unfold cV.val cV.cells at uE;dsimp only at uE;have RI:=cE uE;have GD:=cE (cD (hr2 w2 (aC _ _)) (cD dz eS));have eY:Hid (cH 35 7):=cE cK;have HXK:=cE hx;clear eW hb hop hrw hlen uE eS dz hr2 hs2 hx;go_wp2_with (first
   |(refine ag rfl 35 (.tmp 18) rfl b (off+k*7) rfl [.b ok,.s op,.slice oa on oc,.i ov,.bool os,.bool oe,.slice qa qn qc] _ mX.out underlying35 rfl eY.out ?_)
   |(rw[←GD.out.2.2];refine ag rfl 35 (.tmp 8) rfl wr.heap.size 0 rfl [.b ok,.s op,.slice oa on oc,.i ov,.bool os,.bool oe,.slice qa qn qc] _ GD.out.1 underlying35 rfl eY.out ?_))
  refine RI.out.mono ?_;rintro e w3 ⟨a3,n3,c3,rfl,h1⟩;have H3:Hid (iF w (B++dI 8 sn++(Ds.take (k+1)).flatten) a3 n3 c3 w3):=cE (((h1.trans GD.out.2.1).trans HS.out.bl).cast (by rw[EN HXK.out,aI]));clear h1;go_wp2
  go_roundw
  case rel=>exact⟨k+1,a3,n3,c3,by omega,by go_num,rfl,H3⟩
  case measure=>simp[intOf];omega
 obtain rfl:sn=k:=by omega
 have t1:decide ((sn:Int)<(sn:Int))=false:=by simp
 have t2:decide (sn<sn)=false:=by simp
 clear hlt hk;go_wp2
 go_ret
 exact⟨a,n,c,rfl,HS.out.cast (by rw[List.take_of_length_le (by rw[←HV.out.1.len];exact aq _),aI])⟩
theorem Ih{m:Nat}(hp:MT m)(w:ah){ao:Option aJ}{nb c:Nat}{B:cP}(hB:BytesIn w ao nb c B)(r:cV)(o:eC)(hr:eZ w (fun _=>True) r o)(hk:0≤o.kind∧o.kind<256)(Ds:List cP)(hD:JO w m r.pa r.pn Ds)
  (hl:B.length+(opHead o).length+8+Ds.flatten.length≤200000000) (C8:r.pn≤200000000):
  an prog 134 #[.slice ao nb c,r.val] w (eU w (B++(opHead o++(dI 8 r.pn++Ds.flatten)))):=by
 obtain⟨ok,op,oa,on,oc,ov,os,oe,qa,qn,qc⟩:=r;obtain⟨k,p,D,vv,sq,ep⟩:=o;obtain⟨h1,h2,h3,h4,h5,h6,h7,h8⟩:=hr;rw[jQ] at hl;dsimp only at h1 h2 h3 h4 h5 h6 h7 h8 hk hD hl C8;subst h1 h2 h3 h4 h5;obtain⟨kn,rfl⟩:∃kn:Nat,ok=kn:=⟨ok.toNat,by omega⟩;have ZR:BytesIn w oa on oc D:=⟨h6,h7,h8⟩;unfold cV.val cV.cells;dsimp only;have HOH:Hid (opHead ⟨(kn:Int),op,D,ov,os,oe⟩=dI 1 kn++nk op++nk D++(dI 8 (oN ov)++dI 1 (tR os)++dI 1 (tR oe))):=cE (by unfold opHead;simp);rw[HOH.out];obtain⟨w1,hw1,de,hs1,eW⟩:=dO w [.b (kn:Int),.s op,.slice oa on oc,.i ov,.bool os,.bool oe,.slice qa qn qc] 35;have y0:∀w',cF w1 w'→w'.cell? ⟨w.heap.size,0,none⟩=some (.b (kn:Int)):=fun w' h=>eW w' h 0 _ rfl
 have y1:∀w',cF w1 w'→w'.cell? ⟨w.heap.size,1,none⟩=some (.s op):=fun w' h=>eW w' h 1 _ rfl
 have y2:∀w',cF w1 w'→w'.cell? ⟨w.heap.size,2,none⟩=some (.slice oa on oc):=fun w' h=>eW w' h 2 _ rfl
 have y3:∀w',cF w1 w'→w'.cell? ⟨w.heap.size,3,none⟩=some (.i ov):=fun w' h=>eW w' h 3 _ rfl
 have y4:∀w',cF w1 w'→w'.cell? ⟨w.heap.size,4,none⟩=some (.bool os):=fun w' h=>eW w' h 4 _ rfl
 have y5:∀w',cF w1 w'→w'.cell? ⟨w.heap.size,5,none⟩=some (.bool oe):=fun w' h=>eW w' h 5 _ rfl
 have y6:∀w',cF w1 w'→w'.cell? ⟨w.heap.size,6,none⟩=some (.slice qa qn qc):=fun w' h=>eW w' h 6 _ rfl
 have Az:=cE fun W (h:cF w1 W)=>hB.below (de.trans (h.mono de.size))
 have HD:=cE (cD (fun W (h:cF w1 W)=>ZR.below (de.trans (h.mono de.size))) (fun W (h:cF w1 W)=>hD.below (de.trans (h.mono de.size))));have HK:=cE (cD hk (cD hl (cD C8 hp)));have HW:=cE (cD hw1 de);clear hB hw1 eW hD hk hl C8 de ZR h6 h7 h8 hp;go_enter func134,ntmps134
 go_wp2_with fail
 rw[←HW.out.1];refine rB fun wd hS=>?_
 refine tI 0 rfl hS ?_;refine tI 1 rfl hS ?_;refine tJ 2 rfl hS y0 ?_;refine tI 4 rfl hS ?_;simp only[cQ];refine tJ 5 rfl hS y1 ?_;refine tI 8 rfl hS ?_;refine tJ 9 rfl hS y2 ?_;simp only[cQ];obtain⟨cc,wc,hcv,hps⟩:=Cl wd op;have CJ:=hS.trans (hps.bl.mono hS.size);refine jN 3 6 rfl rfl cK cO cO _ _ (by go_simp<;>first|rfl|exact⟨rfl,rfl⟩) (.slice (some ⟨wd.heap.size,0,none⟩) op.length cc) wc (by go_simp<;>first|rfl|exact⟨rfl,rfl⟩) ?_ CJ ?_
 ·refine(nQ wd (Az.out wd hS) (by have:=HK.out.2.1;omega) kn (by have:=HK.out.1;omega)).mono ?_
  rintro e w2 ⟨a2,n2,c2,rfl,P2⟩;have oW:=hS.trans (P2.bl.mono hS.size);refine⟨oW,?_⟩;simp only[cQ];clear hcv hps CJ;obtain⟨cc,W,hcv,hps⟩:=Cl w2 op;have dU:=oW.trans (hps.bl.mono oW.size);refine gI 6 rfl _ W dU ?_;have Z:=cE (cD (P2.pN.below hps.bl) (cD hps.pN dU));clear P2 hps hS oW dU hcv;simp only[cQ];refine cI 7 rfl ?_;refine(o8 W Z.out.1 (by have:=HK.out.2.1;simp only[af,dw];omega) Z.out.2.1 (by have:=HK.out.2.1;omega)).mono ?_;rintro e w4 ⟨a4,n4,c4,rfl,P4⟩;have eM:=Z.out.2.2.trans (P4.bl.mono Z.out.2.2.size);refine⟨eM,?_⟩;simp only[cQ];refine cI 10 rfl ?_;refine(o8 w4 P4.pN (by have:=HK.out.2.1;simp only[af,dw];omega) (HD.out.1 w4 eM) (by have:=HK.out.2.1;omega)).mono ?_;rintro e w5 ⟨a5,n5,c5,rfl,P5⟩;have oP:=eM.trans (P5.bl.mono eM.size);refine⟨oP,?_⟩;simp only[cQ];refine tI 11 rfl oP ?_;simp only[cQ];refine aG cK ?_ _;have H5:=cE (cD P5.pN oP);clear P4 P5 eM oP Z;go_wp2_with fail
  refine rC H5.out.2 fun wd hS hd=>?_
  refine tI 0 rfl hS ?_;refine tI 1 rfl hS ?_;refine tJ 2 rfl hS y3 ?_;refine tI 4 rfl hS ?_;simp only[cQ];refine tJ 5 rfl hS y4 ?_;refine tI 7 rfl hS ?_;refine tJ 8 rfl hS y5 ?_;simp only[cQ];refine cI 3 rfl ?_;refine(wE wd (H5.out.1.below hd) (by have:=HK.out.2.1;simp only[af,dw];omega) ov).mono ?_;rintro e w6 ⟨a6,n6,c6,rfl,P6⟩;have uH:=hS.trans (P6.bl.mono hS.size);refine⟨uH,?_⟩;simp only[cQ];refine cI 6 rfl ?_;refine(rN w6 P6.pN (by have:=HK.out.2.1;simp only[af,dw];omega) os).mono ?_;rintro e w7 ⟨a7,n7,c7,rfl,P7⟩;have BU:=uH.trans (P7.bl.mono uH.size);refine⟨BU,?_⟩;simp only[cQ];refine cI 9 rfl ?_;refine(rN w7 P7.pN (by have:=HK.out.2.1;simp only[af,dw];omega) oe).mono ?_;rintro e w8 ⟨a8,n8,c8,rfl,P8⟩;have jL:=BU.trans (P8.bl.mono BU.size);refine⟨jL,?_⟩;simp only[cQ];refine tI 10 rfl jL ?_;simp only[cQ];refine aG cK ?_ _;have HL8:=cE (Ed HK.out.2.2.2 w8 (sc:=qc) P8.pN (HD.out.2 w8 jL) (by have:=HK.out.2.1;simp only[af,dw];omega) HK.out.2.2.1);have k6:=y6 w8 jL;have YT:=cE jL;clear P6 P7 P8 hS uH BU jL hd H5;go_wp2_with fail
  refine HL8.out.mono ?_;rintro e w9 ⟨a9,n9,c9,rfl,P9⟩;have H9:=cE ((P9.trans YT.out).trans HW.out.2);clear P9 k6;go_wp2
  go_ret
  exact⟨a9,n9,c9,rfl,H9.out.cast (by unfold nk;simp[aI])⟩
 skip
 simp only[cQ];refine cI 3 rfl ?_;refine(nQ wc (Az.out wc CJ) (by have:=HK.out.2.1;omega) kn (by have:=HK.out.1;omega)).mono ?_;rintro e W ⟨a2,n2,c2,rfl,P2⟩;have dU:=CJ.trans (P2.bl.mono CJ.size);refine⟨dU,?_⟩;have Z:=cE (cD P2.pN (cD (hps.pN.below P2.bl) dU));clear P2 hps hS dU hcv CJ;simp only[cQ];refine cI 7 rfl ?_;refine(o8 W Z.out.1 (by have:=HK.out.2.1;simp only[af,dw];omega) Z.out.2.1 (by have:=HK.out.2.1;omega)).mono ?_;rintro e w4 ⟨a4,n4,c4,rfl,P4⟩;have eM:=Z.out.2.2.trans (P4.bl.mono Z.out.2.2.size);refine⟨eM,?_⟩;simp only[cQ];refine cI 10 rfl ?_;refine(o8 w4 P4.pN (by have:=HK.out.2.1;simp only[af,dw];omega) (HD.out.1 w4 eM) (by have:=HK.out.2.1;omega)).mono ?_;rintro e w5 ⟨a5,n5,c5,rfl,P5⟩;have oP:=eM.trans (P5.bl.mono eM.size);refine⟨oP,?_⟩;simp only[cQ];refine tI 11 rfl oP ?_;simp only[cQ];refine aG cK ?_ _;have H5:=cE (cD P5.pN oP);clear P4 P5 eM oP Z;go_wp2_with fail
 refine rC H5.out.2 fun wd hS hd=>?_
 refine tI 0 rfl hS ?_;refine tI 1 rfl hS ?_;refine tJ 2 rfl hS y3 ?_;refine tI 4 rfl hS ?_;simp only[cQ];refine tJ 5 rfl hS y4 ?_;refine tI 7 rfl hS ?_;refine tJ 8 rfl hS y5 ?_;simp only[cQ];refine cI 3 rfl ?_;refine(wE wd (H5.out.1.below hd) (by have:=HK.out.2.1;simp only[af,dw];omega) ov).mono ?_;rintro e w6 ⟨a6,n6,c6,rfl,P6⟩;have uH:=hS.trans (P6.bl.mono hS.size);refine⟨uH,?_⟩;simp only[cQ];refine cI 6 rfl ?_;refine(rN w6 P6.pN (by have:=HK.out.2.1;simp only[af,dw];omega) os).mono ?_;rintro e w7 ⟨a7,n7,c7,rfl,P7⟩;have BU:=uH.trans (P7.bl.mono uH.size);refine⟨BU,?_⟩;simp only[cQ];refine cI 9 rfl ?_;refine(rN w7 P7.pN (by have:=HK.out.2.1;simp only[af,dw];omega) oe).mono ?_;rintro e w8 ⟨a8,n8,c8,rfl,P8⟩;have jL:=BU.trans (P8.bl.mono BU.size);refine⟨jL,?_⟩;simp only[cQ];refine tI 10 rfl jL ?_;simp only[cQ];refine aG cK ?_ _;have HL8:=cE (Ed HK.out.2.2.2 w8 (sc:=qc) P8.pN (HD.out.2 w8 jL) (by have:=HK.out.2.1;simp only[af,dw];omega) HK.out.2.2.1);have k6:=y6 w8 jL;have YT:=cE jL;clear P6 P7 P8 hS uH BU jL hd H5;go_wp2_with fail
 refine HL8.out.mono ?_;rintro e w9 ⟨a9,n9,c9,rfl,P9⟩;have H9:=cE ((P9.trans YT.out).trans HW.out.2);clear P9 k6;go_wp2
 go_ret
 exact⟨a9,n9,c9,rfl,H9.out.cast (by unfold nk;simp[aI])⟩
theorem pY.pos{w:ah}:∀{n:Nat} {r:cV} {D:cP},pY w n r D→0<D.length
 |0,_,_,h=>h.elim
 |n+1,r,D,h=>by
  obtain⟨o,Ds,_,_,h3,_⟩:=h;subst h3;rw[af,jQ];omega
theorem wm:∀{Ds:List cP},(∀D∈Ds,0<D.length)→Ds.length≤Ds.flatten.length
 |[],_=>aq _
 |D::Ds,h=>by
  have h1:=wm (fun E hE=>h E (List.mem_cons_of_mem _ hE));have h2:=h D List.mem_cons_self;rw[List.flatten_cons,af,List.length_cons];omega
theorem FA:∀n,MT n
 |0=>fun w ao nb c B r D _ h _=>h.elim
 |n+1=>fun w ao nb c B r D hB h hl=>by
  obtain⟨o,Ds,h1,h2,h3,h4,h5⟩:=h;subst h3;simp only[af,dw] at hl;refine Ih (FA n) w hB r o h1 h2.1 Ds ⟨h4,h5⟩ cL ?_;have h6:=wm (Ds:=Ds) (fun E hE=>by
   obtain⟨k,hk⟩:=List.getElem?_of_mem hE;obtain⟨_,_,_,_,_,_,g⟩:=h5 k E hk;exact g.pos)
  omega
structure s9(w1 W:ah)(rb:Nat)(r:Rd)(o:Option Nat)(pa:Option aJ)(pc:Nat)(P:cP)(a:Option aJ)(c:Nat)(D:cP):Prop where
 rd:eT W rb r
 kp:Kept (·=rb) w1 W
 bx:∀bb,o=some bb→W.heap[bb]?=some (.cells #[.B,.z,.n,.I,.F,.F,.n] 35 (0,0))∧w1.heap.size≤bb
 dp:dN W (fun b=>b≠rb∧o≠some b) pa pc P
 dt:dN W (fun b=>w1.heap.size≤b∧o≠some b) a c D
 lt:rb<w1.heap.size
section
variable{w1 W W':World}{rb:Nat}{r r':Rd}{o:Option Nat}{pa a:Option Addr}{pc c:Nat}{P D:cP}
theorem s9.alloc(h:s9 w1 W rb r none pa pc P a c D):s9 w1 (W.alloc (.cells #[.B,.z,.n,.I,.F,.F,.n] 35)) rb r (some W.heap.size) pa pc P a c D:=by
 have hb:=cR (aC _ W) (.cells #[.B,.z,.n,.I,.F,.F,.n] 35);exact⟨h.rd.below hb,h.kp.trans (dm hb),fun bb e=>by cases e;exact⟨aK W _,h.kp.size⟩,
  (h.dp.mono (fun b hb h=>⟨h.1,fun e=>by cases e;omega⟩)).below hb,(h.dt.mono (fun b hb h=>⟨h.1,fun e=>by cases e;omega⟩)).below hb,h.lt⟩
theorem s9.call(h:s9 w1 W rb r o pa pc P a c D)(hr:eT W' rb r')(hk:Kept (·=rb) W W'):s9 w1 W' rb r' o pa pc P a c D:=
 ⟨hr,h.kp.trans hk,fun bb e=>by
  obtain⟨h1,h2⟩:=h.bx bb e;exact⟨(hk.block bb (aO h1) (fun e=>by have e:bb=rb:=e;have:=h.lt;omega)).trans h1,h2⟩,
  h.dp.kept hk (fun b hb _ e=>hb.1 e),h.dt.kept hk (fun b hb _ e=>by have:=hb.1;have e:b=rb:=e;have:=h.lt;omega),h.lt⟩
theorem s9.path(h:s9 w1 W rb r o pa pc P a c D){a2:Option aJ}{c2:Nat}{D2:cP}(hr:eT W' rb r')(hk:Kept (·=rb) W W')(hd:dN W' (fQ W.heap.size) a2 c2 D2):s9 w1 W' rb r' o a2 c2 D2 a c D:=by
 have g:=h.call hr hk;refine⟨g.rd,g.kp,g.bx,hd.mono (fun b _ hb=>?_),g.dt,g.lt⟩;have hb:W.heap.size≤b:=hb;have:=h.kp.size;have:=h.lt;exact⟨by omega,fun e=>by have:=aO (h.bx b e).1;omega⟩
theorem s9.data(h:s9 w1 W rb r o pa pc P a c D){a2:Option aJ}{c2:Nat}{D2:cP}(hr:eT W' rb r')(hk:Kept (·=rb) W W')(hd:dN W' (fQ W.heap.size) a2 c2 D2):s9 w1 W' rb r' o pa pc P a2 c2 D2:=by
 have g:=h.call hr hk;refine⟨g.rd,g.kp,g.bx,g.dp,hd.mono (fun b _ hb=>?_),g.lt⟩;have hb:W.heap.size≤b:=hb;have:=h.kp.size;exact⟨by omega,fun e=>by have:=aO (h.bx b e).1;omega⟩
end
theorem JC(W:ah)(lo:Nat→Prop):dN W lo none 0 []:=⟨fun j x hj=>by simp at hj,fun _=>⟨rfl,rfl⟩⟩
def Rd.js(r:Rd):eC:=
 let r1:=r.take 1;let r2:=r1.text 64;let r3:=r2.text 64;let r4:=r3.take 8;let r5:=r4.place 2
 ⟨(r.num 1:Nat),r1.nj,r2.nj,wrap64 (r3.num 8:Nat),r4.wR,r5.wR⟩
def Rd.leaf(r:Rd):Rd:=(((((r.take 1).text 64).text 64).take 8).place 2).place 2
def aal(w1:ah)(rb:Nat)(x:eC)(r:Rd)(bv:aA)(wc:ah):Prop:=∃bb a c,bv=.p bb∧wc.heap[bb]?=some (.cells #[.b x.kind,.s x.path,.slice a x.data.length c,.i x.gS,.bool x.seq,.bool x.mM,.n] 35 (0,0))∧w1.heap.size≤bb∧eT wc rb r∧Kept (·=rb) w1 wc∧dN wc (fun b=>w1.heap.size≤b∧b≠bb) a c x.data
theorem s9.box{w1 W:ah}{rb bb:Nat}{r:Rd}{pa a:Option aJ}{pc c:Nat}{P:cP}{x:eC}(h:s9 w1 W rb r (some bb) pa pc P a c x.data):aal w1 rb x r (.p bb) (W.setCells bb 0 [.b x.kind,.s x.path,.slice a x.data.length c,.i x.gS,.bool x.seq,.bool x.mM,.n]):=by
 obtain⟨h1,h2⟩:=h.bx bb rfl;have K:=jX W bb [.b x.kind,.s x.path,.slice a x.data.length c,.i x.gS,.bool x.seq,.bool x.mM,.n];have:=h.lt;exact⟨bb,a,c,rfl,fG h1 rfl,h2,h.rd.kept K (fun b hb e=>by have e:b=bb:=e;omega),h.kp.sY K h2,(h.dt.kept K (fun b hb _ e=>hb.2 (by have e:b=bb:=e;rw[e]))).mono (fun b _ hb=>⟨hb.1,fun e=>hb.2 (by rw[e])⟩)⟩
theorem XO:(prog.info? 35).map (fun i=>(i.zero,i.size,i.bytes))=some (some (.agg #[.B,.z,.n,.I,.F,.F,.n]),7,88):=by kernel_rfl
theorem Rd.FU(r:Rd):r.leaf.b.length≤r.b.length:=by
 unfold Rd.leaf;exact aa (Rd.lZ _ _) (aa (Rd.lZ _ _) (aa (Rd.gP _ _) (aa (Rd.sA _ _) (aa (Rd.sA _ _) (Rd.gP _ _)))))
def Rd.Zk(r:Rd):Rd:=r.leaf.dQ 0
theorem Rd.abb(r:Rd):r.Zk.b.length≤r.b.length:=aa (Rd.lG _ _) r.FU
def Rd.FL(k:Nat)(r:Rd):Rd:=Nat.repeat Rd.Zk k r
theorem Rd.Lm:∀(k:Nat) (r:Rd),(Rd.FL k r).b.length≤r.b.length
 |0,_=>aq _
 |k+1,r=>aa (Rd.abb _) (Rd.Lm k r)
def Rd.Ii:Nat→Rd→List eC
 |0,_=>[]
 |k+1,r=>Rd.Ii k r++[(Rd.FL k r).js]
def nU(w:ah)(lo:Nat→Prop)(L:List cV)(X:List eC):Prop:=L.length=X.length∧∀(k:Nat) q x,L[k]?=some q→X[k]?=some x→eZ w lo q x∧q.pa=none∧q.pn=0∧q.pc=0
theorem eZ.dP{w w':ah}{S lo:Nat→Prop}{q:cV}{x:eC}(h:eZ w lo q x)(hk:Kept S w w')(hn:∀b,lo b→b<w.heap.size→¬S b):eZ w' lo q x:=
 ⟨h.kind,h.path,h.gS,h.seq,h.mM,h.len,(h.data.kept hk (aq _) (fun b h1 h2 _=>hn b h1 h2)).mono (fun _ h=>h) hk.size,h.nil⟩
theorem nU.dP{w w':ah}{S lo:Nat→Prop}{L:List cV}{X:List eC}(h:nU w lo L X)(hk:Kept S w w')(hn:∀b,lo b→b<w.heap.size→¬S b):nU w' lo L X:=⟨h.1,fun k q x h1 h2=>⟨(h.2 k q x h1 h2).1.dP hk hn,(h.2 k q x h1 h2).2⟩⟩
theorem nU.both{w:ah}{lo lo':Nat→Prop}{L:List cV}{X:List eC}(h:nU w lo L X)(hl:∀b,lo b→b<w.heap.size→lo' b):nU w lo' L X:=⟨h.1,fun k q x h1 h2=>⟨(h.2 k q x h1 h2).1.both hl,(h.2 k q x h1 h2).2⟩⟩
theorem nU.more{w:ah}{lo:Nat→Prop}{L:List cV}{X:List eC}(h:nU w lo L X){q:cV}{x:eC}(hq:eZ w lo q x)(h2:q.pa=none∧q.pn=0∧q.pc=0):nU w lo (L++[q]) (X++[x]):=⟨by rw[af,af,h.1];rfl,fun k q' x' g1 g2=>by
 by_cases hlt:k<L.length
 ·rw[aR hlt] at g1
  rw[aR (by rw[←h.1];exact hlt)] at g2;exact h.2 k q' x' g1 g2
 ·have hk0:k=L.length:=by have:=(aD.1 g1).1;simp at this;omega
  subst hk0;rw[aQ (aq _),Nat.sub_self] at g1;rw[aQ (by rw[h.1];exact aq _),h.1,Nat.sub_self] at g2;simp at g1 g2;subst g1 g2;exact⟨hq,h2⟩⟩
def Vz(w wr:ah)(v:aA)(L:List cV)(X:List eC):Prop:=wr.ownsRow w.heap.size 35 7 v L.length (L.flatMap cV.cells)∧nU wr (fun k=>v.ownBlock≠some k∧w.heap.size≤k) L X∧(L=[]→v=.n)
theorem ER:∀(L:List cV) (k:Nat) (r:cV),L[k]?=some r→∀j u,r.cells[j]?=some u→(L.flatMap cV.cells)[k*7+j]?=some u
 |[],k,r,h,j,u,hu=>by simp at h
 |x::L,0,r,h,j,u,hu=>by
  simp at h;subst h;rw[bz,Nat.zero_mul,aT,aR (aD.1 hu).1];exact hu
 |x::L,k+1,r,h,j,u,hu=>by
  have h':L[k]?=some r:=by simpa using h
  have hx:x.cells.length=7:=rfl;rw[bz,aQ (by rw[hx];omega),hx,show(k+1)*7+j - 7=k*7+j by omega];exact ER L k r h' j u hu
def GJ:Prop:=∀(w:ah) (rb:Nat) (r:Rd),eT w rb r→r.b.length≤1000000000→
 an prog 233 #[.p rb] w fun e w'=>∃q:cV,e=.returned q.val∧eZ w' (fQ w.heap.size) q r.js∧(q.pa=none∧q.pn=0∧q.pc=0)∧eT w' rb r.Zk∧Kept (·=rb) w w'
theorem IJ(w:ah)(rb:Nat)(r:Rd)(hr:eT w rb r)(hl:r.b.length≤1000000000)(most:Nat)(hm:most≤1000)(HG:0<most→GJ):
  an prog 232 #[.p rb,.i most,.func (.func 233) #[] #[]] w fun e w'=>∃v L,e=.returned v∧Vz w w' v L (Rd.Ii (r.count most) (r.dQ most))∧eT w' rb (Rd.FL (r.count most) (r.dQ most))∧Kept (·=rb) w w':=by
 have HT:=cE (Bb w rb r hr most hm);have hrb:=hr.lt;have hnm:r.count most≤1000∧r.count most≤most:=by unfold Rd.count;split<;>omega
 have hcl:(r.dQ most).b.length≤1000000000:=aa (Rd.lG _ _) hl;obtain⟨N,hN⟩:=cG (r.count most);obtain⟨r1,kH⟩:=cG (r.dQ most);rw[←hN,←kH] at HT⊢;rw[←hN] at hnm;rw[←kH] at hcl;have pZ:=cE (cD hcl (cD HG hnm.2));have hnm:=hnm.1;obtain⟨i0,xF,hz0,hz1,hz2⟩:=info_parts XO;have HI:=cE (cD xF (cD hz0 (cD hz1 hz2)));clear hr hN kH xF hz0 hz1 hz2 hl hcl HG;go_enter func232,ntmps232
 go_wp2_with fail
 refine HT.out.mono ?_;rintro e w1 ⟨rfl,h1,h2⟩;have H1:=cE (cD h1 h2);clear h1 h2;go_wp2
 go_loopw [7,11] (fun uv kv wr=>∃(k:Nat) (L:List cV),k≤N∧kv=.i k∧Hid (L.length=k∧Vz w wr uv L (Rd.Ii k r1)∧eT wr rb (Rd.FL k r1)∧Kept (·=rb) w wr)) (fun _ kv _=>N - (intOf kv).toNat)
 case atStart=>exact⟨0,[],by omega,rfl,cE ⟨rfl,⟨aY _ _ _ _,⟨rfl,fun k q x h=>by simp at h⟩,fun _=>rfl⟩,H1.out⟩⟩
 obtain⟨k,L,hk,rfl,HS⟩:=hrel;by_cases hlt:k<N
 ·obtain⟨QV,⟨ho,hlk,_⟩,hR,hK⟩:=HS.out
  rw[QV] at ho;have Y2:=cE (pZ.out.2.1 (by have:=pZ.out.2.2;omega) wr rb _ hR (aa (Rd.Lm _ _) pZ.out.1));have H0:=cE (cD QV (cD ho (cD hlk hK)));clear QV ho hlk hR hK;go_wp2_with fail
  refine Y2.out.mono ?_;rintro e w2 ⟨⟨ok,op,oa,on,oc,ov,os,oe,qa,qn,qc⟩,rfl,hlf,hqs,h1,h2⟩;unfold cV.val cV.cells;dsimp only;have hown:=fm H0.out.2.1 h2 (fun g hg e=>by have:=(H0.out.2.1.lt g hg).1;have e:g=rb:=e;omega);have Jc:=(H0.out.2.2.1.dP h2 (fun b h _ e=>by have:=h.2;have e:b=rb:=e;omega)).more (hlf.both (fun b h _=>⟨fun e=>by have:=(H0.out.2.1.lt b e).2;have h:wr.heap.size≤b:=h;omega,aa H0.out.2.2.2.size h⟩)) hqs;have hsz:w.heap.size≤w2.heap.size:=aa H0.out.2.2.2.size h2.size;have H2:=cE (cD hown (cD Jc (cD h1 (H0.out.2.2.2.trans h2))));clear h1 h2 hown Jc hlf hqs;go_wp2_with (at_builtin;refine ef rfl (.tmp 13) (.tmp 17) 33 rfl w.heap.size 35 i0 (.agg #[.B,.z,.n,.I,.F,.F,.n]) 7 88 underlying33 HI.out.1 HI.out.2.1 HI.out.2.2.1 HI.out.2.2.2 rfl cM _ k _ rfl (H2.out.1.alloc _) ⟨w2.heap.size,0,none⟩ 1 1 [.b ok,.s op,.slice oa on oc,.i ov,.bool os,.bool oe,.slice qa qn qc] rfl rfl (Am w2 _ _) (by intro u hu;simp at hu;rcases hu with rfl|rfl|rfl|rfl|rfl|rfl|rfl<;>rfl) (by unfold maxLen;omega) cL (by simp;omega) ?_;intro v5 w5 hown5 hgrow5 hwh5)
  have hba:=cR (aC _ w2) (.cells #[.b ok,.s op,.slice oa on oc,.i ov,.bool os,.bool oe,.slice qa qn qc] 35);have Gi:Kept (·=rb) w w5:=(H2.out.2.2.2.trans (dm hba)).grown hgrow5 (fun g hg=>.inl (H2.out.1.lt g hg).1);have GN:eT w5 rb (Rd.FL (k+1) r1):=(H2.out.2.2.1.below hba).kept (jD hgrow5) (fun b hb e=>by have:=(H2.out.1.lt b e).1;omega);have ju:nU w5 (fun k=>v5.ownBlock≠some k∧w.heap.size≤k) (L++[⟨ok,op,oa,on,oc,ov,os,oe,qa,qn,qc⟩]) (Rd.Ii (k+1) r1):=by
   rw[show Rd.Ii (k+1) r1=Rd.Ii k r1++[(Rd.FL k r1).js] from rfl];have g1:=H2.out.2.1.both (lo':=fun k=>(u7.ownBlock≠some k∧v5.ownBlock≠some k)∧w.heap.size≤k) (fun k h hk=>⟨⟨h.1,fun e=>by
    rcases hwh5 k e with h3|h3
    ·exact h.1 h3
    simp at h3;omega⟩,h.2⟩)
   exact((g1.dP (dm (S:=fun _=>False) hba) (fun _ _ _ h=>h)).dP (jD hgrow5) (fun b h _ e=>h.1.1 e)).both (fun k h _=>⟨h.1.2,h.2⟩)
  have hrow:(L.flatMap cV.cells)++[.b ok,.s op,.slice oa on oc,.i ov,.bool os,.bool oe,.slice qa qn qc]=(L++[⟨ok,op,oa,on,oc,ov,os,oe,qa,qn,qc⟩]:List cV).flatMap cV.cells:=by rw[bq];simp[cV.cells]
  rw[hrow] at hown5;have Sb:Hid ((L++[⟨ok,op,oa,on,oc,ov,os,oe,qa,qn,qc⟩]:List cV).length=k+1∧Vz w w5 v5 (L++[⟨ok,op,oa,on,oc,ov,os,oe,qa,qn,qc⟩]) (Rd.Ii (k+1) r1)∧eT w5 rb (Rd.FL (k+1) r1)∧Kept (·=rb) w w5):=cE (by
   have hlen:(L++[⟨ok,op,oa,on,oc,ov,os,oe,qa,qn,qc⟩]:List cV).length=k+1:=by rw[af,H0.out.1];rfl
   exact⟨hlen,⟨by rw[hlen];exact hown5,ju,fun e=>by simp at e⟩,GN,Gi⟩)
  clear hown5 hgrow5 hwh5 Gi GN hrow hsz ju hba;go_wp2
  go_roundw
  case rel=>exact⟨k+1,_,by omega,by go_num,Sb⟩
  case measure=>simp[intOf];omega
 obtain rfl:N=k:=by omega
 have t1:decide ((N:Int)<(N:Int))=false:=by simp
 have t2:decide (N<N)=false:=by simp
 clear hlt hk;go_wp2
 go_ret
 exact⟨_,L,rfl,HS.out.2⟩
theorem Lj{w:ah}{base:Nat}{v:aA}{L:List cV}(h:w.ownsRow base 35 7 v L.length (L.flatMap cV.cells)):∃a c,v=.slice a L.length c∧(∀(k:Nat) x,L[k]?=some x→∃g,a=some ⟨g,0,none⟩∧base≤g∧g<w.heap.size∧w.rangeAt g (k*7) x.cells):=by
 rcases h.2 with ⟨h1,h0⟩|⟨g,cap,cur,h1,zn,hg,_⟩
 ·have:L=[]:=aN h0
  subst this;exact⟨none,0,h1,fun k r hk=>by simp at hk⟩
 have hl:=h.lt g (by rw[h1];rfl);refine⟨some ⟨g,0,none⟩,cap,h1,fun k r hk=>⟨g,rfl,hl.1,hl.2,fun j u hu=>?_⟩⟩;have:=h.cells (g:=g) (by rw[h1];rfl) (k*7+j) u (ER L k r hk j u hu);rw[Addr.add_mid,aT] at this;exact this
def OC(w:ah)(rb:Nat)(r:Rd)(most:Nat)(e:Ending)(w':ah):Prop:=∃(q:cV) (L:List cV),e=.returned q.val∧eZ w' (fQ w.heap.size) q r.js∧q.pn=L.length∧nU w' (fQ w.heap.size) L (Rd.Ii (r.leaf.count most) (r.leaf.dQ most))∧(∀(k:Nat) x,L[k]?=some x→∃g,q.pa=some ⟨g,0,none⟩∧w.heap.size≤g∧g<w'.heap.size∧w'.rangeAt g (k*7) x.cells)∧(L=[]→q.pa=none∧q.pc=0)∧eT w' rb (Rd.FL (r.leaf.count most) (r.leaf.dQ most))∧Kept (·=rb) w w'
theorem Uz(w:ah)(rb:Nat)(r:Rd)(hr:eT w rb r)(hl:r.b.length≤1000000000)(most:Nat)(hm:most≤1000)(HG:0<most→GJ):
  an prog 136 #[.p rb,.i most] w (OC w rb r most):=by
 have hrb:=hr.lt;obtain⟨w1,hw1,de,hs1,eW⟩:=dO w [.B,.z,.n,.I,.F,.F,.n] 35;have kH:=hr.below de;have hl1:(r.take 1).b.length≤1000000000:=aa (Rd.gP _ _) hl;have HL:=cE (cD hl1 (aa (Rd.sA (r.take 1) 64) hl1));have HW:=cE (cD hw1 (cD de kH));have HGG:=cE (cD hl (cD hm HG));have eY:Hid (cH 35 7):=cE cK;clear hr hw1 eW de hl hl1 kH HG hm;go_enter func136,ntmps136
 go_wp2_with fail
 rw[←HW.out.1];go_cut [5] (fun bv wc=>aal w1 rb r.js r.leaf bv wc)
 case first=>
  refine rT fun wd hd=>?_
  refine tI 0 rfl trivial ?_;refine tI 2 rfl trivial ?_;refine tI 5 rfl trivial ?_;refine tI 7 rfl trivial ?_;simp only[cQ];refine tI 9 rfl trivial ?_;refine tI 11 rfl trivial ?_;simp only[cQ];have H0:Hid (s9 w1 wd rb r none none 0 [] none 0 []):=cE ⟨HW.out.2.2.below hd,dm hd,(fun bb e=>by cases e),JC _ _,JC _ _,by omega⟩;clear hd;refine jN 1 14 rfl rfl cK cO cO _ _ (by go_simp<;>first|rfl|exact⟨rfl,rfl⟩) (.p (aP _ |>.size)) (aM _ (.cells #[.B,.z,.n,.I,.F,.F,.n] 35)) (by go_simp<;>first|rfl|exact⟨rfl,rfl⟩) ?_ (trivial) ?_
  rotate_left
  simp only[cQ];have H0:=cE H0.out.alloc
  rotate_right
  all_goals try refine cI 1 rfl ?_
  all_goals refine(Fz _ rb _ H0.out.rd).mono ?_
  all_goals rintro e W1 ⟨rfl,g1,g2⟩
  all_goals have H1:=cE (H0.out.call g1 g2)
  all_goals refine⟨trivial,?_⟩
  all_goals try dsimp only
  all_goals simp only[cQ]
  all_goals clear g1 g2 H0
  refine jN 3 14 rfl rfl cK cO cO _ _ (by go_simp<;>first|rfl|exact⟨rfl,rfl⟩) (.p (aP _ |>.size)) (aM _ (.cells #[.B,.z,.n,.I,.F,.F,.n] 35)) (by go_simp<;>first|rfl|exact⟨rfl,rfl⟩) ?_ (trivial) ?_
  rotate_left
  simp only[cQ];have H1:=cE H1.out.alloc
  rotate_right
  all_goals try refine cI 3 rfl ?_
  all_goals refine(wN _ rb _ H1.out.rd HL.out.1 64 cM).mono ?_
  all_goals rintro e W2 ⟨pa,pc,rfl,gd,g1,g2⟩
  all_goals have H2:=cE (H1.out.path g1 g2 gd)
  all_goals refine⟨trivial,?_⟩
  all_goals try dsimp only
  all_goals simp only[cQ]
  all_goals clear g1 g2 gd H1
  all_goals refine O0 (S':=fun w'=>dN w' (fun b=>b≠rb) pa pc (r.take 1).nj) (fun _ _=>trivial) _ _ _ _ ?_
  all_goals have hS:=H2.out.dp.mono (lo':=fun b=>b≠rb) (fun b _ hb=>hb.1)
  all_goals have y2:∀w',dN w' (fun b=>b≠rb) pa pc (r.take 1).nj→(convert 32 9 (.slice pa (r.take 1).nj.length pc)).run prog w'=.ok (.string (bs (r.take 1).nj)) w':=fun w' hd=>rQ hd.at_ hd.nil
  all_goals refine tJ 4 rfl hS (fun w' h=>y2 w' h) ?_
  all_goals simp only[cQ]
  all_goals clear y2 hS
  refine jN 6 14 rfl rfl cK cO cO _ _ (by go_simp<;>first|rfl|exact⟨rfl,rfl⟩) (.p (aP _ |>.size)) (aM _ (.cells #[.B,.z,.n,.I,.F,.F,.n] 35)) (by go_simp<;>first|rfl|exact⟨rfl,rfl⟩) ?_ ((H2.out.alloc.dp.mono (fun b _ hb=>hb.1))) ?_
  rotate_left
  simp only[cQ];have H2:=cE H2.out.alloc
  rotate_right
  all_goals try refine cI 6 rfl ?_
  all_goals refine(wN _ rb _ H2.out.rd HL.out.2 64 cM).mono ?_
  all_goals rintro e W3 ⟨da,dc,rfl,gd,g1,g2⟩
  all_goals have H3:=cE (H2.out.data g1 g2 gd)
  all_goals refine⟨(H3.out.dp.mono (fun b _ hb=>hb.1)),?_⟩
  all_goals try dsimp only
  all_goals simp only[cQ]
  all_goals clear g1 g2 gd H2
  refine jN 8 14 rfl rfl cK cO cO _ _ (by go_simp<;>first|rfl|exact⟨rfl,rfl⟩) (.p (aP _ |>.size)) (aM _ (.cells #[.B,.z,.n,.I,.F,.F,.n] 35)) (by go_simp<;>first|rfl|exact⟨rfl,rfl⟩) ?_ ((H3.out.alloc.dp.mono (fun b _ hb=>hb.1))) ?_
  rotate_left
  simp only[cQ];have H3:=cE H3.out.alloc
  rotate_right
  all_goals try refine cI 8 rfl ?_
  all_goals refine(S7 _ rb _ H3.out.rd).mono ?_
  all_goals rintro e W4 ⟨rfl,g1,g2⟩
  all_goals have H4:=cE (H3.out.call g1 g2)
  all_goals refine⟨(H4.out.dp.mono (fun b _ hb=>hb.1)),?_⟩
  all_goals try dsimp only
  all_goals simp only[cQ]
  all_goals clear g1 g2 H3
  refine jN 10 14 rfl rfl cK cO cO _ _ (by go_simp<;>first|rfl|exact⟨rfl,rfl⟩) (.p (aP _ |>.size)) (aM _ (.cells #[.B,.z,.n,.I,.F,.F,.n] 35)) (by go_simp<;>first|rfl|exact⟨rfl,rfl⟩) ?_ ((H4.out.alloc.dp.mono (fun b _ hb=>hb.1))) ?_
  rotate_left
  simp only[cQ];have H4:=cE H4.out.alloc
  rotate_right
  all_goals try refine cI 10 rfl ?_
  all_goals refine(BY _ rb _ H4.out.rd).mono ?_
  all_goals rintro e W5 ⟨rfl,g1,g2⟩
  all_goals have H5:=cE (H4.out.call g1 g2)
  all_goals refine⟨(H5.out.dp.mono (fun b _ hb=>hb.1)),?_⟩
  all_goals try dsimp only
  all_goals simp only[cQ]
  all_goals clear g1 g2 H4
  refine jN 12 14 rfl rfl cK cO cO _ _ (by go_simp<;>first|rfl|exact⟨rfl,rfl⟩) (.p (aP _ |>.size)) (aM _ (.cells #[.B,.z,.n,.I,.F,.F,.n] 35)) (by go_simp<;>first|rfl|exact⟨rfl,rfl⟩) ?_ ((H5.out.alloc.dp.mono (fun b _ hb=>hb.1))) ?_
  rotate_left
  simp only[cQ];have H5:=cE H5.out.alloc
  rotate_right
  all_goals try refine cI 12 rfl ?_
  all_goals refine(BY _ rb _ H5.out.rd).mono ?_
  all_goals rintro e W6 ⟨rfl,g1,g2⟩
  all_goals have H6:=cE (H5.out.call g1 g2)
  all_goals refine⟨(H6.out.dp.mono (fun b _ hb=>hb.1)),?_⟩
  all_goals try dsimp only
  all_goals simp only[cQ]
  all_goals clear g1 g2 H5
  all_goals refine tI 13 rfl (H6.out.dp.mono (fun b _ hb=>hb.1)) ?_
  all_goals simp only[cQ]
  refine gI 14 rfl (.p (aP _ |>.size)) (aM _ (.cells #[.B,.z,.n,.I,.F,.F,.n] 35)) (H6.out.alloc.dp.mono (fun b _ hb=>hb.1)) ?_;simp only[cQ];have H6:=cE H6.out.alloc
  all_goals have gu:Hid ((#[.b r.js.kind,.s r.js.path,.slice da r.js.data.length dc,.i r.js.gS,.bool r.js.seq,.bool r.js.mM,.n]:Array aA).all (·.oneCell')=true):=cE (by simp[aj])
  all_goals refine sI 15 rfl 35 (.tmp 5) (.tmp 19) _ 0 #[.b r.js.kind,.s r.js.path,.slice da r.js.data.length dc,.i r.js.gS,.bool r.js.seq,.bool r.js.mM,.n] (ei (H6.out.bx _ rfl).1 cN) eY.out gu.out ((H6.out.dp.kept (jX _ _ _) (fun b hb _ e=>hb.2 (congrArg some (Eq.symm e)))).mono (fun b _ hb=>hb.1)) ?_
  all_goals simp only[cQ]
  all_goals refine aG cK ?_ _
  all_goals have HX:=cE (s9.box (x:=r.js) H6.out)
  all_goals clear H6
  all_goals go_wp2_with fail
  all_goals (go_meet;case rel=>exact HX.out)
 case rest=>
 obtain⟨bb,a,c,rfl,gM,iQ,hR,hK,hD⟩:=hcut;obtain⟨w4,lP⟩:=cG wc;subst lP;have HLO:=cE (IJ w4 rb _ hR (aa (Rd.FU r) HGG.out.1) most HGG.out.2.1 HGG.out.2.2);have H4:=cE (cD gM (cD hR (cD hK hD)));clear gM hR hK hD;go_wp2_with fail
 refine HLO.out.mono ?_;rintro e w5 ⟨v,L,rfl,ho,h1,h2⟩;obtain⟨x,hx⟩:=cG r.js;obtain⟨qa,qc,rfl,hrow⟩:=Lj ho.1;have J6:=aO H4.out.1;have Dd:=(h2.block bb J6 (fun e=>by have e:bb=rb:=e;omega)).trans H4.out.1;have hD:=H4.out.2.2.2;rw[←hx] at Dd hD;have c6:w5.cell? ⟨bb,6,none⟩=some (.n):=aX _ _ 6 _ 35 (0,0) Dd;have f6:w5.frozen? ⟨bb,6,none⟩=false:=by simp[aW,Dd]
 obtain⟨w6,l6⟩:=cG (w5.setCell ⟨bb,6,none⟩ (.slice qa L.length qc));have K6:Kept (·=bb) w5 w6:=by rw[l6];exact Kept.setCell (S:=(·=bb)) (p:=⟨bb,6,none⟩) (Kept.refl _ w5) rfl _
 have Gc:w6.heap[bb]?=some (.cells #[.b x.kind,.s x.path,.slice a x.data.length c,.i x.gS,.bool x.seq,.bool x.mM,.slice qa L.length qc] 35 (0,0)):=by rw[l6];simp[bh,aV,Dd]
 have J7:Kept (·=rb) w1 w6:=(H4.out.2.2.1.trans h2).sY K6 iQ;have hd6:dN w6 (fun b=>w1.heap.size≤b) a c x.data:=((hD.kept h2 (fun b hb _ e=>by have:=hb.1;have e:b=rb:=e;omega)).kept K6 (fun b hb _ e=>hb.2 e)).mono (fun b _ hb=>hb.1);have akd:=H4.out.2.2.1.size;have afW:nU w6 (fun b=>w1.heap.size≤b) L (Rd.Ii (r.leaf.count most) (r.leaf.dQ most)):=(ho.2.1.dP K6 (fun b hb _ e=>by have:=hb.2;have e:b=bb:=e;omega)).both (fun b hb _=>by have:=hb.2;omega);have EC:∀(k:Nat) y,L[k]?=some y→∃g,qa=some ⟨g,0,none⟩∧w1.heap.size≤g∧g<w6.heap.size∧w6.rangeAt g (k*7) y.cells:=fun k y hy=>by
  obtain⟨g,e1,e2,e3,e4⟩:=hrow k y hy;exact⟨g,e1,by omega,aF e3 K6.size,fun j u hu=>(K6.cell (p:=⟨g,k*7+j,none⟩) e3 (fun e=>by have e:g=bb:=e;omega)).trans (e4 j u hu)⟩
 have mX:=cE (dD Gc);have HT:Hid (w6.there w.heap.size 0 7):=cE (lI HW.out.1 J7 (fun e=>by have e:w.heap.size=rb:=e;omega));have gu:Hid ((#[.b x.kind,.s x.path,.slice a x.data.length c,.i x.gS,.bool x.seq,.bool x.mM,.slice qa L.length qc]:Array aA).all (·.oneCell')=true):=cE (by simp[aj]);have H6:=cE (cD (h1.kept K6 (fun b hb e=>by have e:b=bb:=e;omega)) (cD J7 (cD hd6 (cD afW (cD EC ho.2.2)))));have CO:=cE (cD l6 hx);clear h1 h2 Dd l6 K6 Gc J7 hd6 afW EC hrow ho hD hx akd J6;go_wp2_with (first
  |(rw[←CO.out.1];refine ag rfl 35 (.tmp 5) rfl bb 0 rfl [.b x.kind,.s x.path,.slice a x.data.length c,.i x.gS,.bool x.seq,.bool x.mM,.slice qa L.length qc] _ mX.out underlying35 rfl eY.out ?_)
  |(refine aB rfl 35 (.tmp 4) (.tmp 24) rfl w.heap.size 0 #[.b x.kind,.s x.path,.slice a x.data.length c,.i x.gS,.bool x.seq,.bool x.mM,.slice qa L.length qc] rfl rfl HT.out eY.out gu.out ?_))
 refine aL (di rfl _ _ w.heap.size 0 [.b x.kind,.s x.path,.slice a x.data.length c,.i x.gS,.bool x.seq,.bool x.mM,.slice qa L.length qc] _ rfl (ay _ _ _ _ HT.out) underlying35 rfl eY.out) rfl ?_;have K:=jX w6 w.heap.size [.b x.kind,.s x.path,.slice a x.data.length c,.i x.gS,.bool x.seq,.bool x.mM,.slice qa L.length qc];obtain⟨g1,g2,g3,g4,g5,g6⟩:=H6.out;have hne:∀b,w1.heap.size≤b→¬b=w.heap.size:=fun b hb e=>by omega
 unfold OC;rw[←CO.out.2];refine⟨⟨x.kind,x.path,a,x.data.length,c,x.gS,x.seq,x.mM,qa,L.length,qc⟩,L,rfl,⟨rfl,rfl,rfl,rfl,rfl,rfl,((g3.kept K (fun b hb _ e=>hne b hb e)).mono (lo':=fQ w.heap.size) (fun b _ hb=>by have hb:w1.heap.size≤b:=hb;show w.heap.size≤b;omega)).at_,g3.nil⟩,rfl,(g4.dP K (fun b hb _ e=>hne b hb e)).both (fun b hb _=>by have hb:w1.heap.size≤b:=hb;show w.heap.size≤b;omega),fun k y hy=>?_,fun e=>?_,g1.kept K (fun b hb e=>by have e:b=w.heap.size:=e;omega),((dm HW.out.2.1).trans g2).sY K (aq _)⟩
 ·obtain⟨g,e1,e2,e3,e4⟩:=g5 k y hy
  exact⟨g,e1,by omega,aF e3 K.size,fun j u hu=>(K.cell (p:=⟨g,k*7+j,none⟩) e3 (fun e=>hne g e2 e)).trans (e4 j u hu)⟩
 have:=g6 e;simp at this;exact⟨this.1,this.2.2⟩
theorem Uw:GJ:=fun w rb r hr hl=>by
 have hrb:=hr.lt;obtain⟨w1,hw1,de,hs1,eW⟩:=dO w [.B,.z,.n,.I,.F,.F,.n] 35;have HO:=cE (Uz w1 rb r (hr.below de) hl 0 cM (fun h=>absurd h (Nat.lt_irrefl 0)));have HW:=cE (cD hw1 de);have eY:Hid (cH 35 7):=cE cK;have h00:((0:Nat):Int)=0:=rfl;rw[h00] at HO;clear hr hw1 eW de hl h00;go_enter func233,ntmps233
 go_wp2_with fail
 rw[←HW.out.1];refine HO.out.mono ?_;rintro e w2 ⟨⟨ok,op,oa,on,oc,ov,os,oe,qa,qn,qc⟩,L,rfl,h1,h2,h3,h4,h5,h6,h7⟩;have hc0:r.leaf.count 0=0:=by unfold Rd.count;split<;>omega
 rw[hc0] at h3 h6;have hL:L=[]:=aN h3.1;subst hL;obtain⟨rfl,rfl⟩:=h5 rfl;have h2:qn=0:=h2;subst h2;unfold cV.val cV.cells;dsimp only;have HT:Hid (w2.there w.heap.size 0 7):=cE (lI HW.out.1 h7 (fun e=>by have e:w.heap.size=rb:=e;omega));have gu:Hid ((#[.b ok,.s op,.slice oa on oc,.i ov,.bool os,.bool oe,.n]:Array aA).all (·.oneCell')=true):=cE (by simp[aj]);have H2:=cE (cD h1 (cD h6 h7));clear h1 h3 h4 h5 h6 h7 hc0;go_wp2_with (refine aB rfl 35 (.tmp 2) (.tmp 4) rfl w.heap.size 0 #[.b ok,.s op,.slice oa on oc,.i ov,.bool os,.bool oe,.n] rfl rfl HT.out eY.out gu.out ?_)
 refine aL (di rfl _ _ w.heap.size 0 [.b ok,.s op,.slice oa on oc,.i ov,.bool os,.bool oe,.n] _ rfl (ay _ _ _ _ HT.out) underlying35 rfl eY.out) rfl ?_;have K:=jX w2 w.heap.size [.b ok,.s op,.slice oa on oc,.i ov,.bool os,.bool oe,.n];exact⟨⟨ok,op,oa,on,oc,ov,os,oe,none,0,0⟩,rfl,(H2.out.1.dP K (fun b hb _ e=>by have hb:w1.heap.size≤b:=hb;have e:b=w.heap.size:=e;omega)).both (fun b hb _=>by have hb:w1.heap.size≤b:=hb;show w.heap.size≤b;omega),⟨rfl,rfl,rfl⟩,H2.out.2.1.kept K (fun b hb e=>by have e:b=w.heap.size:=e;omega),((dm HW.out.2).trans H2.out.2.2).sY K (aq _)⟩
def sC(s:Int):Bool:=decide (0≤s)&&decide (s<3)
theorem yY(w:ah)(s n:Int):an prog 132 #[.agg #[.i s,.u n]] w fun e w'=>e=.returned (.bool (sC s))∧cF w w':=by
 unfold sC;obtain⟨w1,hw1,de,hs1,eW⟩:=dO w [.i s,.u n] 31;obtain⟨b0,t0⟩:∃b0,decide ((0:Int)≤s)=b0:=⟨_,rfl⟩;obtain⟨b1,t1⟩:∃b1,decide (s<(3:Int))=b1:=⟨_,rfl⟩;rw[t0,t1];have HW:=cE (cD hw1 de);clear hw1 de hs1 eW;cases b0 with
 |false=>
  go_enter func132,ntmps132
  go_wp2
  go_ret
  rw[←HW.out.1];exact⟨rfl,HW.out.2⟩
 |true=>
 cases b1 with
 |false=>
  go_enter func132,ntmps132
  go_wp2
  go_ret
  rw[←HW.out.1];exact⟨rfl,HW.out.2⟩
 |true=>
 go_enter func132,ntmps132
 go_wp2
 go_ret
 rw[←HW.out.1];exact⟨rfl,HW.out.2⟩
def M8(d:Nd):Bool:=decide (d.data.length=0)&&(decide (d.num.gS=0)&&(decide (d.num.C5=0)&&(decide (d.num.next=0)&&(ia d.num.os d.num.on&&(decide (d.num.made=0)&&(decide (d.num.EY=0)&&decide (d.num.DG=0)))))))
theorem Z8(x:Int):(x==0)=decide (x=0):=by by_cases h:x=0<;>simp[h]
theorem Sf(w:ah)(r:Raw)(d:Nd)(hn:r.num=d.num)(hd:r.n=d.data.length):an prog 178 #[r.val] w fun e w'=>e=.returned (.bool (M8 d))∧cF w w':=by
 obtain⟨da,dn,dc,⟨q1,q2,q3,q4,q5,q6,q7,q8⟩⟩:=r;obtain⟨D,q⟩:=d;dsimp only at hn hd;subst hn;unfold M8;dsimp only;rw[←hd];unfold Raw.val Raw.cells eL.cells;dsimp only;obtain⟨w1,hw1,de,hs1,eW⟩:=dO w [.slice da dn dc,.u q1,.u q2,.u q3,.i q4,.u q5,.v q6,.v q7,.v q8] 44;obtain⟨b0,hb0⟩:∃b0,decide (dn=0)=b0:=⟨_,rfl⟩;have t0:((dn:Int)==0)=b0:=by rw[←hb0];by_cases h:dn=0<;>simp[h]
 have t0':(dn==0)=b0:=by rw[←hb0];by_cases h:dn=0<;>simp[h]
 obtain⟨b1,ab8⟩:∃b,decide (q1=0)=b:=⟨_,rfl⟩;have t1:(q1==0)=b1:=(Z8 q1).trans ab8;obtain⟨b2,dz⟩:∃b,decide (q2=0)=b:=⟨_,rfl⟩;have t2:(q2==0)=b2:=(Z8 q2).trans dz;obtain⟨b3,eE⟩:∃b,decide (q3=0)=b:=⟨_,rfl⟩;have t3:(q3==0)=b3:=(Z8 q3).trans eE;obtain⟨b5,jE⟩:∃b,decide (q6=0)=b:=⟨_,rfl⟩;have t5:(q6==0)=b5:=(Z8 q6).trans jE;obtain⟨b6,qb⟩:∃b,decide (q7=0)=b:=⟨_,rfl⟩;have t6:(q7==0)=b6:=(Z8 q7).trans qb;obtain⟨b7,mL⟩:∃b,decide (q8=0)=b:=⟨_,rfl⟩;have t7:(q8==0)=b7:=(Z8 q8).trans mL;obtain⟨b4,hb4⟩:∃b,ia q4 q5=b:=⟨_,rfl⟩;have t4:=fun W:ah=>Np q4 q5 W
 rw[hb4] at t4;rw[hb0,ab8,dz,eE,hb4,jE,qb,mL];have HW:=cE (cD hw1 de);have eY:Hid (cH 31 2):=cE cK;have hrs:w1.rangeAt w.heap.size 4 [.i q4,.u q5]:=fun j u hu=>by
  have h1:=eW w1 (aC _ _) (4+j) u (by rcases(show j=0∨j=1 by have:=(aD.1 hu).1;simp at this;omega) with rfl|rfl<;>exact hu);rw[aT] at h1;exact h1
 have Ke:=cE hrs;clear hw1 de hs1 eW hrs hd hb0 ab8 dz eE hb4 jE qb mL;cases b0 with
 |false=>
  go_enter func178,ntmps178
  go_wp2_with (rw[←HW.out.1];refine ag rfl 31 (.tmp 23) rfl w.heap.size 4 rfl [.i q4,.u q5] _ Ke.out underlying31 rfl eY.out ?_)
  go_ret
  try rw[←HW.out.1]
  exact⟨rfl,HW.out.2⟩
 |true=>
 cases b1 with
 |false=>
  go_enter func178,ntmps178
  go_wp2_with (rw[←HW.out.1];refine ag rfl 31 (.tmp 23) rfl w.heap.size 4 rfl [.i q4,.u q5] _ Ke.out underlying31 rfl eY.out ?_)
  go_ret
  try rw[←HW.out.1]
  exact⟨rfl,HW.out.2⟩
 |true=>
 cases b2 with
 |false=>
  go_enter func178,ntmps178
  go_wp2_with (rw[←HW.out.1];refine ag rfl 31 (.tmp 23) rfl w.heap.size 4 rfl [.i q4,.u q5] _ Ke.out underlying31 rfl eY.out ?_)
  go_ret
  try rw[←HW.out.1]
  exact⟨rfl,HW.out.2⟩
 |true=>
 cases b3 with
 |false=>
  go_enter func178,ntmps178
  go_wp2_with (rw[←HW.out.1];refine ag rfl 31 (.tmp 23) rfl w.heap.size 4 rfl [.i q4,.u q5] _ Ke.out underlying31 rfl eY.out ?_)
  go_ret
  try rw[←HW.out.1]
  exact⟨rfl,HW.out.2⟩
 |true=>
 cases b4 with
 |false=>
  go_enter func178,ntmps178
  go_wp2_with (rw[←HW.out.1];refine ag rfl 31 (.tmp 23) rfl w.heap.size 4 rfl [.i q4,.u q5] _ Ke.out underlying31 rfl eY.out ?_)
  go_ret
  try rw[←HW.out.1]
  exact⟨rfl,HW.out.2⟩
 |true=>
 cases b5 with
 |false=>
  go_enter func178,ntmps178
  go_wp2_with (rw[←HW.out.1];refine ag rfl 31 (.tmp 23) rfl w.heap.size 4 rfl [.i q4,.u q5] _ Ke.out underlying31 rfl eY.out ?_)
  go_ret
  try rw[←HW.out.1]
  exact⟨rfl,HW.out.2⟩
 |true=>
 cases b6 with
 |false=>
  go_enter func178,ntmps178
  go_wp2_with (rw[←HW.out.1];refine ag rfl 31 (.tmp 23) rfl w.heap.size 4 rfl [.i q4,.u q5] _ Ke.out underlying31 rfl eY.out ?_)
  go_ret
  try rw[←HW.out.1]
  exact⟨rfl,HW.out.2⟩
 |true=>
 cases b7 with
 |false=>
  go_enter func178,ntmps178
  go_wp2_with (rw[←HW.out.1];refine ag rfl 31 (.tmp 23) rfl w.heap.size 4 rfl [.i q4,.u q5] _ Ke.out underlying31 rfl eY.out ?_)
  go_ret
  try rw[←HW.out.1]
  exact⟨rfl,HW.out.2⟩
 |true=>
 go_enter func178,ntmps178
 go_wp2_with (rw[←HW.out.1];refine ag rfl 31 (.tmp 23) rfl w.heap.size 4 rfl [.i q4,.u q5] _ Ke.out underlying31 rfl eY.out ?_)
 go_ret
 try rw[←HW.out.1]
 exact⟨rfl,HW.out.2⟩
def gR(w:ah)(K:Nat)(a:Option aJ)(cs:List (List aA)):Prop:=∀(k:Nat) c,cs[k]?=some c→∃b off,a=some ⟨b,off,none⟩∧b<w.heap.size∧w.rangeAt b (off+k*K) c∧c.length=K
theorem gR.below{w w':ah}{K:Nat}{a:Option aJ}{cs:List (List aA)}(h:gR w K a cs)(hb:cF w w'):gR w' K a cs:=fun k c hk=>by
 obtain⟨b,off,h1,h2,h3,h4⟩:=h k c hk;exact⟨b,off,h1,aF h2 hb.size,dA h3 hb h2,h4⟩
section
theorem abo(w:ah){a:Option aJ}{n c:Nat}{cs:List (List aA)}(hc:gR w 11 a cs)(hn:n=cs.length)(hl:n≤1000000000)(cv:aA)(bad:Nat→Bool)
  (HF:∀W,cF w W→∀(k:Nat) x,cs[k]?=some x→an prog 177 #[.agg x.toArray,cv] W fun e w'=>e=.returned (.bool (bad k))∧cF W w'):
  an prog 254 #[.slice a n c,.func (.func 177) #[] #[cv]] w fun e w'=>∃i:Int,e=.returned (.i i)∧decide (0≤i)=(au n).any bad∧cF w w':=by
 have HD:=cE (cD hc (cD hn HF));have eY:Hid (cH 93 11):=cE cK;clear hc hn HF;go_enter func254,ntmps254
 go_wp2
 go_loopw [8] (fun kv wr=>∃k:Nat,k≤n∧kv=.i k∧Hid ((au k).any bad=false∧cF w wr)) (fun kv _=>n - (intOf kv).toNat)
 case atStart=>exact⟨0,by omega,rfl,cE ⟨rfl,aC _ _⟩⟩
 obtain⟨k,hk,rfl,HS⟩:=hrel;by_cases hlt:k<n
 ·obtain⟨x,hx⟩:∃x,cs[k]?=some x:=⟨_,aS (by rw[←HD.out.2.1];exact hlt)⟩
  obtain⟨b,off,hao,hb,eW,hlen⟩:=HD.out.1 k x hx;subst hao;have mX:=cE (cD (dA eW HS.out.2 hb) hlen);have HC:=cE (HD.out.2.2 wr HS.out.2 k x hx);obtain⟨g,hg⟩:=cG (bad k);have HG:=cE hg;rw[←hg] at HC;clear eW hb hx hlen hg;go_wp2_with (refine ag rfl 93 (.tmp 14) rfl b (off+k*11) rfl x _ mX.out.1 underlying93 rfl (by rw[mX.out.2];exact eY.out) ?_)
  refine HC.out.mono ?_;rintro e w2 ⟨rfl,h1⟩;have H2:=cE (HS.out.2.trans (h1.mono HS.out.2.size));clear h1;cases g with
  |true=>
   have HB:Hid (decide ((0:Int)≤(k:Int))=(au n).any bad):=cE (by
    rw[List.any_eq_true.2 ⟨k,List.mem_range.2 hlt,HG.out.symm⟩];simp)
   go_wp2
   go_ret
   exact⟨k,rfl,HB.out,H2.out⟩
  |false=>
  have HB:Hid ((au (k+1)).any bad=false):=cE (by
   rw[List.range_succ,List.any_append,HS.out.1];simp[←HG.out])
  go_wp2
  go_roundw
  case rel=>exact⟨k+1,by omega,by go_num,cE ⟨HB.out,H2.out⟩⟩
  case measure=>simp[intOf];omega
 obtain rfl:n=k:=by omega
 have t1:decide ((n:Int)<(n:Int))=false:=by simp
 have t2:decide (n<n)=false:=by simp
 clear hlt hk;go_wp2
 go_ret
 exact⟨-1,rfl,by rw[HS.out.1];rfl,HS.out.2⟩
theorem Rm(w:ah){a:Option aJ}{n c:Nat}{cs:List (List aA)}(hc:gR w 11 a cs)(hn:n=cs.length)(hl:n≤1000000000)(cv:aA)(bad:Nat→Bool)
  (HF:∀W,cF w W→∀(k:Nat) x,cs[k]?=some x→an prog 177 #[.agg x.toArray,cv] W fun e w'=>e=.returned (.bool (bad k))∧cF W w'):
  an prog 176 #[.slice a n c,.func (.func 177) #[] #[cv]] w fun e w'=>e=.returned (.bool ((au n).any bad))∧cF w w':=by
 have HI:=cE (abo w (c:=c) hc hn hl cv bad HF);obtain⟨g,hg⟩:=cG ((au n).any bad);rw[←hg] at HI⊢;clear hc hn hl HF hg;go_enter func176,ntmps176
 go_wp2_with fail
 refine HI.out.mono ?_;rintro e w2 ⟨i,rfl,h0,h1⟩;have H1:=cE h1;clear h1;go_wp2
 go_ret
 exact⟨rfl,H1.out⟩
theorem alz(w:ah){a:Option aJ}{n c:Nat}{cs:List (List aA)}(hc:gR w 11 a cs)(hn:n=cs.length)(hl:n≤1000000000)(most:Nat)(may:Nat→Bool)
  (HF:∀W,cF w W→∀(k:Nat) x,cs[k]?=some x→n≤most→an prog 69 #[.agg x.toArray] W fun e w'=>e=.returned (.bool (may k))∧cF W w'):
  an prog 68 #[.slice a n c,.i most,.func (.func 69) #[] #[]] w fun e w'=>e=.returned (.bool (decide (n≤most)&&!(au n).any (fun k=>!may k)))∧cF w w':=by
 obtain⟨w1,hw1,de,hs1,eW⟩:=dO w [.func (.func 69) #[] #[]] 152;have HW:=cE (cD hw1 de);have eY:Hid (cH 93 11):=cE cK;have HA1:Hid (n≤most→∀W,cF w1 W→∀(k:Nat) x,cs[k]?=some x→an prog 177 #[.agg x.toArray,.p w.heap.size] W fun e w'=>e=.returned (.bool (!may k))∧cF W w'):=cE (fun hnm W hW k x hx=>by
  obtain⟨b,off,_,_,_,hlen⟩:=hc k x hx;have hfn:W.cell? ⟨w.heap.size,0,none⟩=some (.func (.func 69) #[] #[]):=eW W hW 0 _ rfl;obtain⟨wb,ym,iQ,hsb,hrb⟩:=dO W x 93;have HC:=cE (HF wb (de.trans ((hW.trans (iQ.mono hW.size)).mono de.size)) k x hx hnm);have HX:=cE (cD (hrb wb (aC _ _)) (cD ym (cD iQ hlen)));have abV:wb.cell? ⟨w.heap.size,0,none⟩=some (.func (.func 69) #[] #[]):=(iQ.cell (p:=⟨w.heap.size,0,none⟩) (aH _ _ hfn)).trans hfn;rw[ym] at abV;obtain⟨g,hg⟩:=cG (may k);rw[←hg] at HC⊢;clear hc HF hrb ym iQ hsb hlen hx hg hfn eW hW de hw1 hn hnm;go_enter func177,ntmps177
  go_wp2_with (rw[←HX.out.2.1];refine ag rfl 93 (.tmp 2) rfl W.heap.size 0 rfl x _ HX.out.1 underlying93 rfl (by rw[HX.out.2.2.2];exact eY.out) ?_)
  refine HC.out.mono ?_;rintro e w2 ⟨rfl,h1⟩;have H1:=cE (HX.out.2.2.1.trans (h1.mono HX.out.2.2.1.size));clear h1;go_wp2
  go_ret
  exact⟨rfl,H1.out⟩)
 have HC1:=cE (hc.below de);have HN:=cE hn;clear hc hn HF hw1 de hs1 eW;by_cases hnm:n≤most
 ·have t1:decide ((n:Int)≤(most:Int))=true:=by simp;omega
  have t2:decide (n≤most)=true:=by simpa using hnm
  rw[t2,Bool.true_and];have HCO:=cE (Rm w1 (c:=c) HC1.out HN.out hl (.p w.heap.size) (fun k=>!may k) (HA1.out hnm));obtain⟨g,hg⟩:=cG ((au n).any (fun k=>!may k));rw[←hg] at HCO⊢;clear hnm hg;go_enter func68,ntmps68
  go_wp2_with fail
  rw[←HW.out.1];refine HCO.out.mono ?_;rintro e w2 ⟨rfl,h1⟩;have H1:=cE (HW.out.2.trans (h1.mono HW.out.2.size));clear h1;go_wp2
  go_ret
  exact⟨rfl,H1.out⟩
 have t1:decide ((n:Int)≤(most:Int))=false:=by simp;omega
 have t2:decide (n≤most)=false:=by simpa using hnm
 rw[t2,Bool.false_and];clear hnm;go_enter func68,ntmps68
 go_wp2
 go_ret
 rw[←HW.out.1];exact⟨rfl,HW.out.2⟩
end
section
theorem abn(w:ah){a:Option aJ}{n c:Nat}{cs:List (List aA)}(hc:gR w 7 a cs)(hn:n=cs.length)(hl:n≤1000000000)(cv:aA)(bad:Nat→Bool)
  (HF:∀W,cF w W→∀(k:Nat) x,cs[k]?=some x→an prog 284 #[.agg x.toArray,cv] W fun e w'=>e=.returned (.bool (bad k))∧cF W w'):
  an prog 314 #[.slice a n c,.func (.func 284) #[] #[cv]] w fun e w'=>∃i:Int,e=.returned (.i i)∧decide (0≤i)=(au n).any bad∧cF w w':=by
 have HD:=cE (cD hc (cD hn HF));have eY:Hid (cH 35 7):=cE cK;clear hc hn HF;go_enter func314,ntmps314
 go_wp2
 go_loopw [8] (fun kv wr=>∃k:Nat,k≤n∧kv=.i k∧Hid ((au k).any bad=false∧cF w wr)) (fun kv _=>n - (intOf kv).toNat)
 case atStart=>exact⟨0,by omega,rfl,cE ⟨rfl,aC _ _⟩⟩
 obtain⟨k,hk,rfl,HS⟩:=hrel;by_cases hlt:k<n
 ·obtain⟨x,hx⟩:∃x,cs[k]?=some x:=⟨_,aS (by rw[←HD.out.2.1];exact hlt)⟩
  obtain⟨b,off,hao,hb,eW,hlen⟩:=HD.out.1 k x hx;subst hao;have mX:=cE (cD (dA eW HS.out.2 hb) hlen);have HC:=cE (HD.out.2.2 wr HS.out.2 k x hx);obtain⟨g,hg⟩:=cG (bad k);have HG:=cE hg;rw[←hg] at HC;clear eW hb hx hlen hg;go_wp2_with (refine ag rfl 35 (.tmp 14) rfl b (off+k*7) rfl x _ mX.out.1 underlying35 rfl (by rw[mX.out.2];exact eY.out) ?_)
  refine HC.out.mono ?_;rintro e w2 ⟨rfl,h1⟩;have H2:=cE (HS.out.2.trans (h1.mono HS.out.2.size));clear h1;cases g with
  |true=>
   have HB:Hid (decide ((0:Int)≤(k:Int))=(au n).any bad):=cE (by
    rw[List.any_eq_true.2 ⟨k,List.mem_range.2 hlt,HG.out.symm⟩];simp)
   go_wp2
   go_ret
   exact⟨k,rfl,HB.out,H2.out⟩
  |false=>
  have HB:Hid ((au (k+1)).any bad=false):=cE (by
   rw[List.range_succ,List.any_append,HS.out.1];simp[←HG.out])
  go_wp2
  go_roundw
  case rel=>exact⟨k+1,by omega,by go_num,cE ⟨HB.out,H2.out⟩⟩
  case measure=>simp[intOf];omega
 obtain rfl:n=k:=by omega
 have t1:decide ((n:Int)<(n:Int))=false:=by simp
 have t2:decide (n<n)=false:=by simp
 clear hlt hk;go_wp2
 go_ret
 exact⟨-1,rfl,by rw[HS.out.1];rfl,HS.out.2⟩
theorem Rl(w:ah){a:Option aJ}{n c:Nat}{cs:List (List aA)}(hc:gR w 7 a cs)(hn:n=cs.length)(hl:n≤1000000000)(cv:aA)(bad:Nat→Bool)
  (HF:∀W,cF w W→∀(k:Nat) x,cs[k]?=some x→an prog 284 #[.agg x.toArray,cv] W fun e w'=>e=.returned (.bool (bad k))∧cF W w'):
  an prog 283 #[.slice a n c,.func (.func 284) #[] #[cv]] w fun e w'=>e=.returned (.bool ((au n).any bad))∧cF w w':=by
 have HI:=cE (abn w (c:=c) hc hn hl cv bad HF);obtain⟨g,hg⟩:=cG ((au n).any bad);rw[←hg] at HI⊢;clear hc hn hl HF hg;go_enter func283,ntmps283
 go_wp2_with fail
 refine HI.out.mono ?_;rintro e w2 ⟨i,rfl,h0,h1⟩;have H1:=cE h1;clear h1;go_wp2
 go_ret
 exact⟨rfl,H1.out⟩
theorem aly(w:ah){a:Option aJ}{n c:Nat}{cs:List (List aA)}(hc:gR w 7 a cs)(hn:n=cs.length)(hl:n≤1000000000)(most:Nat)(may:Nat→Bool)
  (HF:∀W,cF w W→∀(k:Nat) x,cs[k]?=some x→n≤most→an prog 235 #[.agg x.toArray] W fun e w'=>e=.returned (.bool (may k))∧cF W w'):
  an prog 234 #[.slice a n c,.i most,.func (.func 235) #[] #[]] w fun e w'=>e=.returned (.bool (decide (n≤most)&&!(au n).any (fun k=>!may k)))∧cF w w':=by
 obtain⟨w1,hw1,de,hs1,eW⟩:=dO w [.func (.func 235) #[] #[]] 295;have HW:=cE (cD hw1 de);have eY:Hid (cH 35 7):=cE cK;have HA1:Hid (n≤most→∀W,cF w1 W→∀(k:Nat) x,cs[k]?=some x→an prog 284 #[.agg x.toArray,.p w.heap.size] W fun e w'=>e=.returned (.bool (!may k))∧cF W w'):=cE (fun hnm W hW k x hx=>by
  obtain⟨b,off,_,_,_,hlen⟩:=hc k x hx;have hfn:W.cell? ⟨w.heap.size,0,none⟩=some (.func (.func 235) #[] #[]):=eW W hW 0 _ rfl;obtain⟨wb,ym,iQ,hsb,hrb⟩:=dO W x 35;have HC:=cE (HF wb (de.trans ((hW.trans (iQ.mono hW.size)).mono de.size)) k x hx hnm);have HX:=cE (cD (hrb wb (aC _ _)) (cD ym (cD iQ hlen)));have abV:wb.cell? ⟨w.heap.size,0,none⟩=some (.func (.func 235) #[] #[]):=(iQ.cell (p:=⟨w.heap.size,0,none⟩) (aH _ _ hfn)).trans hfn;rw[ym] at abV;obtain⟨g,hg⟩:=cG (may k);rw[←hg] at HC⊢;clear hc HF hrb ym iQ hsb hlen hx hg hfn eW hW de hw1 hn hnm;go_enter func284,ntmps284
  go_wp2_with (rw[←HX.out.2.1];refine ag rfl 35 (.tmp 2) rfl W.heap.size 0 rfl x _ HX.out.1 underlying35 rfl (by rw[HX.out.2.2.2];exact eY.out) ?_)
  refine HC.out.mono ?_;rintro e w2 ⟨rfl,h1⟩;have H1:=cE (HX.out.2.2.1.trans (h1.mono HX.out.2.2.1.size));clear h1;go_wp2
  go_ret
  exact⟨rfl,H1.out⟩)
 have HC1:=cE (hc.below de);have HN:=cE hn;clear hc hn HF hw1 de hs1 eW;by_cases hnm:n≤most
 ·have t1:decide ((n:Int)≤(most:Int))=true:=by simp;omega
  have t2:decide (n≤most)=true:=by simpa using hnm
  rw[t2,Bool.true_and];have HCO:=cE (Rl w1 (c:=c) HC1.out HN.out hl (.p w.heap.size) (fun k=>!may k) (HA1.out hnm));obtain⟨g,hg⟩:=cG ((au n).any (fun k=>!may k));rw[←hg] at HCO⊢;clear hnm hg;go_enter func234,ntmps234
  go_wp2_with fail
  rw[←HW.out.1];refine HCO.out.mono ?_;rintro e w2 ⟨rfl,h1⟩;have H1:=cE (HW.out.2.trans (h1.mono HW.out.2.size));clear h1;go_wp2
  go_ret
  exact⟨rfl,H1.out⟩
 have t1:decide ((n:Int)≤(most:Int))=false:=by simp;omega
 have t2:decide (n≤most)=false:=by simpa using hnm
 rw[t2,Bool.false_and];clear hnm;go_enter func234,ntmps234
 go_wp2
 go_ret
 rw[←HW.out.1];exact⟨rfl,HW.out.2⟩
end
theorem Rd.pq(r:Rd):r.eF<4294967296:=by unfold Rd.eF;split<;>omega
theorem Sg:tY M9:=⟨⟨by decide,by decide⟩,⟨by decide,by decide⟩,⟨by decide,by decide⟩,⟨by decide,by decide⟩,⟨by decide,by decide⟩,⟨by decide,by decide⟩,⟨by decide,by decide⟩⟩
theorem sj(r:Rd):zL ((r.eF:Nat):Int):=⟨by omega,by have:=r.pq;omega⟩
theorem Fm(r:Rd):Oy ((r.num 8:Nat):Int):=⟨by omega,by have:=r.PM;omega⟩
theorem Rd.Tl(r:Rd):tY r.Eb.num:=⟨sj _,sj _,sj _,sj _,Fm _,Fm _,Fm _⟩
theorem Rd.Ni:∀(k:Nat) (r:Rd),(Rd.skip k r).b.length≤r.b.length
 |0,_=>aq _
 |k+1,r=>aa (Rd.gP _ _) (Rd.Ni k r)
theorem Rd.AJ(r:Rd):r.stamp.b.length≤r.b.length:=aa (Rd.Ni _ _) (Rd.lG _ _)
theorem zz{w:ah}{base:Nat}{v:aA}{L:List cZ}(h:w.ownsRow base 93 11 v L.length (L.flatMap cZ.cells)):∃a c,v=.slice a L.length c∧gC w w.heap.size a L∧(∀ad,a=some ad→base≤ad.block)∧(a=none→c=0):=by
 rcases h.2 with ⟨h1,h0⟩|⟨g,cap,cur,h1,zn,hg,_⟩
 ·have:L=[]:=aN h0
  subst this;exact⟨none,0,h1,fun k r hk=>by simp at hk,(fun ad e=>by cases e),fun _=>rfl⟩
 refine⟨some ⟨g,0,none⟩,cap,h1,fun k r hk=>⟨g,0,rfl,(h.lt g (by rw[h1];rfl)).2,fun j u hu=>?_⟩,(fun ad e=>by cases e;exact(h.lt g (by rw[h1];rfl)).1),(fun e=>by cases e)⟩;have:=h.cells (g:=g) (by rw[h1];rfl) (k*11+j) u (wQ L k r hk j u hu);rw[Addr.add_lit] at this;rw[show 0+k*11+j=0+(k*11+j) by omega];exact this
structure eu(w:ah)(lo:Nat→Prop)(r:dS)(L:List cZ)(x:gK):Prop where
 stamp:dr w lo r.sa x.stamp
 like:eV w lo L x.dB
 row:gC w w.heap.size r.ea L
 new:∀ad,r.ea=some ad→lo ad.block
theorem eu.below{w1 w2:ah}{lo:Nat→Prop}{r:dS}{L:List cZ}{x:gK}(h:eu w1 lo r L x)(hb:cF w1 w2):eu w2 lo r L x:=⟨h.stamp.below hb,h.like.below hb,(h.row.below hb).mono hb.size,h.new⟩
theorem eu.mono{w1:ah}{lo lo':Nat→Prop}{r:dS}{L:List cZ}{x:gK}(h:eu w1 lo r L x)(hl:∀b,lo b→lo' b):eu w1 lo' r L x:=⟨h.stamp.mono (fun b _ hb=>hl b hb),h.like.both (fun b hb _=>hl b hb),h.row,fun ad e=>hl _ (h.new ad e)⟩
theorem eu.kept{w1 w2:ah}{lo:Nat→Prop}{r:dS}{L:List cZ}{x:gK}{S:Nat→Prop}(h:eu w1 lo r L x)(hk:Kept S w1 w2)(hS:∀b,lo b→¬S b):eu w2 lo r L x:=by
 refine⟨h.stamp.kept hk (fun b hb _=>hS b hb),h.like.dP hk hS,fun k q hq=>?_,h.new⟩;obtain⟨b,off,e1,e2,e3⟩:=h.row k q hq;exact⟨b,off,e1,aF e2 hk.size,fun j v hv=>(hk.cell (p:=⟨b,off+k*11+j,none⟩) e2 (hS b (h.new _ e1))).trans (e3 j v hv)⟩
def Rd.wD(r:Rd):gK:=
 let r0:=r.place 3;let r1:=r0.take 8;let r2:=r1.dK (-1);let r3:=r2.take 8;let r4:=r3.stamp;let r5:=Rd.uL (r4.count 16) (r4.dQ 16)
 ⟨(r.iu 3:Nat),r0.num 8,r1.pF (-1),r2.num 8,r3.qh,Rd.rO (r4.count 16) (r4.dQ 16),r5.eF⟩
def Rd.item(r:Rd):Rd:=
 let r4:=(((r.place 3).take 8).dK (-1)).take 8 |>.stamp;(Rd.uL (r4.count 16) (r4.dQ 16)).small
theorem UC(w:ah)(rb:Nat)(r:Rd)(hr:eT w rb r)(hl:r.b.length≤1000000000):
  an prog 141 #[.p rb] w fun e w'=>∃q L,e=.returned (eN r.wD q)∧eu w' (fQ w.heap.size) q L r.wD∧eT w' rb r.item∧Kept (·=rb) w w':=by
 have hrb:=hr.lt;obtain⟨w1,hw1,de,hs1,eW⟩:=dO w [.I,.V,.I,.V,.n,.n,.U] 40;have HP:=cE (sN w1 rb r (hr.below de) 3 cM);have HW:=cE (cD hw1 de);unfold Rd.wD Rd.item;dsimp only;have J6:((((((r.place 3).take 8).dK (-1)).take 8).stamp)).b.length≤1000000000:=aa (Rd.AJ _) (aa (Rd.gP _ _) (aa (Rd.KV _ _) (aa (Rd.gP _ _) (aa (Rd.lZ _ _) hl))));obtain⟨r0,Jb⟩:=cG (r.place 3);rw[←Jb] at HP J6⊢;obtain⟨v0,TU⟩:=cG (r.iu 3);rw[←TU] at HP⊢;have HL4:=cE J6;have eY:Hid (cH 40 7):=cE cK;clear hr Jb TU hw1 eW de hl J6;go_enter func141,ntmps141
 go_wp2_with fail
 rw[←HW.out.1];refine HP.out.mono ?_;rintro e w2 ⟨rfl,h1,h2⟩;have H2:=cE (cD h1 h2);clear h1 h2;go_wp2_with fail
 refine(lM w2 rb r0 H2.out.1).mono ?_;rintro e w3 ⟨rfl,h1,h2⟩;have H3:=cE (cD h1 (H2.out.2.trans h2));clear h1 h2 H2;go_wp2_with fail
 refine(BX w3 rb _ H3.out.1 (-1)).mono ?_;rintro e w4 ⟨rfl,h1,h2⟩;have H4:=cE (cD h1 (H3.out.2.trans h2));clear h1 h2 H3;go_wp2_with fail
 refine(lM w4 rb _ H4.out.1).mono ?_;rintro e w5 ⟨rfl,h1,h2⟩;have H5:=cE (cD h1 (H4.out.2.trans h2));clear h1 h2 H4;go_wp2_with fail
 refine(EK w5 rb _ H5.out.1).mono ?_;rintro e w6 ⟨sa,sn,sc,rfl,h0,h1,h2⟩;obtain⟨w7,nY,mL,XW,hr7⟩:=dO w6 [.i (v0:Int),.v (r0.num 8:Nat),.i ((r0.take 8).pF (-1)),.v (((r0.take 8).dK (-1)).num 8:Nat),.slice sa sn sc,.n,.U] 40;have H6:=cE (cD h1 (cD (H5.out.2.trans h2) (cD h0 (H5.out.2.size))));have Kb:=cE (cD nY mL);clear h1 h2 h0 H5 nY mL XW hr7;go_wp2_with fail
 rw[←Kb.out.1];refine(IK w7 rb _ (H6.out.1.below Kb.out.2) HL4.out 16 cM).mono ?_;obtain⟨r4,We⟩:=cG ((((r0.take 8).dK (-1)).take 8).stamp);rw[←We];have HR4:=cE We;clear We;rintro e w8 ⟨v,L,rfl,ho,h1,h2⟩;obtain⟨ea,ec,rfl,g1,g2,_⟩:=zz ho.1;have Yj:w6.heap.size<w7.heap.size:=by rw[Kb.out.1];simp
 have hne:w6.heap.size≠rb:=by have:=H6.out.2.1.size;omega
 have Yg:w8.heap[w6.heap.size]?=some (.cells #[.i (v0:Int),.v (r0.num 8:Nat),.i ((r0.take 8).pF (-1)),.v (((r0.take 8).dK (-1)).num 8:Nat),.slice sa sn sc,.n,.U] 40 (0,0)):=(h2.block _ Yj (fun e=>hne e)).trans (by rw[Kb.out.1];exact aK w6 _);have c5:w8.cell? ⟨w6.heap.size,5,none⟩=some (.n):=aX _ _ 5 _ 40 (0,0) Yg;have f5:w8.frozen? ⟨w6.heap.size,5,none⟩=false:=by simp[aW,Yg]
 obtain⟨w9,nL⟩:=cG (w8.setCell ⟨w6.heap.size,5,none⟩ (.slice ea L.length ec));have K9:Kept (·=w6.heap.size) w8 w9:=by rw[nL];exact Kept.setCell (S:=(·=w6.heap.size)) (p:=⟨w6.heap.size,5,none⟩) (Kept.refl _ w8) rfl _
 have agh:w9.heap[w6.heap.size]?=some (.cells #[.i (v0:Int),.v (r0.num 8:Nat),.i ((r0.take 8).pF (-1)),.v (((r0.take 8).dK (-1)).num 8:Nat),.slice sa sn sc,.slice ea L.length ec,.U] 40 (0,0)):=by rw[nL];simp[bh,aV,Yg]
 have Wk:Kept (·=rb) w1 w9:=((H6.out.2.1.trans (dm Kb.out.2)).trans h2).sY K9 (by have:=H6.out.2.1.size;omega);have akc:=H6.out.2.2.2;have QG:=H6.out.2.1.size;have hout:eu w9 (fun k=>w1.heap.size≤k∧k≠w6.heap.size) ⟨sa,sc,ea,ec⟩ L ⟨(v0:Int),r0.num 8,(r0.take 8).pF (-1),((r0.take 8).dK (-1)).num 8,(((r0.take 8).dK (-1)).take 8).qh,Rd.rO (r4.count 16) (r4.dQ 16),(Rd.uL (r4.count 16) (r4.dQ 16)).eF⟩:=by
  have z0:=(H6.out.2.2.1.2).mono (lo':=fun k=>w1.heap.size≤k∧k≠w6.heap.size) (fun b hb h=>⟨by have h:w5.heap.size≤b:=h;omega,by omega⟩);have z1:=((z0.below Kb.out.2).kept h2 (fun b hb _ e=>by have e:b=rb:=e;have:=hb.1;omega)).kept K9 (fun b hb _ e=>hb.2 e);have z2:eV w8 (fun k=>w1.heap.size≤k∧k≠w6.heap.size) L (Rd.rO (r4.count 16) (r4.dQ 16)):=ho.2.both (fun k h _=>⟨by have:=h.2;omega,by have:=h.2;omega⟩);have z3:=z2.dP K9 (fun b hb e=>hb.2 e);refine⟨z1,z3,fun k q hq=>?_,fun ad e=>⟨by have:=g2 ad e;omega,by have:=g2 ad e;omega⟩⟩;obtain⟨b,off,e1,e2,e3⟩:=g1 k q hq;have mL:=g2 _ e1;exact⟨b,off,e1,aF e2 K9.size,fun j v hv=>(K9.cell (p:=⟨b,off+k*11+j,none⟩) e2 (fun e=>by have e:b=w6.heap.size:=e;have mL:w7.heap.size≤b:=mL;omega)).trans (e3 j v hv)⟩
 obtain⟨u,hu⟩:=cG ((Rd.uL (r4.count 16) (r4.dQ 16)).eF);have J4:=lF w9 rb _ (h1.kept K9 (fun b hb e=>by have e:b=w6.heap.size:=e;omega));rw[←hu] at J4 hout;have H9:=cE (cD J4 (cD hout (cD Wk (cD agh (cD ho.1.1 ho.2.1)))));have VB:=cE (cD nL hu);have HLE:Hid (L.length=(Rd.rO (r4.count 16) (r4.dQ 16)).length):=cE ho.2.1;clear ho h1 h2 g1 g2 Yg nL K9 agh Wk hout J4 hu akc QG;go_wp2_with fail
 rw[←VB.out.1];refine H9.out.1.mono ?_;rintro e kq ⟨rfl,h1,h2⟩;have N8:=(h2.block w6.heap.size (aO H9.out.2.2.2.1) (fun e=>hne e)).trans H9.out.2.2.2.1;have c6:kq.cell? ⟨w6.heap.size,6,none⟩=some (.U):=aX _ _ 6 _ 40 (0,0) N8;have f6:kq.frozen? ⟨w6.heap.size,6,none⟩=false:=by simp[aW,N8]
 obtain⟨p8,qN⟩:=cG (kq.setCell ⟨w6.heap.size,6,none⟩ (.u (u:Int)));have K11:Kept (·=w6.heap.size) kq p8:=by rw[qN];exact Kept.setCell (S:=(·=w6.heap.size)) (p:=⟨w6.heap.size,6,none⟩) (Kept.refl _ kq) rfl _
 have ZW:p8.heap[w6.heap.size]?=some (.cells #[.i (v0:Int),.v (r0.num 8:Nat),.i ((r0.take 8).pF (-1)),.v (((r0.take 8).dK (-1)).num 8:Nat),.slice sa sn sc,.slice ea L.length ec,.u (u:Int)] 40 (0,0)):=by rw[qN];simp[bh,aV,N8]
 have QG:=H6.out.2.1.size;have abR:Kept (·=rb) w1 p8:=(H9.out.2.2.1.trans h2).sY K11 QG;have mX:=cE (dD ZW);have HT:Hid (p8.there w.heap.size 0 7):=cE (lI HW.out.1 abR (fun e=>by have e:w.heap.size=rb:=e;omega));have gu:Hid ((#[.i (v0:Int),.v (r0.num 8:Nat),.i ((r0.take 8).pF (-1)),.v (((r0.take 8).dK (-1)).num 8:Nat),.slice sa sn sc,.slice ea L.length ec,.u (u:Int)]:Array aA).all (·.oneCell')=true):=cE (by simp[aj]);have VQ:=cE (cD (h1.kept K11 (fun b hb e=>by have e:b=w6.heap.size:=e;omega)) (cD abR ((H9.out.2.1.kept h2 (fun b hb e=>by have:=hb.1;have e:b=rb:=e;omega)).kept K11 (fun b hb e=>hb.2 e))));have JR:=cE qN;clear h1 h2 N8 qN K11 ZW abR QG;go_wp2_with (first
  |(rw[←JR.out];refine ag rfl 40 (.tmp 3) rfl w6.heap.size 0 rfl [.i (v0:Int),.v (r0.num 8:Nat),.i ((r0.take 8).pF (-1)),.v (((r0.take 8).dK (-1)).num 8:Nat),.slice sa sn sc,.slice ea L.length ec,.u (u:Int)] _ mX.out underlying40 rfl eY.out ?_)
  |(refine aB rfl 40 (.tmp 2) (.tmp 21) rfl w.heap.size 0 #[.i (v0:Int),.v (r0.num 8:Nat),.i ((r0.take 8).pF (-1)),.v (((r0.take 8).dK (-1)).num 8:Nat),.slice sa sn sc,.slice ea L.length ec,.u (u:Int)] rfl rfl HT.out eY.out gu.out ?_))
 refine aL (di rfl _ _ w.heap.size 0 [.i (v0:Int),.v (r0.num 8:Nat),.i ((r0.take 8).pF (-1)),.v (((r0.take 8).dK (-1)).num 8:Nat),.slice sa sn sc,.slice ea L.length ec,.u (u:Int)] _ rfl (ay _ _ _ _ HT.out) underlying40 rfl eY.out) rfl ?_;have K:=jX p8 w.heap.size [.i (v0:Int),.v (r0.num 8:Nat),.i ((r0.take 8).pF (-1)),.v (((r0.take 8).dK (-1)).num 8:Nat),.slice sa sn sc,.slice ea L.length ec,.u (u:Int)];rw[←HR4.out,←VB.out.2];refine⟨⟨sa,sc,ea,ec⟩,L,?_,(VQ.out.2.2.kept K (fun b hb e=>by have:=hb.1;have e:b=w.heap.size:=e;omega)).mono (fun b hb=>by have:=hb.1;show w.heap.size≤b;omega),VQ.out.1.kept K (fun b hb e=>by have e:b=w.heap.size:=e;omega),((dm HW.out.2).trans VQ.out.2.1).sY K (aq _)⟩;unfold eN cT;dsimp only;rw[←HLE.out,←H6.out.2.2.1.1]
def uK(x:gh):Bool:=decide (x.path.length≤64)&&(decide (x.node.data.length≤64)&&(sC x.node.num.os&&(!x.gone||M8 x.node)))
theorem Lu(w:ah)(r:cZ)(x:gh){lo:Nat→Prop}(hr:kP w lo r x):an prog 69 #[r.val] w fun e w'=>e=.returned (.bool (uK x))∧cF w w':=by
 obtain⟨rp,rg,⟨da,dn,dc,⟨q1,q2,q3,q4,q5,q6,q7,q8⟩⟩⟩:=r;obtain⟨p,g,⟨D,q⟩⟩:=x;obtain⟨h1,h2,⟨h3,h4,h5,h6⟩⟩:=hr;dsimp only at h1 h2 h3 h4;subst h1 h2 h3;have HZ:=cE fun W:ah=>Sf W ⟨da,dn,dc,⟨q1,q2,q3,q4,q5,q6,q7,q8⟩⟩ ⟨D,⟨q1,q2,q3,q4,q5,q6,q7,q8⟩⟩ rfl h4
 unfold uK;dsimp only;rw[←h4];obtain⟨z,hz⟩:=cG (M8 ⟨D,⟨q1,q2,q3,q4,q5,q6,q7,q8⟩⟩);rw[←hz] at HZ⊢;unfold Raw.val Raw.cells eL.cells at HZ;dsimp only at HZ;unfold cZ.val cZ.cells Raw.cells eL.cells;dsimp only[aZ,bg];obtain⟨w1,hw1,de,hs1,eW⟩:=dO w [.s rp,.bool rg,.slice da dn dc,.u q1,.u q2,.u q3,.i q4,.u q5,.v q6,.v q7,.v q8] 93;have HW:=cE (cD hw1 (cD de eW));obtain⟨b0,hb0⟩:∃b,decide (rp.length≤64)=b:=⟨_,rfl⟩;have t0:decide (((bs rp).size:Int)≤64)=b0:=by rw[eP,←hb0];by_cases h:rp.length≤64<;>simp[h]<;>omega
 obtain⟨b1,L1⟩:∃b,decide (dn≤64)=b:=⟨_,rfl⟩;have t1:decide ((dn:Int)≤64)=b1:=by rw[←L1];by_cases h:dn≤64<;>simp[h]<;>omega
 rw[hb0,L1];obtain⟨sm,J4⟩:∃b,sC q4=b:=⟨_,rfl⟩;have HS:=cE fun W:ah=>yY W q4 q5
 rw[J4] at HS⊢;have rX:Hid (cH 31 2):=cE cK;have eY:Hid (cH 44 9):=cE cK;have hrs:w1.rangeAt w.heap.size 6 [.i q4,.u q5]:=fun j u hu=>by
  have h1:=eW w1 (aC _ _) (6+j) u (by rcases(show j=0∨j=1 by have:=(aD.1 hu).1;simp at this;omega) with rfl|rfl<;>exact hu);rw[aT] at h1;exact h1
 have Ke:=cE hrs;rw[hw1] at Ke;clear h4 h5 h6 hz hw1 de hs1 eW hb0 L1 J4 hrs;cases b0 with
 |false=>
  go_enter func69,ntmps69
  go_wp2
  go_ret
  rw[←HW.out.1];exact⟨rfl,HW.out.2.1⟩
 |true=>
 cases b1 with
 |false=>
  go_enter func69,ntmps69
  go_wp2
  go_ret
  rw[←HW.out.1];exact⟨rfl,HW.out.2.1⟩
 |true=>
 go_enter func69,ntmps69
 go_wp2_with (refine ag rfl 31 (.tmp 16) rfl w.heap.size 6 rfl [.i q4,.u q5] _ Ke.out underlying31 rfl rX.out ?_)
 rw[←HW.out.1];refine(HS.out _).mono ?_;rintro e w2 ⟨rfl,B2⟩;have y1:=HW.out.2.2 w2 B2 1 _ rfl;have y2:=HW.out.2.2 w2 B2 2 _ rfl;have y3:=HW.out.2.2 w2 B2 3 _ rfl;have y4:=HW.out.2.2 w2 B2 4 _ rfl;have y5:=HW.out.2.2 w2 B2 5 _ rfl;have y6:=HW.out.2.2 w2 B2 6 _ rfl;have y7:=HW.out.2.2 w2 B2 7 _ rfl;have y8:=HW.out.2.2 w2 B2 8 _ rfl;have y9:=HW.out.2.2 w2 B2 9 _ rfl;have y10:=HW.out.2.2 w2 B2 10 _ rfl;have iG:=cE (HW.out.2.1.trans (B2.mono HW.out.2.1.size));clear B2;cases sm with
 |false=>
  clear y1 y2 y3 y4 y5 y6 y7 y8 y9 y10;go_wp2
  go_ret
  exact⟨rfl,iG.out⟩
 |true=>
 cases rg with
 |false=>
  clear y2 y3 y4 y5 y6 y7 y8 y9 y10;go_wp2
  go_ret
  exact⟨rfl,iG.out⟩
 |true=>
 simp only[aT] at y1 y2 y3 y4 y5 y6 y7 y8 y9 y10;go_wp2_with fail
 refine(HZ.out _).mono ?_;rintro e w3 ⟨rfl,B3⟩;have mQ:=cE (iG.out.trans (B3.mono iG.out.size));clear B3;go_wp2
 go_ret
 exact⟨rfl,mQ.out⟩
def oA(r:cV)(most:Nat)(may:Nat→Bool):Bool:=decide (r.path.length≤64)&&(decide (r.dn≤64)&&(decide (r.pn≤most)&&!(au r.pn).any (fun k=>!may k)))
theorem Ty(w:ah)(r:cV)(cs:List (List aA))(hc:gR w 7 r.pa cs)(hn:r.pn=cs.length)(hl:r.pn≤1000000000)(most:Nat)(may:Nat→Bool)
  (HF:∀W,cF w W→∀(k:Nat) x,cs[k]?=some x→r.pn≤most→an prog 235 #[.agg x.toArray] W fun e w'=>e=.returned (.bool (may k))∧cF W w'):
  an prog 138 #[r.val,.i most] w fun e w'=>e=.returned (.bool (oA r most may))∧cF w w':=by
 obtain⟨rk,rp,da,dn,dc,rv,rs,re,pa,pn,pc⟩:=r;dsimp only at hc hn hl HF;unfold oA;dsimp only;unfold cV.val cV.cells;dsimp only;obtain⟨w1,hw1,de,hs1,eW⟩:=dO w [.b rk,.s rp,.slice da dn dc,.i rv,.bool rs,.bool re,.slice pa pn pc] 35;have HA:=cE (aly w1 (c:=pc) (hc.below de) hn hl most may (fun W hW k x hx hm=>HF W (de.trans (hW.mono de.size)) k x hx hm));have HW:=cE (cD hw1 de);obtain⟨z,hz⟩:=cG ((decide (pn≤most)&&!(au pn).any (fun k=>!may k)));rw[←hz] at HA⊢;obtain⟨b0,hb0⟩:∃b,decide (rp.length≤64)=b:=⟨_,rfl⟩;have t0:decide (((bs rp).size:Int)≤64)=b0:=by rw[eP,←hb0];by_cases h:rp.length≤64<;>simp[h]<;>omega
 obtain⟨b1,L1⟩:∃b,decide (dn≤64)=b:=⟨_,rfl⟩;have t1:decide ((dn:Int)≤64)=b1:=by rw[←L1];by_cases h:dn≤64<;>simp[h]<;>omega
 rw[hb0,L1];clear hc hn hl HF hz hw1 de hs1 eW hb0 L1;cases b0 with
 |false=>
  go_enter func138,ntmps138
  go_wp2
  go_ret
  rw[←HW.out.1];exact⟨rfl,HW.out.2⟩
 |true=>
 cases b1 with
 |false=>
  go_enter func138,ntmps138
  go_wp2
  go_ret
  rw[←HW.out.1];exact⟨rfl,HW.out.2⟩
 |true=>
 go_enter func138,ntmps138
 go_wp2_with fail
 rw[←HW.out.1];refine HA.out.mono ?_;rintro e w2 ⟨rfl,h1⟩;have H1:=cE (HW.out.2.trans (h1.mono HW.out.2.size));clear h1;go_wp2
 go_ret
 exact⟨rfl,H1.out⟩
theorem Xv(w:ah)(r:cV)(cs:List (List aA))(hc:gR w 7 r.pa cs)(hn:r.pn=cs.length)(hl:r.pn≤1000000000):
  an prog 235 #[r.val] w fun e w'=>e=.returned (.bool (oA r 0 (fun _=>true)))∧cF w w':=by
 obtain⟨w1,hw1,de,hs1,eW⟩:=dO w r.cells 35;have HA:=cE (Ty w1 r cs (hc.below de) hn hl 0 (fun _=>true) (fun W hW k x hx hm=>by
  have:=(aD.1 hx).1;omega))
 have HW:=cE (cD hw1 de);obtain⟨z,hz⟩:=cG (oA r 0 (fun _=>true));rw[←hz] at HA⊢;obtain⟨rk,rp,da,dn,dc,rv,rs,re,pa,pn,pc⟩:=r;unfold cV.val cV.cells at HA⊢;unfold cV.cells at HW;dsimp only at HA HW⊢;clear hc hn hl hz hw1 de hs1 eW;go_enter func235,ntmps235
 go_wp2_with fail
 rw[←HW.out.1];refine HA.out.mono ?_;rintro e w2 ⟨rfl,h1⟩;have H1:=cE (HW.out.2.trans (h1.mono HW.out.2.size));clear h1;go_wp2
 go_ret
 exact⟨rfl,H1.out⟩
def BK(x:gK):Bool:=decide (0≤x.ew)&&(decide (x.ew<3)&&(decide (-1≤x.dK)&&(decide (x.dK<4)&&(decide (x.stamp.length≤3)&&(decide (x.dB.length≤16)&&!(au x.dB.length).any (fun k=>!uK (x.dB.getD k ⟨[],false,iN⟩)))))))
theorem TA(w:ah)(x:gK)(r:dS)(cs:List (List aA))(hc:gR w 11 r.ea cs)(hn:x.dB.length=cs.length)(hl:x.dB.length≤1000000000)
  (HF:∀W,cF w W→∀(k:Nat) c,cs[k]?=some c→an prog 69 #[.agg c.toArray] W fun e w'=>e=.returned (.bool (uK (x.dB.getD k ⟨[],false,iN⟩)))∧cF W w'):
  an prog 26 #[eN x r] w fun e w'=>e=.returned (.bool (BK x))∧cF w w':=by
 obtain⟨sa,sc,ea,ec⟩:=r;dsimp only at hc;unfold BK eN cT;dsimp only;obtain⟨w1,hw1,de,hs1,eW⟩:=dO w [.i x.ew,.v (x.seq:Int),.i x.dK,.v (x.ep:Int),.slice sa x.stamp.length sc,.slice ea x.dB.length ec,.u (x.cl:Int)] 40;have HA:=cE (alz w1 (c:=ec) (hc.below de) hn hl 16 (fun k=>uK (x.dB.getD k ⟨[],false,iN⟩)) (fun W hW k c hx hm=>HF W (de.trans (hW.mono de.size)) k c hx));have HW:=cE (cD hw1 de);obtain⟨z,hz⟩:=cG ((decide (x.dB.length≤16)&&!(au x.dB.length).any (fun k=>!uK (x.dB.getD k ⟨[],false,iN⟩))));rw[←hz] at HA⊢;obtain⟨en,BO⟩:∃n,n=x.dB.length:=⟨_,rfl⟩;obtain⟨sn,C8⟩:∃n,n=x.stamp.length:=⟨_,rfl⟩;rw[←BO] at HA HW;rw[←C8] at HW⊢;rw[←BO];obtain⟨og,hog⟩:∃n,n=x.ew:=⟨_,rfl⟩;obtain⟨rgn,aft⟩:∃n,n=x.dK:=⟨_,rfl⟩;obtain⟨sq,LS⟩:∃n:Int,n=x.seq:=⟨_,rfl⟩;obtain⟨ep,uE⟩:∃n:Int,n=x.ep:=⟨_,rfl⟩;obtain⟨cl,hcl⟩:∃n:Int,n=x.cl:=⟨_,rfl⟩;rw[←hog,←aft,←LS,←uE,←hcl] at HW⊢;obtain⟨b0,t0⟩:∃b,decide ((0:Int)≤og)=b:=⟨_,rfl⟩;obtain⟨b1,t1⟩:∃b,decide (og<(3:Int))=b:=⟨_,rfl⟩;obtain⟨b2,t2⟩:∃b,decide ((-1:Int)≤rgn)=b:=⟨_,rfl⟩;obtain⟨b3,t3⟩:∃b,decide (rgn<(4:Int))=b:=⟨_,rfl⟩;obtain⟨b4,hb4⟩:∃b,decide (sn≤3)=b:=⟨_,rfl⟩;have t4:decide ((sn:Int)≤3)=b4:=by rw[←hb4];by_cases h:sn≤3<;>simp[h]<;>omega
 rw[t0,t1,t2,t3,hb4];clear hc hn hl HF hz hw1 de hs1 eW hb4 BO C8 hog aft LS uE hcl;cases b0 with
 |false=>
  go_enter func26,ntmps26
  go_wp2
  go_ret
  rw[←HW.out.1];exact⟨rfl,HW.out.2⟩
 |true=>
 cases b1 with
 |false=>
  go_enter func26,ntmps26
  go_wp2
  go_ret
  rw[←HW.out.1];exact⟨rfl,HW.out.2⟩
 |true=>
 cases b2 with
 |false=>
  go_enter func26,ntmps26
  go_wp2
  go_ret
  rw[←HW.out.1];exact⟨rfl,HW.out.2⟩
 |true=>
 cases b3 with
 |false=>
  go_enter func26,ntmps26
  go_wp2
  go_ret
  rw[←HW.out.1];exact⟨rfl,HW.out.2⟩
 |true=>
 cases b4 with
 |false=>
  go_enter func26,ntmps26
  go_wp2
  go_ret
  rw[←HW.out.1];exact⟨rfl,HW.out.2⟩
 |true=>
 go_enter func26,ntmps26
 go_wp2_with fail
 rw[←HW.out.1];refine HA.out.mono ?_;rintro e w2 ⟨rfl,h1⟩;have H1:=cE (HW.out.2.trans (h1.mono HW.out.2.size));clear h1;go_wp2
 go_ret
 exact⟨rfl,H1.out⟩
variable(w:World)
theorem Pu{ao:Option aJ}{nb c:Nat}{B:cP}(hB:BytesIn w ao nb c B)(xb:Nat)(s n:Int)(x3:w.cell? ⟨xb,3,none⟩=some (.i s))(x4:w.cell? ⟨xb,4,none⟩=some (.u n))(hl:B.length≤800000000)(hn:zL n):
  an prog 127 #[.slice ao nb c,.p xb] w (eU w (B++kY s n)):=by
 have HC:=cE (yQ w hB hl s n hn);clear hB hl hn;go_enter func127,ntmps127
 go_wp2_with fail
 refine HC.out.mono ?_;rintro e w2 ⟨a,n,c2,rfl,h⟩;have H:=cE h;clear h x3 x4;go_wp2
 go_ret
 exact⟨a,n,c2,rfl,H.out⟩
theorem W8{ao:Option aJ}{nb c:Nat}{B:cP}(hB:BytesIn w ao nb c B)(xb:Nat)(r:cV)(m:Nat)(D:cP)(x5:w.cell? ⟨xb,5,none⟩=some (.b r.kind))(x6:w.cell? ⟨xb,6,none⟩=some (.s r.path))(x7:w.cell? ⟨xb,7,none⟩=some (.slice r.da r.dn r.dc))(x8:w.cell? ⟨xb,8,none⟩=some (.i r.gS))(x9:w.cell? ⟨xb,9,none⟩=some (.bool r.seq))(x10:w.cell? ⟨xb,10,none⟩=some (.bool r.mM))(x11:w.cell? ⟨xb,11,none⟩=some (.slice r.pa r.pn r.pc))(hr:pY w m r D)(hl:B.length+D.length≤200000000):
  an prog 133 #[.slice ao nb c,.p xb] w (eU w (B++D)):=by
 have HC:=cE (FA m w ao nb c B r D hB hr hl);unfold cV.val cV.cells at HC;clear hB hl hr;go_enter func133,ntmps133
 go_wp2_with fail
 refine HC.out.mono ?_;rintro e w2 ⟨a,n,c2,rfl,h⟩;have H:=cE h;clear h x5 x6 x7 x8 x9 x10 x11;go_wp2
 go_ret
 exact⟨a,n,c2,rfl,H.out⟩
theorem Pv{ao:Option aJ}{nb c:Nat}{B:cP}(hB:BytesIn w ao nb c B)(xb:Nat)(r:dS)(L:List cZ)(x:gK)(x12:w.cell? ⟨xb,12,none⟩=some (.i x.ew))(x13:w.cell? ⟨xb,13,none⟩=some (.v (x.seq:Int)))(x14:w.cell? ⟨xb,14,none⟩=some (.i x.dK))(x15:w.cell? ⟨xb,15,none⟩=some (.v (x.ep:Int)))(x16:w.cell? ⟨xb,16,none⟩=some (.slice r.sa x.stamp.length r.sc))(x17:w.cell? ⟨xb,17,none⟩=some (.slice r.ea x.dB.length r.ec))(x18:w.cell? ⟨xb,18,none⟩=some (.u (x.cl:Int)))(hx:uT w r L x)(hl:B.length+jY x≤200000000):
  an prog 139 #[.slice ao nb c,.p xb] w (eU w (B++nK x)):=by
 have HC:=cE (I5 w hB r L x hx hl);unfold eN cT at HC;clear hB hl hx;go_enter func139,ntmps139
 go_wp2_with fail
 refine HC.out.mono ?_;rintro e w2 ⟨a,n,c2,rfl,h⟩;have H:=cE h;clear h x12 x13 x14 x15 x16 x17 x18;go_wp2
 go_ret
 exact⟨a,n,c2,rfl,H.out⟩
theorem S9{ao:Option aJ}{nb c:Nat}{B:cP}(hB:BytesIn w ao nb c B)(xb:Nat)(s:Int)(x19:w.cell? ⟨xb,19,none⟩=some (.i s))(hl:B.length≤900000000):
  an prog 143 #[.slice ao nb c,.p xb] w (eU w (B++dI 1 (s % 256).toNat)):=by
 obtain⟨v,hv,qx,EB⟩:=FQ s;have HWR:IntKind.u8.wrap s=v:=(wrap_u8 s).trans hv;rw[EB];have HC:=cE (nQ w hB hl v qx);clear hB hl hv qx EB;go_enter func143,ntmps143
 go_wp2_with fail
 refine HC.out.mono ?_;rintro e w2 ⟨a,n,c2,rfl,h⟩;have H:=cE h;clear h x19;go_wp2
 go_ret
 exact⟨a,n,c2,rfl,H.out⟩
theorem Pq{ao:Option aJ}{nb c:Nat}{B:cP}(hB:BytesIn w ao nb c B)(xb:Nat)(s:Int)(x20:w.cell? ⟨xb,20,none⟩=some (.i s))(hl:B.length≤900000000):
  an prog 148 #[.slice ao nb c,.p xb] w (eU w (B++dI 8 (oN s))):=by
 have HC:=cE (wE w hB hl s);clear hB hl;go_enter func148,ntmps148
 go_wp2_with fail
 refine HC.out.mono ?_;rintro e w2 ⟨a,n,c2,rfl,h⟩;have H:=cE h;clear h x20;go_wp2
 go_ret
 exact⟨a,n,c2,rfl,H.out⟩
theorem Pw{ao:Option aJ}{nb c:Nat}{B:cP}(hB:BytesIn w ao nb c B)(xb:Nat)(v:Nat)(x21:w.cell? ⟨xb,21,none⟩=some (.v (v:Int)))(hl:B.length≤900000000)(hv:v<18446744073709551616):
  an prog 153 #[.slice ao nb c,.p xb] w (eU w (B++dI 8 v)):=by
 have HC:=cE (iT w hB hl v hv);clear hB hl hv;go_enter func153,ntmps153
 go_wp2_with fail
 refine HC.out.mono ?_;rintro e w2 ⟨a,n,c2,rfl,h⟩;have H:=cE h;clear h x21;go_wp2
 go_ret
 exact⟨a,n,c2,rfl,H.out⟩
theorem La{ao:Option aJ}{nb c:Nat}{B:cP}(hB:BytesIn w ao nb c B)(xb:Nat){so:Option aJ}{sn sc:Nat}(V:List Nat)(x22:w.cell? ⟨xb,22,none⟩=some (.slice so sn sc))(hV:mP w so sn V)(hl:(B++iK V).length≤800000000):
  an prog 156 #[.slice ao nb c,.p xb] w (eU w (B++iK V)):=by
 have HC:=cE (xN w hB (sc:=sc) hV hl);clear hB hl hV;go_enter func156,ntmps156
 go_wp2_with fail
 refine HC.out.mono ?_;rintro e w2 ⟨a,n,c2,rfl,h⟩;have H:=cE h;clear h x22;go_wp2
 go_ret
 exact⟨a,n,c2,rfl,H.out⟩
theorem Qe(xb:Nat)(s n:Int)(x3:w.cell? ⟨xb,3,none⟩=some (.i s))(x4:w.cell? ⟨xb,4,none⟩=some (.u n)):
  an prog 131 #[.p xb] w fun e w'=>e=.returned (.bool (sC s))∧cF w w':=by
 have HC:=cE (yY w s n)
 skip
 go_enter func131,ntmps131
 go_wp2_with fail
 refine HC.out.mono ?_;rintro e w2 ⟨rfl,h⟩;have H:=cE h;clear h x3 x4;go_wp2
 go_ret
 exact⟨rfl,H.out⟩
theorem Xu(xb:Nat)(r:cV)(cs:List (List aA))(may:Nat→Bool)(x5:w.cell? ⟨xb,5,none⟩=some (.b r.kind))(x6:w.cell? ⟨xb,6,none⟩=some (.s r.path))(x7:w.cell? ⟨xb,7,none⟩=some (.slice r.da r.dn r.dc))(x8:w.cell? ⟨xb,8,none⟩=some (.i r.gS))(x9:w.cell? ⟨xb,9,none⟩=some (.bool r.seq))(x10:w.cell? ⟨xb,10,none⟩=some (.bool r.mM))(x11:w.cell? ⟨xb,11,none⟩=some (.slice r.pa r.pn r.pc))(hc:gR w 7 r.pa cs)(hn:r.pn=cs.length)(hl:r.pn≤1000000000)
  (HF:∀W,cF w W→∀(k:Nat) x,cs[k]?=some x→r.pn≤6→an prog 235 #[.agg x.toArray] W fun e w'=>e=.returned (.bool (may k))∧cF W w'):
  an prog 137 #[.p xb] w fun e w'=>e=.returned (.bool (oA r 6 may))∧cF w w':=by
 have HC:=cE (Ty w r cs hc hn hl 6 may HF);unfold cV.val cV.cells at HC;obtain⟨z,hz⟩:=cG (oA r 6 may);rw[←hz] at HC⊢;clear hc hn hl HF hz;go_enter func137,ntmps137
 go_wp2_with fail
 refine HC.out.mono ?_;rintro e w2 ⟨rfl,h⟩;have H:=cE h;clear h x5 x6 x7 x8 x9 x10 x11;go_wp2
 go_ret
 exact⟨rfl,H.out⟩
theorem Qf(xb:Nat)(x:gK)(r:dS)(cs:List (List aA))(x12:w.cell? ⟨xb,12,none⟩=some (.i x.ew))(x13:w.cell? ⟨xb,13,none⟩=some (.v (x.seq:Int)))(x14:w.cell? ⟨xb,14,none⟩=some (.i x.dK))(x15:w.cell? ⟨xb,15,none⟩=some (.v (x.ep:Int)))(x16:w.cell? ⟨xb,16,none⟩=some (.slice r.sa x.stamp.length r.sc))(x17:w.cell? ⟨xb,17,none⟩=some (.slice r.ea x.dB.length r.ec))(x18:w.cell? ⟨xb,18,none⟩=some (.u (x.cl:Int)))(hc:gR w 11 r.ea cs)(hn:x.dB.length=cs.length)(hl:x.dB.length≤1000000000)
  (HF:∀W,cF w W→∀(k:Nat) c,cs[k]?=some c→an prog 69 #[.agg c.toArray] W fun e w'=>e=.returned (.bool (uK (x.dB.getD k ⟨[],false,iN⟩)))∧cF W w'):
  an prog 142 #[.p xb] w fun e w'=>e=.returned (.bool (BK x))∧cF w w':=by
 have HC:=cE (TA w x r cs hc hn hl HF);unfold eN cT at HC;obtain⟨z,hz⟩:=cG (BK x);rw[←hz] at HC⊢;clear hc hn hl HF hz;go_enter func142,ntmps142
 go_wp2_with fail
 refine HC.out.mono ?_;rintro e w2 ⟨rfl,h⟩;have H:=cE h;clear h x12 x13 x14 x15 x16 x17 x18;go_wp2
 go_ret
 exact⟨rfl,H.out⟩
theorem Tx(xb:Nat)(s:Int)(x19:w.cell? ⟨xb,19,none⟩=some (.i s)):
  an prog 147 #[.p xb] w fun e w'=>e=.returned (.bool (decide (0≤s)&&decide (s<3)))∧w=w':=by
 obtain⟨b0,t0⟩:∃b,decide ((0:Int)≤s)=b:=⟨_,rfl⟩;obtain⟨b1,t1⟩:∃b,decide (s<(3:Int))=b:=⟨_,rfl⟩;rw[t0,t1];cases b0 with
 |false=>
  go_enter func147,ntmps147
  go_wp2
  go_ret
  exact⟨rfl,rfl⟩
 |true=>
 go_enter func147,ntmps147
 go_wp2
 go_ret
 exact⟨rfl,rfl⟩
theorem Qd(xb:Nat)(s:Int)(x20:w.cell? ⟨xb,20,none⟩=some (.i s)):
  an prog 152 #[.p xb] w fun e w'=>e=.returned (.bool (decide (0≤s)&&decide (s<4)))∧w=w':=by
 obtain⟨b0,t0⟩:∃b,decide ((0:Int)≤s)=b:=⟨_,rfl⟩;obtain⟨b1,t1⟩:∃b,decide (s<(4:Int))=b:=⟨_,rfl⟩;rw[t0,t1];cases b0 with
 |false=>
  go_enter func152,ntmps152
  go_wp2
  go_ret
  exact⟨rfl,rfl⟩
 |true=>
 go_enter func152,ntmps152
 go_wp2
 go_ret
 exact⟨rfl,rfl⟩
theorem Lt(xb:Nat)(so:Option aJ)(sn sc:Nat)(x22:w.cell? ⟨xb,22,none⟩=some (.slice so sn sc)):
  an prog 160 #[.p xb] w fun e w'=>e=.returned (.bool (decide (sn≤3)))∧w=w':=by
 obtain⟨b0,hb0⟩:∃b,decide (sn≤3)=b:=⟨_,rfl⟩;have t0:decide ((sn:Int)≤3)=b0:=by rw[←hb0];by_cases h:sn≤3<;>simp[h]<;>omega
 rw[hb0];clear hb0;go_enter func160,ntmps160
 go_wp2
 go_ret
 exact⟨rfl,rfl⟩
end
section
open Go.RowKit Go.Shelf Go.MapKept Go.ChangeMaps
def Ai(w:ah)(rb xb o:Nat)(cs:List aA)(r:Rd)(w':ah):Prop:=∃w1,eT w1 rb r∧Kept (·=rb) w w1∧w'=w1.setCells xb o cs
variable(w:World)(rb xb:Nat)(r:Rd)(hr:eT w rb r)(hx:rb<xb)(xc:Array Value)(xt:TypeId)(hb:w.heap[xb]?=some (.cells xc xt (0,0)))(hc:xc.size=23)
include hr hx hb hc
theorem lT{w1:ah}(h:Kept (·=rb) w w1)(o m:Nat)(hm:o+m≤23):w1.there xb o m:=
 have _:=hr
 dR (w:=w1) (cs:=xc) (t:=xt) ((h.block xb (by rcases Nat.lt_or_ge xb w.heap.size with h0|h0;exact h0;rw[Array.getElem?_eq_none h0] at hb;cases hb) (fun e=>by have e:xb=rb:=e;omega)).trans hb) o m cL
theorem QZ:an prog 129 #[.p rb,.p xb] w fun e w'=>e=.returned (.tuple #[])∧Ai w rb xb 3 r.Hg r.ny w':=by
 have HG:=cE (zw w rb r hr);have HT:=cE (fun w1 (h:Kept (·=rb) w w1)=>lT w rb xb r hr hx xc xt hb hc h 3 2 cM);have eY:Hid (cH 31 2):=cE cK;unfold Rd.Hg at HG⊢;clear hr hx hb hc;go_enter func129,ntmps129
 go_wp2_with fail
 refine HG.out.mono ?_;rintro e w1 ⟨rfl,h1,h2⟩;have zQ:=cE (HT.out w1 h2);have gu:Hid ((#[.i (r.iu 3:Nat),.u ((r.place 3).eF:Nat)]:Array aA).all (·.oneCell')=true):=cE (by simp[aj]);have H1:=cE (cD h1 h2);clear h1 h2;go_wp2_with (refine aB rfl 31 (.tmp 8) (.tmp 6) rfl xb 3 #[.i (r.iu 3:Nat),.u ((r.place 3).eF:Nat)] rfl rfl zQ.out eY.out gu.out ?_)
 go_end0
 exact⟨rfl,w1,H1.out.1,H1.out.2,rfl⟩
theorem Ux:an prog 145 #[.p rb,.p xb] w fun e w'=>e=.returned (.tuple #[])∧Ai w rb xb 19 [.i (r.iu 3:Nat)] (r.place 3) w':=by
 have HG:=cE (sN w rb r hr 3 cM);have HT:=cE (fun w1 (h:Kept (·=rb) w w1)=>lT w rb xb r hr hx xc xt hb hc h 19 1 cM 0 cM);clear hr hx hb hc;go_enter func145,ntmps145
 go_wp2_with fail
 refine HG.out.mono ?_;rintro e w1 ⟨rfl,h1,h2⟩;obtain⟨v0,y1⟩:=aE.1 (HT.out w1 h2).1;have y2:=(HT.out w1 h2).2;rw[aU] at y1 y2;have H1:=cE (cD h1 h2);clear h1 h2;go_wp2
 go_end0
 exact⟨rfl,w1,H1.out.1,H1.out.2,rfl⟩
theorem QY:an prog 150 #[.p rb,.p xb] w fun e w'=>e=.returned (.tuple #[])∧Ai w rb xb 20 [.i (r.pF 0)] (r.dK 0) w':=by
 have HG:=cE (BX w rb r hr 0);have HT:=cE (fun w1 (h:Kept (·=rb) w w1)=>lT w rb xb r hr hx xc xt hb hc h 20 1 cM 0 cM);clear hr hx hb hc;go_enter func150,ntmps150
 go_wp2_with fail
 refine HG.out.mono ?_;rintro e w1 ⟨rfl,h1,h2⟩;obtain⟨v0,y1⟩:=aE.1 (HT.out w1 h2).1;have y2:=(HT.out w1 h2).2;rw[aU] at y1 y2;have H1:=cE (cD h1 h2);clear h1 h2;go_wp2
 go_end0
 exact⟨rfl,w1,H1.out.1,H1.out.2,rfl⟩
theorem Q2:an prog 154 #[.p rb,.p xb] w fun e w'=>e=.returned (.tuple #[])∧Ai w rb xb 21 [.v (r.num 8:Nat)] (r.take 8) w':=by
 have HG:=cE (lM w rb r hr);have HT:=cE (fun w1 (h:Kept (·=rb) w w1)=>lT w rb xb r hr hx xc xt hb hc h 21 1 cM 0 cM);clear hr hx hb hc;go_enter func154,ntmps154
 go_wp2_with fail
 refine HG.out.mono ?_;rintro e w1 ⟨rfl,h1,h2⟩;obtain⟨v0,y1⟩:=aE.1 (HT.out w1 h2).1;have y2:=(HT.out w1 h2).2;rw[aU] at y1 y2;have H1:=cE (cD h1 h2);clear h1 h2;go_wp2
 go_end0
 exact⟨rfl,w1,H1.out.1,H1.out.2,rfl⟩
theorem Yn(hl:r.b.length≤1000000000):an prog 135 #[.p rb,.p xb] w fun e w'=>e=.returned (.tuple #[])∧∃(q:cV) (w1:ah),OC w rb r 6 (.returned q.val) w1∧w'=w1.setCells xb 5 q.cells:=by
 have HG:=cE (Uz w rb r hr hl 6 cM (fun _=>Uw));have HT:=cE (fun w1 (h:Kept (·=rb) w w1)=>lT w rb xb r hr hx xc xt hb hc h 5 7 cM);have eY:Hid (cH 35 7):=cE cK;clear hr hx hb hc hl;go_enter func135,ntmps135
 go_wp2_with fail
 refine HG.out.mono ?_;rintro e w1 h;obtain⟨q,L,rfl,h3,h4,h5,h6,h7,h8,hk⟩:=h;have H1:=cE (show OC w rb r 6 (.returned q.val) w1 from⟨q,L,rfl,h3,h4,h5,h6,h7,h8,hk⟩);clear h3 h4 h5 h6 h7 h8;obtain⟨k,p,da,dn,dc,gS,sq,ep,pa,pn,pc⟩:=q;unfold cV.val cV.cells;dsimp only;have zQ:=cE (HT.out w1 hk);have gu:Hid ((#[.b k,.s p,.slice da dn dc,.i gS,.bool sq,.bool ep,.slice pa pn pc]:Array aA).all (·.oneCell')=true):=cE (by simp[aj]);clear hk;go_wp2_with (refine aB rfl 35 (.tmp 8) (.tmp 6) rfl xb 5 #[.b k,.s p,.slice da dn dc,.i gS,.bool sq,.bool ep,.slice pa pn pc] rfl rfl zQ.out eY.out gu.out ?_)
 go_end0
 exact⟨rfl,⟨k,p,da,dn,dc,gS,sq,ep,pa,pn,pc⟩,w1,H1.out,rfl⟩
theorem Q1(hl:r.b.length≤1000000000):an prog 140 #[.p rb,.p xb] w fun e w'=>e=.returned (.tuple #[])∧∃(q:dS) (L:List cZ) (w1:ah),eu w1 (fQ w.heap.size) q L r.wD∧eT w1 rb r.item∧Kept (·=rb) w w1∧w'=w1.setCells xb 12 (cT r.wD q):=by
 have HG:=cE (UC w rb r hr hl);have HT:=cE (fun w1 (h:Kept (·=rb) w w1)=>lT w rb xb r hr hx xc xt hb hc h 12 7 cM);have eY:Hid (cH 40 7):=cE cK;obtain⟨x,hx2⟩:=cG r.wD;rw[←hx2] at HG⊢;clear hx2;clear hr hx hb hc hl;go_enter func140,ntmps140
 go_wp2_with fail
 refine HG.out.mono ?_;rintro e w1 h;obtain⟨q,L,rfl,h3,h4,hk⟩:=h;have H1:=cE (cD h3 (cD h4 hk));clear h3 h4;obtain⟨sa,sc,ea,ec⟩:=q;unfold eN cT;dsimp only;have zQ:=cE (HT.out w1 hk);have gu:Hid ((#[.i x.ew,.v (x.seq:Int),.i x.dK,.v (x.ep:Int),.slice sa x.stamp.length sc,.slice ea x.dB.length ec,.u (x.cl:Int)]:Array aA).all (·.oneCell')=true):=cE (by simp[aj]);clear hk;go_wp2_with (refine aB rfl 40 (.tmp 8) (.tmp 6) rfl xb 12 #[.i x.ew,.v (x.seq:Int),.i x.dK,.v (x.ep:Int),.slice sa x.stamp.length sc,.slice ea x.dB.length ec,.u (x.cl:Int)] rfl rfl zQ.out eY.out gu.out ?_)
 go_end0
 exact⟨rfl,⟨sa,sc,ea,ec⟩,_,w1,H1.out.1,H1.out.2.1,H1.out.2.2,rfl⟩
theorem L8:an prog 158 #[.p rb,.p xb] w fun e w'=>e=.returned (.tuple #[])∧∃a c,∃w1:ah,dr w1 (fQ w.heap.size) a r.qh∧eT w1 rb r.stamp∧Kept (·=rb) w w1∧w'=w1.setCells xb 22 [.slice a r.qh.length c]:=by
 have HG:=cE (EK w rb r hr);have HT:=cE (fun w1 (h:Kept (·=rb) w w1)=>lT w rb xb r hr hx xc xt hb hc h 22 1 cM 0 cM);clear hr hx hb hc;go_enter func158,ntmps158
 go_wp2_with fail
 refine HG.out.mono ?_;rintro e w1 ⟨a,n,c,rfl,⟨rfl,h0⟩,h1,h2⟩;obtain⟨v0,y1⟩:=aE.1 (HT.out w1 h2).1;have y2:=(HT.out w1 h2).2;rw[aU] at y1 y2;have H1:=cE (cD h0 (cD h1 h2));clear h0 h1 h2;go_wp2
 go_end0
 exact⟨rfl,a,c,w1,H1.out.1,H1.out.2.1,H1.out.2.2,rfl⟩
end
section
open Go.RowKit Go.Shelf Go.MapKept Go.ChangeMaps
theorem Ma(w:ah)(rb xb:Nat)(r:Rd)(hr:eT w rb r)(hx:rb<xb)(xc:Array aA)(xt:TypeId)(hb:w.heap[xb]?=some (.cells xc xt (0,0)))(hc:xc.size=23):
  an prog 125 #[.p rb,.p xb] w fun e w'=>e=.returned (.tuple #[])∧Ai w rb xb 1 [.u (r.eF:Nat),.u (r.small.eF:Nat)] r.small.small w':=by
 have HG:=cE (lF w rb r hr);have HT:=cE (fun w1 (h:Kept (·=rb) w w1)=>lT w rb xb r hr hx xc xt hb hc h 1 2 cM);clear hr hx hb hc;go_enter func125,ntmps125
 go_wp2_with fail
 refine HG.out.mono ?_;rintro e w1 ⟨rfl,h1,h2⟩;have H1:=cE (cD h1 h2);clear h1 h2;go_wp2_with fail
 refine(lF w1 rb r.small H1.out.1).mono ?_;rintro e w2 ⟨rfl,h1,h2⟩;have hk:=H1.out.2.trans h2;obtain⟨v0,y1⟩:=aE.1 (HT.out w2 hk 0 cM).1;have y2:=(HT.out w2 hk 0 cM).2;obtain⟨v1,y3⟩:=aE.1 (HT.out w2 hk 1 cM).1;have y4:=(HT.out w2 hk 1 cM).2;simp only[aU,Nat.reduceAdd] at y1 y2 y3 y4;have H2:=cE (cD h1 hk);clear h1 h2 hk;go_wp2
 go_end0
 exact⟨rfl,w2,H2.out.1,H2.out.2,rfl⟩
theorem Lb(w:ah){ao:Option aJ}{nb c:Nat}{B:cP}(hB:BytesIn w ao nb c B)(xb:Nat)(p q:Nat)(x1:w.cell? ⟨xb,1,none⟩=some (.u (p:Int)))(x2:w.cell? ⟨xb,2,none⟩=some (.u (q:Int)))(hl:B.length≤800000000)(hp:p<4294967296)(hq:q<4294967296):
  an prog 123 #[.slice ao nb c,.p xb] w (eU w (B++(dI 8 p++dI 8 q))):=by
 have tk:∀_:True,IntKind.u64.wrap (p:Int)=(p:Int):=fun _=>qR cL
 have tm:∀_:True,IntKind.u64.wrap (q:Int)=(q:Int):=fun _=>qR cL
 have y0:∀w',cF w w'→w'.cell? ⟨xb,1,none⟩=some (.u (p:Int)):=fun w' h=>(h.cell (p:=⟨xb,1,none⟩) (aH _ _ x1)).trans x1
 have y1:∀w',cF w w'→w'.cell? ⟨xb,2,none⟩=some (.u (q:Int)):=fun w' h=>(h.cell (p:=⟨xb,2,none⟩) (aH _ _ x2)).trans x2
 have HB:=cE fun W (h:cF w W)=>iT W (hB.below h) cL p cL
 have HU:=cE fun(W:ah) (a:Option aJ) (n c:Nat) (h:BytesIn W a n c (B++dI 8 p))=>iT W h (by rw[af,dw];omega) q cL
 clear hB hl hp hq x1 x2;go_enter func123,ntmps123
 go_wp2_with fail
 refine rB fun wd hS=>?_
 refine tI 0 rfl hS ?_;refine tI 1 rfl hS ?_;refine tI 2 rfl hS ?_;refine tI 3 rfl hS ?_;simp only[cQ];refine tJ 4 rfl hS y0 ?_;refine tI 5 rfl hS ?_;refine tI 7 rfl hS ?_;refine tI 8 rfl hS ?_;simp only[cQ];refine tI 9 rfl hS ?_;refine tJ 10 rfl hS y1 ?_;refine tI 11 rfl hS ?_;simp only[cQ];refine cI 6 rfl ?_;refine(HB.out _ hS).mono ?_;rintro e w2 ⟨a2,n2,c2,rfl,h2⟩;refine⟨hS.trans (h2.bl.mono hS.size),?_⟩;simp only[cQ];refine cI 12 rfl ?_;refine(HU.out _ a2 n2 c2 h2.pN).mono ?_;rintro e w3 ⟨a3,n3,c3,rfl,h3⟩;have b3:=(hS.trans (h2.bl.mono hS.size)).trans (h3.bl.mono (hS.trans (h2.bl.mono hS.size)).size);refine⟨b3,?_⟩;simp only[cQ];refine tI 13 rfl b3 ?_;simp only[cQ];refine aG cK ?_ _;have H3:=cE ((h3.trans h2.bl).trans hS);clear h2 h3 b3 hS;go_wp2
 go_ret
 exact⟨a3,n3,c3,rfl,H3.out.cast (aI ..)⟩
end
inductive Pt where|client|owner|op|item|site|place|epoch|stamp
 deriving DecidableEq
structure fR where
 kind:Nat
 oh:Nat
 req:Nat
 os:Int
 on:Nat
 op:eC
 parts:List eC
 dY:gK
 site:Int
 dK:Int
 ep:Nat
 fr:List Nat
def WA:eC:=⟨0,[],[],0,false,false⟩
def ko:gK:=⟨0,0,0,0,[],[],0⟩
def fR.zero(k:Nat):fR:=⟨k,0,0,0,0,WA,[],ko,0,0,0,[]⟩
def Pt.rd:Pt→Rd→Rd
 |.client,r=>r.small.small
 |.owner,r=>r.ny
 |.op,r=>Rd.FL (r.leaf.count 6) (r.leaf.dQ 6)
 |.item,r=>r.item
 |.site,r=>r.place 3
 |.place,r=>r.dK 0
 |.epoch,r=>r.take 8
 |.stamp,r=>r.stamp
def Pt.get:Pt→Rd→fR→fR
 |.client,r,x=>{x with oh:=r.eF,req:=r.small.eF}
 |.owner,r,x=>{x with os:=(r.iu 3:Nat),on:=(r.place 3).eF}
 |.op,r,x=>{x with op:=r.js,parts:=Rd.Ii (r.leaf.count 6) (r.leaf.dQ 6)}
 |.item,r,x=>{x with dY:=r.wD}
 |.site,r,x=>{x with site:=(r.iu 3:Nat)}
 |.place,r,x=>{x with dK:=r.pF 0}
 |.epoch,r,x=>{x with ep:=r.num 8}
 |.stamp,r,x=>{x with fr:=r.qh}
def fe:Nat→List Pt
 |1=>[.client,.owner,.op]
 |2=>[.client]
 |3=>[.client,.owner]
 |4=>[.item]
 |5=>[.place,.epoch,.stamp]
 |6=>[.place,.epoch]
 |7=>[.place]
 |8=>[.site,.place]
 |9=>[.site,.place,.epoch,.stamp]
 |_=>[]
def kindOk(k:Nat):Bool:=decide (1≤k)&&decide (k≤9)
theorem DW{k:Nat}(h:kindOk k=false):fe k=[]:=by
 unfold kindOk at h;by_cases h1:1≤k
 ·simp[h1] at h
  unfold fe;split<;>first|omega|rfl
 have:k=0:=by omega
 subst this;rfl
def ja(s:Rd×fR)(p:Pt):Rd×fR:=(p.rd s.1,p.get s.1 s.2)
def DQ(D:cP):Rd×fR:=(fe ((⟨D,false⟩:Rd).num 1)).foldl ja ((⟨D,false⟩:Rd).take 1,fR.zero ((⟨D,false⟩:Rd).num 1))
def ey(D:cP):fR:=(DQ D).2
def mh(D:cP):Bool:=kindOk ((⟨D,false⟩:Rd).num 1)&&decide (EW (DQ D).1=0)
structure iS where
 kind:Nat
 oh:Nat
 req:Nat
 os:Int
 on:Nat
 Ik:cP
 od:Bool
 dY:gK
 site:Int
 dK:Int
 ep:Nat
 fr:List Nat
def Pt.put:Pt→iS→cP
 |.client,x=>dI 8 x.oh++dI 8 x.req
 |.owner,x=>kY x.os x.on
 |.op,x=>x.Ik
 |.item,x=>nK x.dY
 |.site,x=>dI 1 (x.site % 256).toNat
 |.place,x=>dI 8 (oN x.dK)
 |.epoch,x=>dI 8 x.ep
 |.stamp,x=>iK x.fr
def Pt.may:Pt→iS→Bool
 |.client,_=>true
 |.owner,x=>sC x.os
 |.op,x=>x.od
 |.item,x=>BK x.dY
 |.site,x=>decide (0≤x.site)&&decide (x.site<3)
 |.place,x=>decide (0≤x.dK)&&decide (x.dK<4)
 |.epoch,_=>true
 |.stamp,x=>decide (x.fr.length≤3)
def mD(x:iS):cP:=dI 1 x.kind++(fe x.kind).flatMap (·.put x)
def qS(x:iS):List Int:=[x.kind,x.oh,x.req,x.os,x.on,x.site,x.dK,Go.RowKit.wrap64 x.ep,x.dY.ew,x.dY.dK]
def qf(x:iS):cP:=(qS x).flatMap (fun v=>dI 8 (oN v))++x.Ik++iK x.fr++nK x.dY
def V5(o:eC)(ps:List eC):cP:=opHead o++(dI 8 ps.length++ps.flatMap fun p=>opHead p++(dI 8 0++[]))
def fR.x(v:fR):iS:=⟨v.kind,v.oh,v.req,v.os,v.on,V5 v.op v.parts,true,v.dY,v.site,v.dK,v.ep,v.fr⟩
def TB(x:iS):Bool:=kindOk x.kind&&!(fe x.kind).any (fun p=>!p.may x)
def Hi(x y:iS):Bool:=decide (qf x=qf y)
def FD(x:iS):Int:=if TB x=false then 1 else if mh (mD x)=false∨Hi x (ey (mD x)).x=false then 1 else if 4096<(mD x).length then 3 else 0
def vR(x:iS):cP:=if FD x=0 then mD x else []
def mE(D:cP):Bool:=mh D&&decide (D.length≤4096)
theorem FB{x:iS}(h:FD x=0):TB x=true∧mE (vR x)=true∧qf x=qf (ey (vR x)).x∧vR x=mD x:=by
 have hd:vR x=mD x:=by unfold vR;rw[if_pos h]
 rw[hd];unfold FD at h;split at h
 ·cases h
 rename_i h1
 split at h
 ·cases h
 rename_i h2
 split at h
 ·cases h
 rename_i h3
 have h4:¬mh (mD x)=false:=fun e=>h2 (.inl e)
 have h5:¬Hi x (ey (mD x)).x=false:=fun e=>h2 (.inr e)
 refine⟨by simpa using h1,?_,?_,rfl⟩
 ·unfold mE
  simp at h4;rw[h4];simp;omega
 unfold Hi at h5;simpa using h5
