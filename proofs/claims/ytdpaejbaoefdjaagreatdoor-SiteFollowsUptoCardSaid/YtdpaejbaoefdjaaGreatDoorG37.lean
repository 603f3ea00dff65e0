/- Part 37. -/
import Derived.Test.YtdpaejbaoefdjaaGreatDoorG36
import Derived.Test.YtdpaejbaoefdjaaGreatDoorG33
open List renaming getElem?_eq_some_iff → aa,length_append → ag,mem_of_getElem? → aj,getElem?_eq_getElem → an,getElem?_append_right → aq,getElem?_append_left → ay,not_mem_nil → aD,mem_append → aE,getD → aG,replicate → aH,mem_iff_getElem? → aI,mem_cons → aK,eq_nil_of_length_eq_zero → aP,mem_or_eq_of_mem_set → aR,getElem_mem → aS,length_set → aU,getElem?_eq_none → aV,toList_toArray → bh,mem_cons_self → bq,mem_map → bz,getElem?_map → bA,append_assoc → bB,all_eq_true → bF,map_cons → bP,length_replicate → bS,mem_of_mem_take → bU,mem_cons_of_mem → bW,length_pos_iff → bZ
open Go renaming lt_of_block → af,World → au,Value → aA,cell_of_row → aB,heap_alloc_new → aF,heap_setCell_same → aL,wpList_load_mid → aN,Calls → aT,wpIn_wide → aW,callsIn_wide → aY,wpList_store_mid → bK,Addr → bT,ownsRow_succ → cm
open Nat renaming lt_of_lt_of_le → ah,le_trans → aC,zero_add → aQ,lt_or_ge → bC,le_of_not_lt → bG,le_refl → bY
open Go.RowKit.Below renaming refl → aJ
open Go.Lib renaming decDigits → aM
open Go.World renaming frozen? → aO,cell?_setCells_out → bL,block_lt_of_cell? → bM,size_alloc → cq
open Option.some renaming injEq → aX
open Go.Region renaming wanted → aZ,ready → bN
open Array renaming toList_append → bg
open Go.Result.ok renaming injEq → bu
open Go.Value renaming ownBlock → bH,oneCell' → bJ
open Go.Addr renaming add_lit → bQ
open Go.Builtin renaming zeroCells → bX,append_ → cj
namespace Go.Proofs.YtdpaejbaoefdjaaGreatDoor
open Go.Proofs.Tryz
set_option maxRecDepth 100000
set_option maxHeartbeats 64000000
set_option linter.unusedVariables false
set_option linter.unusedSimpArgs false
theorem qZ{p:cO}(h:(dG p).isSome=true):p.length≤64:=by
 cases p with
 |nil=>simp
 |cons c r=>
 unfold dG at h;by_cases h1:c=47∧r.length<64
 ·have:=h1.2
  simp;omega
 simp only[if_neg h1] at h;cases h
structure fu(cP:cO)(M:List (cO×Nd)):Prop where
 inv:Inv cP M
 len:M.length≤48
 node:∀x∈M,x.1.length≤64∧CL x.2
theorem oh.fit{e:gm}(h:oh e):BS e:=⟨by have:=h.cW;omega,by have:=h.node.data;omega⟩
section
variable{cP:cO}{M:List (cO×Nd)}{cS:Int}{dh:eF}
theorem fu.fit(h:fu cP M):Fit M:=⟨h.len,fun x hx=>by have:=(h.node x hx).1;omega,fun x hx=>by have:=(h.node x hx).2.data;omega⟩
theorem fu.nice(h:fu cP M):nZ M:=fun x hx=>(h.node x hx).2.num.next
theorem fu.cW(h:fu cP M){p:cO}(hp:(dL p M).isSome=true):p.length≤64:=by
 obtain⟨x,hx,rfl⟩:=bz.1 (ic.1 hp);exact(h.node x hx).1
theorem fu.nd(h:fu cP M)(p:cO):CL ((dL p M).getD iQ):=by
 cases hg:dL p M with
 |none=>exact L3
 |some d=>
 obtain⟨x,hx,rfl⟩:=pM hg;exact(h.node x hx).2
theorem fu.one(h:fu cP M){e:gm}(he:oh e):fu cP (nB cP M e):=by
 refine⟨h.inv.one e,(h.fit.one he.fit).len,fun x hx=>?_⟩;unfold nB at hx;split at hx
 ·exact h.node x hx
 split at hx
 ·unfold yH at hx
  split at hx
  ·exact h.node x (nM.subset hx)
  exact h.node x hx
 unfold Gu at hx;split at hx
 ·rcases qX hx with rfl|hx
  ·exact⟨he.cW,he.node⟩
  exact h.node x hx
 exact h.node x hx
theorem fu.all:∀{E:List gm} {M:List (cO×Nd)},fu cP M→(∀e∈E,oh e)→fu cP (dU cP M E).2
 |[],M,h,_=>h
 |e::E,M,h,hE=>by
  by_cases h0:kY cP M e=0
  ·rw[jm h0]
   exact fu.all (h.one (hE e bq)) (fun x hx=>hE x (bW _ hx))
  ·rw[ur h0]
   exact h
theorem CL.up{d:Nd}(h:CL d)(ha:Ji cS):CL (Cg d cS):=⟨h.data,⟨h.num.gW,vL _,h.num.next,h.num.on,h.num.made,h.num.CI,ha⟩,h.os⟩
theorem CL.GG{d:Nd}(h:CL d):CL (GO d):=⟨h.data,⟨h.num.gW,h.num.BV,vL _,h.num.on,h.num.made,h.num.CI,h.num.Ch⟩,h.os⟩
theorem CL.set{d:Nd}(h:CL d)(ha:Ji cS){D:cO}(hD:D.length≤64):CL (Ck d D cS):=⟨hD,⟨vL _,h.num.BV,h.num.next,h.num.on,h.num.made,ha,h.num.Ch⟩,h.os⟩
def IU(dh:eF):Prop:=(0≤dh.dy∧dh.dy<3)∧wD dh.n
theorem CL.new(hw:IU dh)(ha:Ji cS){D:cO}(hD:D.length≤64)(mV:Bool):CL (xy D cS dh mV):=by
 have z:wD 0:=⟨by decide,by decide⟩;have z2:(0:Int)≤0∧(0:Int)<3:=⟨by decide,by decide⟩;cases mV
 ·exact⟨hD,⟨z,z,z,z,ha,ha,ha⟩,z2⟩
 exact⟨hD,⟨z,z,z,hw.2,ha,ha,ha⟩,hw.1⟩
theorem vX{p:cO}{d:Nd}(hp:p.length≤64)(hd:CL d):oh ⟨p,false,d⟩:=⟨hp,hd,fun e=>by cases e⟩
theorem fu.dF(h:fu cP M)(hw:IU dh)(ha:Ji cS){o:fh}(ho:o.data.length≤64):∀e∈jW cP M cS dh o,oh e:=by
 intro e he;unfold jW at he;split at he
 ·cases he
 rename_i h0
 have h0:mj cP M dh o=0:=by simpa using h0
 unfold VD at he;split at he
 ·rename_i hk
  obtain⟨hu,hc⟩:=tW hk h0;obtain⟨_,h2,⟨u,h3,_⟩,_,_,_⟩:=qp hc;unfold jw at he;simp only[aK,aD,or_false] at he;rcases he with rfl|rfl
  ·refine vX (h.cW (by rw[h3];rfl)) ?_
   unfold mN;split
   ·exact((h.nd _).up ha).GG
   exact(h.nd _).up ha
  exact vX (qZ h2) (CL.new hw ha ho _)
 split at he
 ·rename_i hk
  obtain⟨hu,hc⟩:=AG hk h0;obtain⟨h1,h2,_⟩:=vq hc;obtain⟨d,hd,_⟩:=ko h2;have hs:(dL o.cW M).isSome=true:=by rw[hd];rfl
  unfold jO at he;simp only[aK,aD,or_false] at he;rcases he with rfl|rfl
  ·exact⟨h.cW hs,L3,fun _=>rfl⟩
  exact vX (h.cW (ic.2 (h.inv.parent _ (ic.1 hs) h1))) ((h.nd _).up ha)
 split at he
 ·rename_i hk
  obtain⟨hu,hc⟩:=Mt hk h0;obtain⟨d,hd,_⟩:=ko hc;unfold zi at he;simp only[aK,aD,or_false] at he;subst he;exact vX (h.cW (by rw[hd];rfl)) ((h.nd _).set ha ho)
 cases he
theorem fu.op(h:fu cP M)(hw:IU dh)(ha:Ji cS){o:fh}(ho:o.data.length≤64):fu cP (oP cP M cS dh o):=by
 have:=h.all (h.dF hw ha ho)
 rwa [zK h.inv o] at this
theorem fu.run(hw:IU dh)(ha:Ji cS):∀(l:List fh) {M:List (cO×Nd)},fu cP M→(∀o∈l,o.data.length≤64)→fu cP (runM cP cS dh M l)∧∀e∈mK cP cS dh M l,oh e
 |[],M,h,_=>⟨h,fun e he=>by cases he⟩
 |o::l,M,h,hl=>by
  have h1:=h.op hw ha (hl o bq);have h2:=fu.run hw ha l h1 (fun x hx=>hl x (bW _ hx));unfold runM mK;split
  ·refine⟨h2.1,fun e he=>?_⟩
   rcases aE.1 he with he|he
   ·exact h.dF hw ha (hl o bq) e he
   ·exact h2.2 e he
  ·exact⟨h,fun e he=>by cases he⟩
theorem fu.PB(h:fu cP M)(hw:IU dh)(ha:Ji (cS+1)){ce:Int}{o:mH}(ho:∀p∈o.seq,p.data.length≤64):fu cP (IB cP M cS dh ce o)∧∀e∈zA cP M cS dh ce o,oh e:=by
 have h1:=fu.run hw ha o.seq h ho;unfold IB zA;split
 ·exact⟨h,fun e he=>by cases he⟩
 exact h1
theorem M6{ce:Int}{o:mH}(h:o.seq.length≤6):(zA cP M cS dh ce o).length≤12:=by
 unfold zA;split
 ·simp
 have:=vh (cP:=cP) (cS:=cS+1) (dh:=dh) o.seq M;omega
end
theorem fu.new{cP:cO}(h:(dG cP).isSome=true):fu cP [(cP,iQ)]:=⟨Inv.made h _,by simp,fun x hx=>by
 simp only[aK,aD,or_false] at hx;subst hx;exact⟨qZ h,L3⟩⟩
namespace cV
structure Ok(m:cV)(N:Nat):Prop where
 dy:m.dy<m.v.length
 vl:m.v.length≤3
 vN:∀x∈m.v,x≤N
 tl:m.eC.length=m.dP.length
 kl:m.toks.length=m.dP.length
 rl:m.dP.length≤4
 dP:∀r∈m.dP,r.length≤64
 tree:∀r,r<m.dP.length→fu (m.cP r) (m.dQ r)
 ats:∀r,r<m.dP.length→0≤m.cS r∧m.cS r≤N
 tok:∀t∈m.toks,t.ep<18446744073709551616∧t.fr.length≤3∧zD t.fr
 last:m.last≤32
 zl:m.own.length=m.v.getD m.dy 0
 own:∀k x,m.own[k]?=some x→x.ew=(m.dy:Int)∧x.seq=k+1∧qK x
theorem ji{α:Type}(l:List α)(i j:Nat)(x d:α):(l.set i x).getD j d=if i=j∧j<l.length then x else l.getD j d:=by
 simp only[aG,List.getElem?_set];by_cases h:i=j
 ·subst h
  by_cases h2:i<l.length
  ·simp[h2]
  simp[h2,aV (bG h2)]
 simp[h]
theorem pG(v:List Nat)(i:Nat):(lF v i).length=v.length:=by simp[lF]
theorem E6{v:List Nat}{N:Nat}(h:∀x∈v,x≤N)(i:Nat):∀x∈lF v i,x≤N+1:=fun x hx=>by
 unfold lF at hx;rcases aR hx with h1|h1
 ·have:=h x h1
  omega
 ·subst h1
  by_cases hi:i<v.length
  ·have:=h _ (aS hi)
   simp[aG,an hi];exact this
  ·simp[aG,aV (bG hi)]
section
variable{m:cV}{N:Nat}
theorem Ok.mono(h:m.Ok N){N':Nat}(hN:N≤N'):m.Ok N':=
 ⟨h.dy,h.vl,fun x hx=>aC (h.vN x hx) hN,h.tl,h.kl,h.rl,h.dP,h.tree,fun r hr=>by have:=h.ats r hr;omega,h.tok,h.last,h.zl,h.own⟩
theorem Ok.jS(h:m.Ok N)(p:Int×Int):(m.jS p).Ok N:=⟨h.dy,h.vl,h.vN,h.tl,h.kl,h.rl,h.dP,h.tree,h.ats,h.tok,h.last,h.zl,h.own⟩
theorem Ok.tT(h:m.Ok N)(r:Nat){t:jK}(ht:t.ep<18446744073709551616∧t.fr.length≤3∧zD t.fr):(m.tT r t).Ok N:=
 ⟨h.dy,h.vl,h.vN,h.tl,by show(m.toks.set r t).length=_;rw[aU];exact h.kl,h.rl,h.dP,h.tree,h.ats,fun x hx=>by
  rcases aR (show x∈m.toks.set r t from hx) with h1|h1
  ·exact h.tok x h1
  ·rw[h1];exact ht,h.last,h.zl,h.own⟩
theorem Ok.eA(h:m.Ok N)(r:Nat){t:Int×List (cO×Nd)}(ht:r<m.dP.length→fu (m.cP r) t.2)(ha:0≤t.1∧t.1≤N):(m.eA r t).Ok N:=by
 refine⟨h.dy,h.vl,h.vN,by show(m.eC.set r t).length=_;rw[aU];exact h.tl,h.kl,h.rl,h.dP,fun k hk=>?_,fun k hk=>?_,h.tok,h.last,h.zl,h.own⟩
 ·show fu (m.cP k) ((m.eC.set r t).getD k (0,[])).2
  rw[ji];split
  ·rename_i e
   rw[←e.1] at hk⊢;exact ht hk
  exact h.tree k hk
 show 0≤((m.eC.set r t).getD k (0,[])).1∧((m.eC.set r t).getD k (0,[])).1≤N;rw[ji];split
 ·exact ha
 exact h.ats k hk
theorem Ok.vU(h:m.Ok N)(hN:N≤2000000):zD m.v:=fun x hx=>by have:=h.vN x hx;omega
theorem vT{v:List Nat}(h:∀x∈v,x≤N)(i:Nat):v.getD i 0≤N:=by
 by_cases hi:i<v.length
 ·simp[aG,an hi]
  exact h _ (aS hi)
 simp[aG,aV (bG hi)]
theorem Hx(v:List Nat)(i j:Nat):(lF v i).getD j 0=if i=j∧j<v.length then v.getD i 0+1 else v.getD j 0:=ji _ _ _ _ _
theorem Ok.make(h:m.Ok N)(hN:N≤2000000){x:fW}(h1:-1≤x.dO∧x.dO<4)(h2:x.ep<18446744073709551616)(h3:x.dF.length≤16∧∀e∈x.dF,oh e)(h4:x.cl<4294967296):(m.make x).Ok (N+1):=by
 have hs:=h.dy;have hvl:=h.vl;refine⟨by show m.dy<(lF m.v m.dy).length;rw[pG];exact h.dy,by show(lF m.v m.dy).length≤3;rw[pG];exact h.vl,E6 h.vN _,h.tl,h.kl,h.rl,h.dP,h.tree,fun r hr=>by have:=h.ats r hr;exact⟨this.1,by show m.cS r≤_;omega⟩,h.tok,h.last,?_,fun k y hk=>?_⟩
 ·show(m.own++[m.item x]).length=(lF m.v m.dy).getD m.dy 0
  rw[Hx,if_pos ⟨rfl,h.dy⟩,ag,h.zl];rfl
 have hk:(m.own++[m.item x])[k]?=some y:=hk;rcases bC k m.own.length with hlt|hge
 ·rw[ay hlt] at hk
  exact h.own k y hk
 rw[aq hge] at hk;have h0:k - m.own.length=0:=by
  have:=(aa.1 hk).1;simp at this;omega
 rw[h0] at hk;simp at hk;subst hk;have hle:=vT h.vN m.dy;have hkl:m.v.getD m.dy 0=k:=by rw[←h.zl];omega
 refine⟨rfl,by show m.v.getD m.dy 0+1=k+1;rw[hkl],⟨⟨by show(0:Int)≤(m.dy:Int);omega,by show(m.dy:Int)<3;omega⟩,by show m.v.getD m.dy 0+1<_;omega,h1,h2,⟨h.vl,h.vU cK⟩,h3,h4⟩⟩
theorem Ok.opens(h:m.Ok N):m.opens.1.Ok N:=by
 unfold cV.opens;split
 ·exact h
 exact⟨h.dy,h.vl,h.vN,h.tl,h.kl,h.rl,h.dP,h.tree,h.ats,h.tok,by show m.last+1≤32;omega,h.zl,h.own⟩
theorem Ok.lI(h:m.Ok N)(hN:N≤1000000){y:fV}(hy:mE y):(m.lI y).1.Ok (N+1):=by
 unfold cV.lI;split
 ·exact h.mono cK
 exact(h.jS _).make cK ⟨by show(-1:Int)≤-1;omega,by show(-1:Int)<4;omega⟩ (by show 0<_;omega) ⟨by show 0≤_;omega,fun e he=>by cases he⟩ hy.on
structure OpS(o:mH):Prop where
 len:o.seq.length≤6
 data:∀p∈o.seq,p.data.length≤64
theorem Ok.rO(h:m.Ok N)(hN:N≤1000000){r:Nat}(hr:r<m.dP.length){o:mH}(ho:OpS o){dh:eF}(hw:IU dh):(m.rO r o dh).Ok (N+1)∧(∀e∈m.rN r o dh,oh e)∧(m.rN r o dh).length≤12:=by
 have ha:=h.ats r hr;have hd:=(h.tree r hr).PB (cS:=m.cS r) (ce:=0) (o:=o) hw ⟨by omega,by omega⟩ ho.data;have hl:(m.rN r o dh).length≤12:=M6 ho.len;refine⟨?_,hd.2,hl⟩;unfold cV.rO;split
 ·exact h.mono cK
 have h1:(m.eA r (m.cS r+1,IB (m.cP r) (m.dQ r) (m.cS r) dh 0 o)).Ok (N+1):=(h.mono (by omega:N≤N+1)).eA r (fun _=>hd.1) ⟨by show 0≤m.cS r+1;omega,by show m.cS r+1≤_;omega⟩;have ht:(m.tok r).ep<18446744073709551616:=by
  have hk:r<m.toks.length:=by rw[h.kl];exact hr
  have:=(h.tok _ (aS hk)).1;unfold cV.tok;simp[aG,an hk];exact this
 have hrl:=h.rl;have h2:(m.eA r (m.cS r+1,IB (m.cP r) (m.dQ r) (m.cS r) dh 0 o)).v=m.v:=rfl;have h3:((m.eA r (m.cS r+1,IB (m.cP r) (m.dQ r) (m.cS r) dh 0 o)).make (m.qu r (m.rN r o dh))).Ok (N+1+1):=h1.make cK ⟨by show(-1:Int)≤(r:Int);omega,by show(r:Int)<4;omega⟩ ht ⟨by show(m.rN r o dh).length≤16;omega,hd.2⟩ (show(0:Nat)<4294967296 by decide);refine⟨h3.dy,h3.vl,?_,h3.tl,h3.kl,h3.rl,h3.dP,h3.tree,fun k hk=>?_,h3.tok,h3.last,h3.zl,h3.own⟩
 ·exact E6 h.vN _
 have:=h1.ats k hk;exact this
theorem Ok.asked(h:m.Ok N)(hN:N≤1000000){r:Nat}(hr:r<m.dP.length){o:mH}(ho:OpS o){dh:eF}(hw:IU dh):(m.asked r o dh).1.Ok (N+1):=by
 unfold cV.asked;split
 ·exact h.mono cK
 exact(h.rO hN hr ho hw).1
theorem DV{y:fV}(hy:mE y)(h:uq y=0):OpS ⟨y.op,y.parts⟩:=by
 unfold uq gF at h;refine⟨?_,fun p hp=>?_⟩
 ·unfold mH.seq
  dsimp only;split
  ·exact hy.pl
  simp
 unfold mH.seq at hp;dsimp only at hp;split at hp
 ·exact(hy.parts p hp).data
 simp only[aK,aD,or_false] at hp;subst hp;exact hy.op.data
theorem ZC(L:List cO)(p:cO):zL L p<L.length:=by
 rcases RB L p with ⟨h,_⟩|⟨i,r,hi,_,_,h,_⟩
 ·unfold zL
  rw[h];show(-1:Int)<_;omega
 unfold zL;rw[h];show(i:Int)<_;omega
theorem Ec{L P:List cO}(h:(jJ L P).2=0):0≤(jJ L P).1∧(jJ L P).1<L.length:=by
 cases P with
 |nil=>cases h
 |cons x P=>
 unfold jJ at h⊢;by_cases h1:zL L x<0∨(x::P).any (fun y=>zL L y != zL L x)=true
 ·simp only[if_pos h1] at h
  cases h
 simp only[if_neg h1];have h0:¬zL L x<0:=fun e=>h1 (.inl e)
 exact⟨by omega,ZC L x⟩
theorem Ok.write(h:m.Ok N)(hN:N≤1000000){y:fV}(hy:mE y):(m.write y).1.Ok (N+1):=by
 unfold cV.write;split
 ·exact h.mono cK
 rename_i h1
 split
 ·exact h.mono cK
 split
 ·exact h.mono cK
 rename_i h3
 have h4:=Ec (show(jJ m.dP (if y.parts.map (·.cW)=[] then [y.op.cW] else y.parts.map (·.cW))).2=0 from Decidable.not_not.1 h3);exact h.asked hN (by show(jJ m.dP (if y.parts.map (·.cW)=[] then [y.op.cW] else y.parts.map (·.cW))).1.toNat<m.dP.length;omega) (DV hy (by simpa using h1)) ⟨hy.os,by have:=hy.on;exact⟨by show(0:Int)≤(y.on:Int);omega,by show(y.on:Int)<_;omega⟩⟩
theorem Se{x:fW}{s n:Nat}(h:mA x s n=true)(hc:¬0<x.cl):0≤x.dO∧x.dO<n:=by
 unfold mA at h;simp only[Bool.and_eq_true] at h;have h2:=h.2;have hc:x.cl=0:=by omega
 simp[hc] at h2;exact⟨h2.1.1.1,h2.1.1.2⟩
theorem Ok.take(h:m.Ok N)(hN:N≤1000000){x:fW}(hx:qK x):(m.take x).1.Ok (N+1):=by
 unfold cV.take;split
 ·exact h.mono cK
 rename_i ht
 have ht:m.takes x=true:=by simpa using ht
 unfold cV.takes at ht;simp only[Bool.and_eq_true,Bool.or_eq_true,decide_eq_true_eq,Bool.not_eq_true',decide_eq_false_iff_not] at ht;obtain⟨⟨⟨t1,t2⟩,t3⟩,t4⟩:=ht;have zx:∀m1:cV,m1.Ok (N+1)→m1.v=m.v→m1.dy=m.dy→m1.own=m.own→({m1 with v:=lF m.v x.ew.toNat}:cV).Ok (N+1):=fun m1 o e1 e2 e3=>by
  have hne:¬(x.ew.toNat=m.dy∧m.dy<m.v.length):=fun e=>t2 (by have:=hx.ew.1;omega)
  refine⟨by show m1.dy<(lF m.v _).length;rw[pG,←e1];exact o.dy,by show(lF m.v _).length≤3;rw[pG];exact h.vl,E6 h.vN _,o.tl,o.kl,o.rl,o.dP,o.tree,o.ats,o.tok,o.last,?_,o.own⟩;show m1.own.length=(lF m.v x.ew.toNat).getD m1.dy 0;rw[Hx,e2,if_neg hne,e3];exact h.zl
 unfold cV.kz;dsimp only;split
 ·exact zx _ ((h.mono cK).jS _) rfl rfl rfl
 rename_i hc
 have aio:=Se t1 hc;have hr:x.dO.toNat<m.dP.length:=by omega
 have ha:=h.ats _ hr;exact zx _ ((h.mono (by omega:N≤N+1)).eA _ (fun _=>(h.tree _ hr).all hx.dF.2) ⟨by show 0≤m.cS _+1;omega,by show m.cS _+1≤_;omega⟩) rfl rfl rfl
theorem Ok.Va(h:m.Ok N){y:fV}(hy:mE y):(m.Va y).1.Ok N:=by
 unfold cV.Va;split
 ·exact h
 split
 ·exact h
 split
 ·exact h
 exact h.tT _ ⟨hy.ep,hy.fr⟩
theorem Ok.Ep(h:m.Ok N)(hN:N≤1000000){y:fV}(hy:mE y):(m.Ep y).1.Ok N:=by
 unfold cV.Ep;split
 ·exact h
 split
 ·exact h
 exact h.tT _ ⟨hy.ep,h.vl,h.vU cK⟩
theorem Vq(r:Nat):OpS (m.vu r):=by
 unfold vu;refine⟨?_,fun p hp=>?_⟩
 ·unfold mH.seq
  dsimp only;rw[if_pos rfl,List.length_map,List.length_take];omega
 unfold mH.seq at hp;dsimp only at hp;rw[if_pos rfl] at hp;obtain⟨q,_,rfl⟩:=bz.1 hp;simp
theorem Ok.tU(h:m.Ok N)(hN:N≤1000000)(r:Int):(m.tU r).1.Ok (N+1):=by
 unfold cV.tU;split
 ·exact h.mono cK
 rename_i hr
 unfold cV.out at hr;split
 ·exact h.mono cK
 split
 ·exact h.mono cK
 exact(h.rO hN cK (Vq _) ⟨⟨by decide,by decide⟩,⟨by decide,by decide⟩⟩).1
theorem Ok.apply(h:m.Ok N)(hN:N≤1000000){y:fV}(hy:mE y):(m.apply y).1.Ok (N+1):=by
 unfold cV.apply;split
 ·exact h.write hN hy
 ·exact h.opens.mono cK
 ·exact h.lI hN hy
 ·exact h.take hN hy.eu
 ·exact(h.Va hy).mono cK
 ·exact(h.Ep hN hy).mono cK
 ·exact h.tU hN _
 exact h.mono cK
end
theorem Ok.new{dy sites:Nat}{dP:List cO}(h1:dy<sites)(h2:sites≤3)(h3:dP.length≤4)(h4:∀r∈dP,(dG r).isSome=true):(cV.new dy sites dP).Ok 0:=by
 unfold cV.new;refine⟨by simp;exact h1,by simp;exact h2,fun x hx=>by have:=List.eq_of_mem_replicate hx;omega,by simp,by simp,h3,fun r hr=>qZ (h4 r hr),fun r hr=>?_,fun r hr=>?_,fun t ht=>?_,by simp,?_,fun k x hk=>by simp at hk⟩
 ·have hr:r<dP.length:=hr
  have e1:(cV.mk dy dP (dP.map (fun r=>((0:Int),[(r,iQ)]))) (dP.map (fun _=>iM)) 0 [] (aH sites 0) []).dQ r=[(dP[r],iQ)]:=by
   unfold cV.dQ;simp[aG,bA,an hr]
  have e2:(cV.mk dy dP (dP.map (fun r=>((0:Int),[(r,iQ)]))) (dP.map (fun _=>iM)) 0 [] (aH sites 0) []).cP r=dP[r]:=by
   unfold cV.cP;simp[aG,an hr]
  rw[e1,e2];exact fu.new (h4 _ (aS hr))
 ·have hr:r<dP.length:=hr
  unfold cV.cS;simp[aG,bA,an hr]
 ·obtain⟨_,_,rfl⟩:=bz.1 ht
  exact⟨by decide,by decide,fun v hv=>by cases hv⟩
 simp[aG,List.getElem?_replicate];split<;>rfl
end cV
section
theorem xB:∀v:List Nat,kI v v=true
 |[]=>rfl
 |x::v=>by simp[kI,xB v]
namespace cV
end cV
end
section
open Go.RowKit Go.Shelf Go.MapKept Go.ChangeMaps
def I8(w:au)(b:Nat):Prop:=∀o v,w.cell? ⟨b,o,none⟩=some v→Qt v
def NoU(w:au)(b:Nat):Prop:=∀o n,w.cell? ⟨b,o,none⟩≠some (.b n)
theorem I8.RI{w:au}{b:Nat}(h:I8 w b):NoU w b:=fun o n e=>(h o _ e).1 n rfl
theorem VJ{w:au}{b:Nat}{cs:Array aA}{t:TypeId}{fr:Nat×Nat}(h:w.heap[b]?=some (.cells cs t fr))(hu:∀x∈cs.toList,∀n,x≠.b n):NoU w b:=fun o n e=>by
 rw[aB w b o cs t fr h] at e;exact hu _ (by simpa using Array.mem_of_getElem? e) n rfl
theorem VK{w:au}{b:Nat}{es:Array MapEntry}{c:Nat}(h:w.heap[b]?=some (.map es c)):I8 w b:=fun o v e=>by
 simp[World.cell?,h] at e
def jL(w w':au):Prop:=∀b o n,w.cell? ⟨b,o,none⟩=some (.b n)→w'.cell? ⟨b,o,none⟩=some (.b n)
theorem cQ.bytes{S:Nat→Prop}{w w':au}(hk:cQ S w w')(hq:∀b,S b→NoU w b):jL w w':=fun b o n h=>by
 by_cases hs:S b
 ·exact absurd h (hq b hs o n)
 ·exact(hk.cell (p:=⟨b,o,none⟩) (bM _ _ h) hs).trans h
theorem lZ{w w':au}(hb:cE w w'):jL w w':=fun b o n h=>(hb.cell (p:=⟨b,o,none⟩) (bM _ _ h)).trans h
theorem xF{w:au}{B o:Nat}{cs:List aA}(h:∀j n,j<cs.length→w.cell? ⟨B,o+j,none⟩≠some (.b n)):jL w (w.setCells B o cs):=fun b k n e=>by
 by_cases hb:b=B
 ·subst hb
  by_cases hk:o≤k∧k<o+cs.length
  ·obtain⟨j,rfl⟩:∃j,k=o+j:=⟨k - o,by omega⟩
   exact absurd e (h j n cK)
  ·rw[bL _ _ _ _ _ (fun _ _=>by show k<o∨o+cs.length≤k;omega)]
   exact e
 ·rw[bL _ _ _ _ _ (fun e' _=>absurd e' hb)]
  exact e
theorem Ki{w:au}{B o:Nat}{u:aA}(h:∀n,w.cell? ⟨B,o,none⟩≠some (.b n)):jL w (w.setCell ⟨B,o,none⟩ u):=by
 have:=xF (w:=w) (B:=B) (o:=o) (cs:=[u]) (fun j n hj=>by
  have:j=0:=by simp at hj;omega
  subst this;exact h n)
 exact this
section
variable{w w':World}{lo:Nat→Prop}
theorem eP.stay{hi:Nat}{a:Option bT}{D:cO}(h:eP w lo hi a D)(hu:jL w w'):eP w' lo hi a D:=fun j c hj=>by
 obtain⟨b,off,h1,h2,h3,h4⟩:=h j c hj;exact⟨b,off,h1,h2,h3,hu _ _ _ h4⟩
theorem Reads.stay{r:Raw}{d:Nd}(h:Reads w lo r d)(hu:jL w w')(hs:w.heap.size≤w'.heap.size):Reads w' lo r d:=
 ⟨h.num,h.len,(h.data.stay hu).mono (fun _ h=>h) hs,h.nil⟩
theorem ff.stay{L:List dr}{E:List gm}(h:ff w lo L E)(hu:jL w w')(hs:w.heap.size≤w'.heap.size):ff w' lo L E:=⟨h.1,fun k r e h1 h2=>by
 obtain⟨g1,g2,g3⟩:=h.2 k r e h1 h2;exact⟨g1,g2,g3.stay hu hs⟩⟩
def kj(w:au)(k:Nat):Prop:=∀m:List (cO×Raw),m≠[]→¬dS prog 9 sv Raw.val w k m
theorem gT{k:Nat}{cs:Array aA}{t:TypeId}{fr:Nat×Nat}(h:w.heap[k]?=some (.cells cs t fr)):kj w k:=fun m _ hm=>by
 obtain⟨es,c,h1,_⟩:=hm;rw[h] at h1;cases h1
theorem GL{k:Nat}{g:List (Int×Int)}(h:dS prog 31 sk Value.bool w k (g.map (·,true))):kj w k:=fun m hm h2=>by
 obtain⟨es,c,e1,_,_,e2⟩:=h;obtain⟨es2,c2,f1,_,_,f2⟩:=h2;rw[e1] at f1;cases f1;rw[e2] at f2
 match m,hm with
 |x::m,_=>
  match g with
  |[]=>simp at f2
  |y::g=>
   simp only[bP,List.cons.injEq,Prod.mk.injEq] at f2;have:=f2.1.2;unfold Raw.val at this;cases this
theorem TR.iN{w0:au}{b:Nat}{cP:cO}{cS:Int}{M:List (cO×Nd)}(R:TR w0 w b cP cS M){S:Nat→Prop}(hk:cQ S w w')(hu:jL w w')(hb:¬S b)(hS:∀k,S k→kj w k∧w0.heap.size≤k)(hne:M≠[]):TR w0 w' b cP cS M:=by
 obtain⟨lo,mb,T⟩:=R.tree;obtain⟨m,hm,hl⟩:=T.map;have hmb:¬S mb:=fun e=>(hS mb e).1 m (fun e=>hne (by have:=hl.len;rw[e] at this;exact aP (by simpa using this.symm))) hm
 exact⟨⟨lo,mb,⟨(hk.block b (af T.blk) hb).trans T.blk,m,hm.kept hk hmb,hl.imp fun r d h=>h.stay hu hk.size⟩⟩,R.bl.trans (hk.below R.bl.size (fun k e=>(hS k e).2)),R.hb,R.fit,R.rl,R.hm⟩
theorem jC.stay{X:Nat→Prop}{b:Nat}{cP:cO}{cS:Int}{M:List (cO×Nd)}(F:jC X w b cP cS M){S:Nat→Prop}(hk:cQ S w w')(hu:jL w w')(hb:¬S b)(hS:∀k,S k→kj w k)(hne:M≠[]):jC X w' b cP cS M:=by
 obtain⟨lo,mb,T,hlo⟩:=F;obtain⟨m,hm,hl⟩:=T.map;have hmb:¬S mb:=fun e=>hS mb e m (fun e=>hne (by have:=hl.len;rw[e] at this;exact aP (by simpa using this.symm))) hm
 exact⟨lo,mb,⟨(hk.block b (af T.blk) hb).trans T.blk,m,hm.kept hk hmb,hl.imp fun r d h=>h.stay hu hk.size⟩,hlo⟩
theorem jC.QY{X:Nat→Prop}{b:Nat}{cP:cO}{cS:Int}{M:List (cO×Nd)}(F:jC X w b cP cS M){S:Nat→Prop}(hk:cQ S w w')(hb:¬S b)(hS:∀k,S k→X k∧kj w k)(hne:M≠[]):jC X w' b cP cS M:=by
 obtain⟨lo,mb,T,hlo⟩:=F;obtain⟨m,hm,hl⟩:=T.map;have hmb:¬S mb:=fun e=>(hS mb e).2 m (fun e=>hne (by have:=hl.len;rw[e] at this;exact aP (by simpa using this.symm))) hm
 exact⟨lo,mb,T.dZ hk (fun k h e=>hlo k h (hS k e).1) hb hmb,hlo⟩
theorem jC.tr{X:Nat→Prop}{w0:au}{b:Nat}{cP:cO}{cS:Int}{M:List (cO×Nd)}(F:jC X w' b cP cS M)(R:TR w0 w b cP cS M)(hb:cE w0 w'):TR w0 w' b cP cS M:=by
 obtain⟨lo,mb,T,_⟩:=F;exact⟨⟨lo,mb,T⟩,hb,R.hb,R.fit,R.rl,R.hm⟩
theorem TR.RI{w0:au}{b:Nat}{cP:cO}{cS:Int}{M:List (cO×Nd)}(R:TR w0 w b cP cS M):NoU w b:=by
 obtain⟨lo,mb,T⟩:=R.tree;refine VJ T.blk (fun x hx n=>?_);simp at hx;rcases hx with rfl|rfl|rfl<;>(intro e;cases e)
theorem TR.mz{w0:au}{b:Nat}{cP:cO}{cS:Int}{M:List (cO×Nd)}(R:TR w0 w b cP cS M):kj w b:=by
 obtain⟨lo,mb,T⟩:=R.tree;exact gT T.blk
structure rU(w:au)(lo:Nat→Prop)(r:ei)(L:List dr)(x:fW):Prop where
 de:dK w lo r.sa x.de
 like:ff w BU L x.dF
 row:gH w w.heap.size r.ea L
 new:∀ad,r.ea=some ad→lo ad.block∧ad.block<w.heap.size
theorem rU.iN{r:ei}{L:List dr}{x:fW}(h:rU w lo r L x){S:Nat→Prop}(hk:cQ S w w')(hu:jL w w')(hS:∀b,lo b→b<w.heap.size→¬S b):rU w' lo r L x:=by
 refine⟨h.de.kept hk hS,h.like.stay hu hk.size,fun k q hq=>?_,fun ad e=>⟨(h.new ad e).1,ah (h.new ad e).2 hk.size⟩⟩;obtain⟨b,off,e1,e2,e3⟩:=h.row k q hq;exact⟨b,off,e1,ah e2 hk.size,fun j v hv=>(hk.cell (p:=⟨b,off+k*11+j,none⟩) e2 (hS b (h.new _ e1).1 e2)).trans (e3 j v hv)⟩
theorem rU.cS{r:ei}{L:List dr}{x:fW}(h:rU w lo r L x):ez w BU r L x:=⟨h.de.mono (fun _ _ _=>trivial),h.like,h.row,fun _ _=>trivial⟩
theorem rU.mono{lo':Nat→Prop}{r:ei}{L:List dr}{x:fW}(h:rU w lo r L x)(hl:∀b,b<w.heap.size→lo b→lo' b):rU w lo' r L x:=⟨h.de.mono hl,h.like,h.row,fun ad e=>⟨hl _ (h.new ad e).2 (h.new ad e).1,(h.new ad e).2⟩⟩
theorem gK.iN{a:Option bT}{L:List cO}(h:gK w lo a L){S:Nat→Prop}(hk:cQ S w w')(hS:∀b,lo b→b<w.heap.size→¬S b):gK w' lo a L:=h.dZ hk hS
end
def mC(w:au)(v:aA)(p:aA→Prop):Prop:=∀g,v.ownBlock=some g→∃cur t fr,w.heap[g]?=some (.cells cur t fr)∧∀x∈cur.toList,p x
theorem mC.kept{w w':au}{v:aA}{p:aA→Prop}(h:mC w v p){S:Nat→Prop}(hk:cQ S w w')(hS:∀g,v.ownBlock=some g→¬S g):mC w' v p:=fun g hg=>by
 obtain⟨cur,t,fr,h1,h2⟩:=h g hg;exact⟨cur,t,fr,(hk.block g (af h1) (hS g hg)).trans h1,h2⟩
theorem mC.q{w:au}{v:aA}(h:mC w v (fun x=>I9 x=true)){g:Nat}(hg:v.ownBlock=some g):I8 w g:=by
 obtain⟨cur,t,fr,h1,h2⟩:=h g hg;exact rP h1 (bF.2 h2)
theorem qT{P:Program}{w:au}(base:Nat)(t ty e:TypeId)(i:TypeInfo)(z:aA)(size bytes:Nat)(ht:P.underlying t=some (.slice e))(hi:P.info? e=some i)(hz:i.zero=some z)
  (hsize:i.size=size) (hby:i.bytes=bytes) (hzs:z.cells.size=size) (hsz:0<size)
  (v:aA) (n:Nat) (xs:List aA) (hown:w.ownsRow base e size v n xs)
  (a:bT) (m c:Nat) (news:List aA) (hl:news.length=m*size) (hnews:∀j u,news[j]?=some u→w.cell? (a.add j)=some u) (h1:∀u∈news,u.oneCell'=true)
  (h63:n+m≤maxLen) (hbytes:(n+m)*bytes≤140737488355328) (hbase:base≤w.heap.size) (p:aA→Prop) (hp:mC w v p) (MQ:∀x∈news,p x) (hpz:∀x∈z.cells.toList,p x) (hm:0<m):
  ∃v' w',(cj #[t,t] ty #[v,.slice (some a) m c]).run P w=.ok v' w'∧w'.ownsRow base e size v' (n+m) (xs++news)∧w.grownBy w' v.ownBlock∧
   (∀k,v'.ownBlock=some k→v.ownBlock=some k∨w.heap.size≤k)∧mC w' v' p:=by
 obtain⟨v',w',hr,h2,h3,h4⟩:=gC (P:=P) (w:=w) base t ty e i z size bytes ht hi hz hsize hby hzs hsz v n xs hown a m c news hl hnews h1 h63 hbytes hbase;refine⟨v',w',hr,h2,h3,h4,?_⟩;have zc:∀k,∀x∈(bX z.cells k).toList,p x:=fun k x hx=>by
  unfold bX at hx;rw[Array.toList_map] at hx;obtain⟨i,_,rfl⟩:=bz.1 hx;have hlt:i % z.cells.size<z.cells.size:=Nat.mod_lt _ cK;rw[getElem!_pos z.cells _ hlt];exact hpz _ (Array.mem_toList_iff.2 (Array.getElem_mem hlt))
 subst hsize;subst hby;rcases hown.2 with ⟨rfl,h0⟩|⟨g,cap,cur,rfl,yG,hg,hnc,hcm,hcs,O3⟩
 ·subst h0
  have hr2:=run_append_nil (P:=P) w t ty e i z ht hi hz a m c news hl hnews hm (by unfold maxLen at h63;omega) (by have hb:=hbytes;simp only[aQ] at hb;omega);rw[hr] at hr2;simp only[bu] at hr2;obtain⟨e1,e2⟩:=hr2;rw[e1,e2];intro g hg;simp only[bH,aX] at hg;subst hg;refine⟨_,_,_,aF w.drew _,fun x hx=>?_⟩;rw[bg] at hx;rcases aE.1 hx with hx|hx
  ·exact MQ x (by simpa using hx)
  exact zc _ x hx
 obtain⟨apJ,t2,fr2,hg2,hall⟩:=hp g rfl;rw[hg] at hg2;cases hg2;by_cases hroom:n+m≤cap
 ·have hfit:n*i.size+news.length≤cur.size:=by rw[hl,hcs,←Nat.add_mul];exact Nat.mul_le_mul_right _ hroom
  have hr2:=run_append_room (P:=P) w t ty e i ht hi g n cap cur hg a m c news hl hnews h1 hroom hfit;rw[hr] at hr2;simp only[bu] at hr2;obtain⟨e1,e2⟩:=hr2;rw[e1,e2];intro g' hg';simp only[bH,aX] at hg';subst hg';refine⟨_,_,_,setRow_heap w g cur _ e _ hg,fun x hx=>?_⟩;rw[bh] at hx;rcases aE.1 hx with hx|hx
  ·rcases aE.1 hx with hx|hx
   ·exact hall x (bU hx)
   exact MQ x hx
  exact hall x (List.mem_of_mem_drop hx)
 have holds:∀j u,xs[j]?=some u→w.cell? ((⟨g,0,none⟩:bT).add j)=some u:=hown.cells (g:=g) rfl;have hr2:=run_append_grow (P:=P) w t ty e i z ht hi hz ⟨g,0,none⟩ n cap xs hown.1 holds a m c news hl hnews cK (by unfold maxLen at h63;omega) (growslice_fits cK hbytes);rw[hr] at hr2;simp only[bu] at hr2;obtain⟨e1,e2⟩:=hr2;rw[e1,e2];intro g' hg';simp only[bH,aX] at hg';subst hg';refine⟨_,_,_,aF w.drew _,fun x hx=>?_⟩;rw[bg,bg] at hx;rcases aE.1 hx with hx|hx
 ·rcases aE.1 hx with hx|hx
  ·refine hall x ?_
   have hx:x∈xs:=by simpa using hx
   rw[←O3] at hx;exact bU hx
  exact MQ x (by simpa using hx)
 exact zc _ x hx
structure MA where
 mb:Nat
 kb:Nat
 sb:Nat
 gb:Nat
 tb:List Nat
 ra:Option bT
 rc:Nat
 ta:Option bT
 tc:Nat
 va:Option bT
 vc:Nat
 ov:aA
 C:List (ei×List dr)
 X:Nat→Prop
 F:Nat→Prop:=fun _=>False
def MA.Z(A:MA)(b:Nat):Prop:=b=A.mb∨b=A.kb∨b=A.sb∨b=A.gb∨b∈A.tb∨A.ov.ownBlock=some b
def MA.lo(A:MA)(b:Nat):Prop:=¬A.Z b∧¬A.X b
def MA.cells(A:MA)(m:cV):Array aA:=#[.i m.dy,.slice A.ra m.dP.length A.rc,.slice A.ta m.eC.length A.tc,.p A.kb,.p A.sb,.slice A.va m.v.length A.vc,A.ov]
def aa5(w:au)(lo:Nat→Prop)(a:Option bT)(T:List Nat):Prop:=∀(r:Nat) b,T[r]?=some b→∃g off,a=some ⟨g,off,none⟩∧lo g∧g<w.heap.size∧w.cell? ⟨g,off+r,none⟩=some (.p b)
structure nV(w:au)(lo:Nat→Prop)(A:MA)(m:cV):Prop where
 dP:gK w lo A.ra m.dP
 row:aa5 w lo A.ta A.tb
 v:dK w lo A.va m.v
 eu:∀(i:Nat) x c,m.own[i]?=some x→A.C[i]?=some c→rU w lo c.1 c.2 x
theorem nV.mono{w:au}{lo lo':Nat→Prop}{A:MA}{m:cV}(h:nV w lo A m)(hl:∀b,b<w.heap.size→lo b→lo' b):nV w lo' A m:=
 ⟨fun k p hk=>by
  obtain⟨b,off,e1,e2,e3,e4⟩:=h.dP k p hk;exact⟨b,off,e1,hl b e3 e2,e3,e4⟩,fun r b hr=>by
  obtain⟨g,off,e1,e2,e3,e4⟩:=h.row r b hr;exact⟨g,off,e1,hl g e3 e2,e3,e4⟩,h.v.mono hl,fun i x c hx hc=>(h.eu i x c hx hc).mono hl⟩
theorem jx.more{w:au}{kb:Nat}{lo lo':Nat→Prop}{T:List jK}(h:jx w kb lo T)(hl:∀b,b<w.heap.size→lo b→lo' b):jx w kb lo' T:=
 ⟨h.le,h.c0,h.th,fun r t ht=>by
  obtain⟨a,c,e1,e2⟩:=h.row r t ht;exact⟨a,c,e1,e2.mono hl⟩,h.q⟩
theorem nV.iN{w w':au}{lo:Nat→Prop}{A:MA}{m:cV}(h:nV w lo A m){S:Nat→Prop}(hk:cQ S w w')(hu:jL w w')(hS:∀b,lo b→b<w.heap.size→¬S b):nV w' lo A m:=
 ⟨h.dP.iN hk hS,fun r b hr=>by
  obtain⟨g,off,e1,e2,e3,e4⟩:=h.row r b hr;exact⟨g,off,e1,e2,ah e3 hk.size,(hk.cell (p:=⟨g,off+r,none⟩) e3 (hS g e2 e3)).trans e4⟩,h.v.kept hk hS,fun i x c hx hc=>(h.eu i x c hx hc).iN hk hu hS⟩
structure Nt(w:au)(A:MA)(m:cV):Prop where
 lt:∀b,A.F b→b<w.heap.size
 tr:∀(r:Nat) b,A.tb[r]?=some b→jC A.F w b (m.cP r) (m.cS r) (m.dQ r)
 eu:∀(i:Nat) x c,m.own[i]?=some x→A.C[i]?=some c→ff w (fun k=>¬A.F k) c.2 x.dF
theorem Nt.stay{w w':au}{A:MA}{m:cV}(f:Nt w A m){S:Nat→Prop}(hk:cQ S w w')(hu:jL w w')(ht:∀b∈A.tb,¬S b)(hS:∀k,S k→kj w k)(hne:∀(r:Nat) b,A.tb[r]?=some b→m.dQ r≠[]):Nt w' A m:=
 ⟨fun b h=>ah (f.lt b h) hk.size,fun r b hr=>(f.tr r b hr).stay hk hu (ht b (aj hr)) hS (hne r b hr),fun i x c hx hc=>(f.eu i x c hx hc).stay hu hk.size⟩
structure cZ(w0 w:au)(A:MA)(m:cV):Prop where
 blk:w.heap[A.mb]?=some (.cells (A.cells m) 107 (0,0))
 data:nV w A.lo A m
 tl:A.tb.length=m.eC.length
 tr:∀(r:Nat) b,A.tb[r]?=some b→TR w0 w b (m.cP r) (m.cS r) (m.dQ r)∧m.dQ r≠[]
 nd:A.tb.Nodup
 tok:jx w A.kb A.lo m.toks
 xk:iP w A.sb A.gb m.dy m.last m.gone
 own:w.ownsRow w0.heap.size 40 7 A.ov m.own.length ((m.own.zip A.C).flatMap fun p=>cU p.1 p.2.1)
 oq:mC w A.ov (fun x=>I9 x=true)
 cl:A.C.length=m.own.length
 kd:A.kb≠A.mb∧A.kb≠A.sb∧A.kb∉A.tb∧A.ov.ownBlock≠some A.kb
 lo:∀b,A.Z b→w0.heap.size≤b
 xz:∀b,A.X b→¬A.Z b∧w0.heap.size≤b∧b<w.heap.size
 pow:iz w0
 mx:dM w0
 bl:cE w0 w
 mG:Nt w A m
section
variable{w0 w w':World}{A:MA}{m:cV}
theorem cZ.L9(h:cZ w0 w A m){b:Nat}(hb:b∈A.tb):∃cs,w.heap[b]?=some (.cells cs 122 (0,0)):=by
 obtain⟨r,hr⟩:=aI.1 hb;obtain⟨lo,mb,T⟩:=(h.tr r b hr).1.tree;exact⟨_,T.blk⟩
theorem cZ.AD(h:cZ w0 w A m){b:Nat}(hb:A.ov.ownBlock=some b):∃cs,w.heap[b]?=some (.cells cs 40 (0,0)):=by
 obtain⟨cur,hc⟩:=EI h.own hb;exact⟨_,hc⟩
theorem cZ.Fk(h:cZ w0 w A m):∃es c,w.heap[A.gb]?=some (.map es c):=by
 obtain⟨es,c,e,_⟩:=h.xk.mp;exact⟨es,c,e⟩
theorem cZ.Q1(h:cZ w0 w A m):∀es c,w.heap[A.kb]?≠some (.map es c):=fun es c e=>by
 have:=h.tok.c0;simp[World.cell?,e] at this
structure aa9(A:MA):Prop where
 ks:A.kb≠A.mb∧A.kb≠A.sb∧A.kb≠A.gb
 ms:A.mb≠A.sb∧A.mb≠A.gb∧A.sb≠A.gb
 t:∀b∈A.tb,b≠A.mb∧b≠A.kb∧b≠A.sb∧b≠A.gb∧A.ov.ownBlock≠some b
 o:A.ov.ownBlock≠some A.mb∧A.ov.ownBlock≠some A.kb∧A.ov.ownBlock≠some A.sb∧A.ov.ownBlock≠some A.gb
theorem cZ.apart(h:cZ w0 w A m):aa9 A:=by
 obtain⟨es,c,hg⟩:=h.Fk;have hm:=h.blk;have hs:=h.xk.blk;refine⟨⟨h.kd.1,h.kd.2.1,fun e=>h.Q1 es c (by rw[e];exact hg)⟩,⟨fun e=>?_,fun e=>?_,fun e=>?_⟩,fun b hb=>?_,⟨fun e=>?_,h.kd.2.2.2,fun e=>?_,fun e=>?_⟩⟩
 ·rw[e,hs] at hm;cases hm
 ·rw[e,hg] at hm;cases hm
 ·rw[e,hg] at hs;cases hs
 ·obtain⟨cs,ht⟩:=h.L9 hb
  refine⟨fun e=>?_,fun e=>h.kd.2.2.1 (by rw[←e];exact hb),fun e=>?_,fun e=>?_,fun e=>?_⟩
  ·rw[e,hm] at ht;cases ht
  ·rw[e,hs] at ht;cases ht
  ·rw[e,hg] at ht;cases ht
  obtain⟨cs2,ho⟩:=h.AD e;rw[ht] at ho;cases ho
 ·obtain⟨cs2,ho⟩:=h.AD e
  rw[hm] at ho;cases ho
 ·obtain⟨cs2,ho⟩:=h.AD e
  rw[hs] at ho;cases ho
 obtain⟨cs2,ho⟩:=h.AD e;rw[hg] at ho;cases ho
theorem W7(A:MA)(m:cV)(h:I9 A.ov=true):(A.cells m).toList.all I9=true:=by
 unfold MA.cells;simp only[List.all_cons,List.all_nil];rw[h];rfl
theorem cZ.ovq(h:cZ w0 w A m):I9 A.ov=true:=by
 rcases h.own.2 with ⟨e,_⟩|⟨g,cap,cur,e,_⟩<;>rw[e]<;>rfl
theorem cZ.mq(h:cZ w0 w A m):I8 w A.mb:=rP h.blk (W7 A m h.ovq)
theorem cZ.RI(h:cZ w0 w A m){b:Nat}(hb:A.Z b):NoU w b:=by
 rcases hb with rfl|rfl|rfl|rfl|hb|hb
 ·exact h.mq.RI
 ·exact I8.RI h.tok.q
 ·exact(show I8 w A.sb from rP h.xk.blk rfl).RI
 ·obtain⟨es,c,hg⟩:=h.Fk
  exact(VK hg).RI
 ·obtain⟨r,hr⟩:=aI.1 hb
  exact(h.tr r b hr).1.RI
 exact(h.oq.q hb).RI
theorem cZ.mz(h:cZ w0 w A m){b:Nat}(hb:A.Z b):kj w b:=by
 rcases hb with rfl|rfl|rfl|rfl|hb|hb
 ·exact gT h.blk
 ·intro mm _ hm
  obtain⟨es,c,e,_⟩:=hm;exact h.Q1 es c e
 ·exact gT h.xk.blk
 ·exact GL h.xk.mp
 ·obtain⟨r,hr⟩:=aI.1 hb
  exact(h.tr r b hr).1.mz
 obtain⟨cs,ho⟩:=h.AD hb;exact gT ho
theorem cZ.ze(h:cZ w0 w A m){b:Nat}(hb:A.Z b):b<w.heap.size:=by
 rcases hb with rfl|rfl|rfl|rfl|hb|hb
 ·exact af h.blk
 ·exact h.tok.lt
 ·exact af h.xk.blk
 ·obtain⟨es,c,hg⟩:=h.Fk
  exact af hg
 ·obtain⟨cs,ht⟩:=h.L9 hb
  exact af ht
 exact(h.own.lt b hb).2
theorem cZ.max(h:cZ w0 w A m):dM w:=h.mx.kept h.bl
theorem MA.zm(A:MA):A.Z A.mb:=.inl rfl
theorem MA.zk(A:MA):A.Z A.kb:=.inr (.inl rfl)
theorem MA.zs(A:MA):A.Z A.sb:=.inr (.inr (.inl rfl))
theorem MA.zg(A:MA):A.Z A.gb:=.inr (.inr (.inr (.inl rfl)))
theorem MA.zt(A:MA){b:Nat}(h:b∈A.tb):A.Z b:=.inr (.inr (.inr (.inr (.inl h))))
theorem MA.zo(A:MA){b:Nat}(h:A.ov.ownBlock=some b):A.Z b:=.inr (.inr (.inr (.inr (.inr h))))
theorem cZ.ku(h:cZ w0 w A m){S:Nat→Prop}(hk:cQ S w w')(hS:∀b,S b→A.Z b):jL w w':=hk.bytes (fun b hb=>h.RI (hS b hb))
theorem cZ.dat(h:cZ w0 w A m){S:Nat→Prop}(hk:cQ S w w')(hS:∀b,S b→A.Z b):nV w' A.lo A m:=h.data.iN hk (h.ku hk hS) (fun b hb _ hs=>hb.1 (hS b hs))
theorem cZ.bl2(h:cZ w0 w A m){S:Nat→Prop}(hk:cQ S w w')(hS:∀b,S b→A.Z b):cE w0 w':=h.bl.trans (hk.below h.bl.size (fun k e=>h.lo k (hS k e)))
theorem cZ.tr2(h:cZ w0 w A m){S:Nat→Prop}(hk:cQ S w w')(hS:∀b,S b→A.Z b){r b:Nat}(hr:A.tb[r]?=some b)(hb:¬S b):TR w0 w' b (m.cP r) (m.cS r) (m.dQ r)∧m.dQ r≠[]:=
 ⟨(h.tr r b hr).1.iN hk (h.ku hk hS) hb (fun k e=>⟨h.mz (hS k e),h.lo k (hS k e)⟩) (h.tr r b hr).2,(h.tr r b hr).2⟩
theorem cZ.Y6(h:cZ w0 w A m){S:Nat→Prop}(hk:cQ S w w')(hS:∀b,S b→A.Z b)(hb:¬S A.kb):jx w' A.kb A.lo m.toks:=h.tok.kept hk hb (fun b hb hs=>hb.1 (hS b hs))
theorem cZ.xz2(h:cZ w0 w A m){S:Nat→Prop}(hk:cQ S w w'):∀b,A.X b→¬A.Z b∧w0.heap.size≤b∧b<w'.heap.size:=fun b hb=>⟨(h.xz b hb).1,(h.xz b hb).2.1,ah (h.xz b hb).2.2 hk.size⟩
theorem cZ.Mw(h:cZ w0 w A m){b:Nat}(hb:w.heap.size≤b):A.lo b:=⟨fun e=>by have:=h.ze e;omega,fun e=>by have:=(h.xz b e).2.2;omega⟩
theorem cZ.vV(h:cZ w0 w A m){S:Nat→Prop}(hk:cQ S w w')(hu:jL w w')(hS:∀b,S b→A.X b∧kj w b):cZ w0 w' A m:=by
 have hz:∀b,A.Z b→¬S b:=fun b hb hs=>(h.xz b (hS b hs).1).1 hb
 have hl:∀b,A.lo b→b<w.heap.size→¬S b:=fun b hb _ hs=>hb.2 (hS b hs).1
 have h0:∀b,S b→kj w b∧w0.heap.size≤b:=fun b hb=>⟨(hS b hb).2,(h.xz b (hS b hb).1).2.1⟩
 exact⟨(hk.block _ (af h.blk) (hz _ A.zm)).trans h.blk,h.data.iN hk hu hl,h.tl,fun r b hr=>⟨(h.tr r b hr).1.iN hk hu (hz _ (A.zt (aj hr))) h0 (h.tr r b hr).2,(h.tr r b hr).2⟩,h.nd,
  h.tok.kept hk (hz _ A.zk) (fun b hb hs=>hb.2 (hS b hs).1),h.xk.kept hk (hz _ A.zs) (hz _ A.zg),fA h.own hk (fun g hg=>hz g (A.zo hg)),h.oq.kept hk (fun g hg=>hz g (A.zo hg)),h.cl,h.kd,h.lo,h.xz2 hk,h.pow,h.mx,
  h.bl.trans (hk.below h.bl.size (fun k e=>(h0 k e).2)),h.mG.stay hk hu (fun b hb=>hz _ (A.zt hb)) (fun k e=>(h0 k e).1) (fun r b hr=>(h.tr r b hr).2)⟩
theorem cZ.below(h:cZ w0 w A m)(hb:cE w w'):cZ w0 w' A m:=h.vV (dA (S:=fun _=>False) hb) (lZ hb) (fun _ e=>e.elim)
theorem cZ.Il(h:cZ w0 w A m){S:Nat→Prop}(hk:cQ S w w')(hS:∀b,S b→A.X b∧A.F b∧kj w b):cZ w0 w' A m:=by
 have hz:∀b,A.Z b→¬S b:=fun b hb hs=>(h.xz b (hS b hs).1).1 hb
 have hl:∀b,A.lo b→b<w.heap.size→¬S b:=fun b hb _ hs=>hb.2 (hS b hs).1
 have h0:∀b,S b→kj w b∧w0.heap.size≤b:=fun b hb=>⟨(hS b hb).2.2,(h.xz b (hS b hb).1).2.1⟩
 have gQ:=h.bl.trans (hk.below h.bl.size (fun k e=>(h0 k e).2));have hft:∀(r:Nat) b,A.tb[r]?=some b→jC A.F w' b (m.cP r) (m.cS r) (m.dQ r):=fun r b hr=>(h.mG.tr r b hr).QY hk (hz _ (A.zt (aj hr))) (fun k e=>(hS k e).2) (h.tr r b hr).2
 have hfi:∀(i:Nat) x c,m.own[i]?=some x→A.C[i]?=some c→ff w' (fun k=>¬A.F k) c.2 x.dF:=fun i x c hx hc=>(h.mG.eu i x c hx hc).dZ hk (fun b hb e=>hb (hS b e).2.1)
 have hd:nV w' A.lo A m:=by
  refine⟨h.data.dP.iN hk hl,fun r b hr=>?_,h.data.v.kept hk hl,fun i x c hx hc=>?_⟩
  ·obtain⟨g,off,e1,e2,e3,e4⟩:=h.data.row r b hr
   exact⟨g,off,e1,e2,ah e3 hk.size,(hk.cell (p:=⟨g,off+r,none⟩) e3 (hl g e2 e3)).trans e4⟩
  have hi:=h.data.eu i x c hx hc;refine⟨hi.de.kept hk hl,(hfi i x c hx hc).both (fun _ _ _=>trivial),fun k q hq=>?_,fun ad e=>⟨(hi.new ad e).1,ah (hi.new ad e).2 hk.size⟩⟩;obtain⟨b,off,e1,e2,e3⟩:=hi.row k q hq;exact⟨b,off,e1,ah e2 hk.size,fun j v hv=>(hk.cell (p:=⟨b,off+k*11+j,none⟩) e2 (hl b (hi.new _ e1).1 e2)).trans (e3 j v hv)⟩
 exact⟨(hk.block _ (af h.blk) (hz _ A.zm)).trans h.blk,hd,h.tl,fun r b hr=>⟨(hft r b hr).tr (h.tr r b hr).1 gQ,(h.tr r b hr).2⟩,h.nd,
  h.tok.kept hk (hz _ A.zk) (fun b hb hs=>hb.2 (hS b hs).1),h.xk.kept hk (hz _ A.zs) (hz _ A.zg),fA h.own hk (fun g hg=>hz g (A.zo hg)),h.oq.kept hk (fun g hg=>hz g (A.zo hg)),h.cl,h.kd,h.lo,h.xz2 hk,h.pow,h.mx,
  gQ,⟨fun b e=>ah (h.mG.lt b e) hk.size,hft,hfi⟩⟩
theorem cZ.newF(h:cZ w0 w A m)(hb:cE w w'){D:Nat}(hD:w.heap.size≤D)(hlt:D<w'.heap.size):cZ w0 w' {A with X:=fun b=>A.X b∨b=D,F:=fun b=>A.F b∨b=D} m:=by
 have h':=h.below hb;have hl:∀b,b<w.heap.size→A.lo b→({A with X:=fun b=>A.X b∨b=D,F:=fun b=>A.F b∨b=D}:MA).lo b:=fun b hb hlo=>⟨hlo.1,fun e=>by
  rcases e with e|e
  ·exact hlo.2 e
  omega⟩
 have hd:=h.data.mono hl;have uD:=nV.iN hd (dA (S:=fun _=>False) hb) (lZ hb) (fun _ _ _ e=>e);have ht:=(h.tok.more hl).below hb;refine⟨h'.blk,⟨uD.dP,uD.row,uD.v,uD.eu⟩,h'.tl,h'.tr,h'.nd,ht,h'.xk,h'.own,h'.oq,h'.cl,h'.kd,h'.lo,fun b e=>?_,h'.pow,h'.mx,h'.bl,⟨fun b e=>?_,fun r b hr=>?_,fun i x c hx hc=>?_⟩⟩
 ·rcases e with e|e
  ·exact h'.xz b e
  subst e;exact⟨fun z=>by have:=h.ze z;omega,by have:=h.bl.size;omega,hlt⟩
 ·rcases e with e|e
  ·exact h'.mG.lt b e
  subst e;exact hlt
 ·obtain⟨lo,mb,T,hlo⟩:=h.mG.tr r b hr
  exact⟨_,mb,(T.both (lo':=fun k=>lo k∧k<w.heap.size) (fun k h1 h2=>⟨h1,h2⟩)).below hb,fun k hk e=>by
   rcases e with e|e
   ·exact hlo k hk.1 e
   have:=hk.2;omega⟩
 exact((h.mG.eu i x c hx hc).both (lo':=fun k=>¬(A.F k∨k=D)) (fun k h1 h2 e=>by
  rcases e with e|e
  ·exact h1 e
  omega)).below hb
theorem cZ.drew(h:cZ w0 w A m):cZ w0 w.drew A m:=h.below (aJ _ w).drew
theorem cZ.zi(h:cZ w0 w A m){X:Nat→Prop}(h1:∀b,X b→¬A.Z b∧w0.heap.size≤b∧b<w.heap.size)(h2:∀b,A.lo b→¬X b):cZ w0 w {A with X:=X} m:=by
 have hl:∀b,b<w.heap.size→A.lo b→({A with X:=X}:MA).lo b:=fun b hb hlo=>⟨hlo.1,h2 b hlo⟩
 have hd:=h.data.mono hl;exact⟨h.blk,⟨hd.dP,hd.row,hd.v,hd.eu⟩,h.tl,h.tr,h.nd,h.tok.more hl,h.xk,h.own,h.oq,h.cl,h.kd,h.lo,h1,h.pow,h.mx,h.bl,⟨h.mG.lt,h.mG.tr,h.mG.eu⟩⟩
theorem cZ.JL(h:cZ w0 w A m){S:Nat→Prop}(hk:cQ S w w')(hS:∀b,S b→b=A.sb∨b=A.gb){last:Nat}{gone:List (Int×Int)}(hs:iP w' A.sb A.gb m.dy last gone):cZ w0 w' A {m with last:=last,gone:=gone}:=by
 have hz:∀b,S b→A.Z b:=fun b e=>by rcases hS b e with rfl|rfl;exact A.zs;exact A.zg
 have ap:=h.apart;have hn:∀b,b≠A.sb→b≠A.gb→¬S b:=fun b h1 h2 e=>by rcases hS b e with h|h;exact h1 h;exact h2 h
 have hd:=h.dat hk hz;have ho:∀g,A.ov.ownBlock=some g→¬S g:=fun g hg=>hn g (fun e=>ap.o.2.2.1 (e▸hg)) (fun e=>ap.o.2.2.2 (e▸hg))
 have f:=h.mG.stay hk (h.ku hk hz) (fun b hb=>hn b (ap.t b hb).2.2.1 (ap.t b hb).2.2.2.1) (fun k e=>h.mz (hz k e)) (fun r b hr=>(h.tr r b hr).2);exact⟨(hk.block _ (af h.blk) (hn _ ap.ms.1 ap.ms.2.1)).trans h.blk,⟨hd.dP,hd.row,hd.v,hd.eu⟩,h.tl,fun r b hr=>h.tr2 hk hz hr (hn b (ap.t b (aj hr)).2.2.1 (ap.t b (aj hr)).2.2.2.1),h.nd,h.Y6 hk hz (hn _ ap.ks.2.1 ap.ks.2.2),hs,
  fA h.own hk ho,h.oq.kept hk ho,h.cl,h.kd,h.lo,h.xz2 hk,h.pow,h.mx,h.bl2 hk hz,⟨f.lt,f.tr,f.eu⟩⟩
theorem cZ.Vf(h:cZ w0 w A m)(hk:cQ (·=A.kb) w w'){T:List jK}(ht:jx w' A.kb (fun b=>A.lo b∨w.heap.size≤b) T):cZ w0 w' A {m with toks:=T}:=by
 have hz:∀b,b=A.kb→A.Z b:=fun b e=>e▸A.zk
 have ap:=h.apart;have hd:=h.dat hk hz;have ho:∀g,A.ov.ownBlock=some g→¬g=A.kb:=fun g hg e=>ap.o.2.1 (e▸hg)
 have f:=h.mG.stay hk (h.ku hk hz) (fun b hb=>(ap.t b hb).2.1) (fun k e=>h.mz (hz k e)) (fun r b hr=>(h.tr r b hr).2);exact⟨(hk.block _ (af h.blk) (fun e=>ap.ks.1 e.symm)).trans h.blk,⟨hd.dP,hd.row,hd.v,hd.eu⟩,h.tl,fun r b hr=>h.tr2 hk hz hr (ap.t b (aj hr)).2.1,h.nd,ht.more (fun b _ hb=>hb.elim id h.Mw),h.xk.kept hk (fun e=>ap.ks.2.1 e.symm) (fun e=>ap.ks.2.2 e.symm),
  fA h.own hk ho,h.oq.kept hk ho,h.cl,h.kd,h.lo,h.xz2 hk,h.pow,h.mx,h.bl2 hk hz,⟨f.lt,f.tr,f.eu⟩⟩
theorem cZ.eA(h:cZ w0 w A m){r b:Nat}(hr:A.tb[r]?=some b)(hk:cQ (·=b) w w'){t:Int×List (cO×Nd)}(ht:TR w0 w' b (m.cP r) t.1 t.2)(hf:jC A.F w' b (m.cP r) t.1 t.2)(hne:t.2≠[]):cZ w0 w' A (m.eA r t):=by
 have hm:=aj hr;have hz:∀k,k=b→A.Z k:=fun k e=>e▸A.zt hm
 have ap:=h.apart;have ab:=ap.t b hm;have hd:=h.dat hk hz;have ho:∀g,A.ov.ownBlock=some g→¬g=b:=fun g hg e=>ab.2.2.2.2 (e▸hg)
 have hlen:(m.eC.set r t).length=m.eC.length:=aU;have hrl:r<m.eC.length:=by rw[←h.tl];exact(aa.1 hr).1
 refine⟨?_,⟨hd.dP,hd.row,hd.v,hd.eu⟩,by show _=(m.eC.set r t).length;rw[hlen];exact h.tl,fun k c hk2=>?_,h.nd,h.Y6 hk hz (fun e=>ab.2.1 e.symm),h.xk.kept hk (fun e=>ab.2.2.1 e.symm) (fun e=>ab.2.2.2.1 e.symm),
  fA h.own hk ho,h.oq.kept hk ho,h.cl,h.kd,h.lo,h.xz2 hk,h.pow,h.mx,h.bl2 hk hz,⟨fun b h2=>ah (h.mG.lt b h2) hk.size,fun k c hk2=>?_,fun i x c hx hc=>(h.mG.eu i x c hx hc).stay (h.ku hk hz) hk.size⟩⟩
 ·have e1:A.cells (m.eA r t)=A.cells m:=by
   show(#[_,_,.slice A.ta (m.eC.set r t).length A.tc,_,_,_,_]:Array aA)=_;rw[hlen];rfl
  rw[e1];exact(hk.block _ (af h.blk) (fun e=>ab.1 e.symm)).trans h.blk
 ·by_cases e:r=k
  ·subst e
   rw[hr] at hk2;cases hk2;have e2:∀j,(m.eA r t).cP j=m.cP j:=fun _=>rfl
   have e3:(m.eA r t).cS r=t.1:=by
    show((m.eC.set r t).getD r (0,[])).1=_;rw[cV.ji,if_pos ⟨rfl,hrl⟩]
   have e4:(m.eA r t).dQ r=t.2:=by
    show((m.eC.set r t).getD r (0,[])).2=_;rw[cV.ji,if_pos ⟨rfl,hrl⟩]
   rw[e2,e3,e4];exact⟨ht,hne⟩
  have e3:(m.eA r t).cS k=m.cS k:=by
   show((m.eC.set r t).getD k (0,[])).1=_;rw[cV.ji,if_neg (fun h=>e h.1)];rfl
  have e4:(m.eA r t).dQ k=m.dQ k:=by
   show((m.eC.set r t).getD k (0,[])).2=_;rw[cV.ji,if_neg (fun h=>e h.1)];rfl
  have e2:∀j,(m.eA r t).cP j=m.cP j:=fun _=>rfl
  rw[e2,e3,e4];refine h.tr2 hk hz hk2 (fun eb=>e ?_);have eb:c=b:=eb;subst eb;have i1:=(aa.1 hr);have i2:=(aa.1 hk2);exact(List.getElem_inj h.nd).1 (i1.2.trans i2.2.symm)
 by_cases e:r=k
 ·subst e
  rw[hr] at hk2;cases hk2;have e2:∀j,(m.eA r t).cP j=m.cP j:=fun _=>rfl
  have e3:(m.eA r t).cS r=t.1:=by
   show((m.eC.set r t).getD r (0,[])).1=_;rw[cV.ji,if_pos ⟨rfl,hrl⟩]
  have e4:(m.eA r t).dQ r=t.2:=by
   show((m.eC.set r t).getD r (0,[])).2=_;rw[cV.ji,if_pos ⟨rfl,hrl⟩]
  rw[e2,e3,e4];exact hf
 have e3:(m.eA r t).cS k=m.cS k:=by
  show((m.eC.set r t).getD k (0,[])).1=_;rw[cV.ji,if_neg (fun h=>e h.1)];rfl
 have e4:(m.eA r t).dQ k=m.dQ k:=by
  show((m.eC.set r t).getD k (0,[])).2=_;rw[cV.ji,if_neg (fun h=>e h.1)];rfl
 have e2:∀j,(m.eA r t).cP j=m.cP j:=fun _=>rfl
 rw[e2,e3,e4];refine(h.mG.tr k c hk2).stay hk (h.ku hk hz) (fun eb=>e ?_) (fun j e=>h.mz (hz j e)) (h.tr k c hk2).2;have eb:c=b:=eb;subst eb;have i1:=(aa.1 hr);have i2:=(aa.1 hk2);exact(List.getElem_inj h.nd).1 (i1.2.trans i2.2.symm)
theorem cZ.acK(h:cZ w0 w A m){a:Option bT}{c:Nat}{V:List Nat}(hv:dK w A.lo a V):cZ w0 (w.setCell ⟨A.mb,5,none⟩ (.slice a V.length c)) {A with va:=a,vc:=c} {m with v:=V}:=by
 have hk:cQ (·=A.mb) w (w.setCell ⟨A.mb,5,none⟩ (.slice a V.length c)):=(cQ.refl (·=A.mb) w).setCell (p:=⟨A.mb,5,none⟩) rfl _;have hz:∀k,k=A.mb→A.Z k:=fun k e=>e▸A.zm
 have ap:=h.apart;have hd:=h.dat hk hz;have ho:∀g,A.ov.ownBlock=some g→¬g=A.mb:=fun g hg e=>ap.o.1 (e▸hg)
 have f:=h.mG.stay hk (h.ku hk hz) (fun b hb=>(ap.t b hb).1) (fun k e=>h.mz (hz k e)) (fun r b hr=>(h.tr r b hr).2);refine⟨?_,⟨hd.dP,hd.row,hv.kept hk (fun b hb _ e=>hb.1 (hz b e)),hd.eu⟩,h.tl,fun r b hr=>h.tr2 hk hz hr (ap.t b (aj hr)).1,h.nd,h.Y6 hk hz ap.ks.1,h.xk.kept hk (fun e=>ap.ms.1 e.symm) (fun e=>ap.ms.2.1 e.symm),
  fA h.own hk ho,h.oq.kept hk ho,h.cl,h.kd,h.lo,h.xz2 hk,h.pow,h.mx,h.bl2 hk hz,⟨f.lt,f.tr,f.eu⟩⟩
 rw[aL w A.mb 5 _ 107 _ h.blk];rfl
theorem cZ.push(h:cZ w0 w A m){x:fW}{r:ei}{L:List dr}(hx:rU w A.lo r L x)(hxf:ff w (fun k=>¬A.F k) L x.dF){v':aA}{w1:au}(hown:w1.ownsRow w0.heap.size 40 7 v' (m.own.length+1) (((m.own.zip A.C).flatMap fun p=>cU p.1 p.2.1)++cU x r))
  (hg:w.grownBy w1 A.ov.ownBlock) (hw:∀k,v'.ownBlock=some k→A.ov.ownBlock=some k∨w.heap.size≤k) (hq:mC w1 v' (fun x=>I9 x=true)):
  cZ w0 (w1.setCell ⟨A.mb,6,none⟩ v') {A with ov:=v',C:=A.C++[(r,L)]} {m with own:=m.own++[x]}∧cQ (fun k=>A.ov.ownBlock=some k∨k=A.mb) w (w1.setCell ⟨A.mb,6,none⟩ v'):=by
 have hk1:cQ (fun k=>A.ov.ownBlock=some k) w w1:=gz hg;have ap:=h.apart;have zx:w1.heap[A.mb]?=some (.cells (A.cells m) 107 (0,0)):=(hk1.block _ (af h.blk) ap.o.1).trans h.blk;have hk2:cQ (·=A.mb) w1 (w1.setCell ⟨A.mb,6,none⟩ v'):=(cQ.refl (·=A.mb) w1).setCell (p:=⟨A.mb,6,none⟩) rfl _;have hk:cQ (fun k=>A.ov.ownBlock=some k∨k=A.mb) w (w1.setCell ⟨A.mb,6,none⟩ v'):=(hk1.mono (fun k _ e=>.inl e)).trans (hk2.mono (fun k _ e=>.inr e));have hz:∀k,(A.ov.ownBlock=some k∨k=A.mb)→A.Z k:=fun k e=>by
  rcases e with e|e
  ·exact A.zo e
  exact e▸A.zm
 have sN:∀k,v'.ownBlock=some k→k<w1.heap.size:=fun k e=>(hown.lt k e).2
 have UF:v'.ownBlock≠some A.mb:=fun e=>by
  rcases hw _ e with h1|h1
  ·exact ap.o.1 h1
  have:=af h.blk;omega
 have hd:=h.dat hk hz;have hz':∀b,({A with ov:=v',C:=A.C++[(r,L)]}:MA).Z b→A.Z b∨w.heap.size≤b:=fun b e=>by
  rcases e with e|e|e|e|e|e
  ·exact .inl (e▸A.zm)
  ·exact .inl (e▸A.zk)
  ·exact .inl (e▸A.zs)
  ·exact .inl (e▸A.zg)
  ·exact .inl (A.zt e)
  rcases hw _ e with h1|h1
  ·exact .inl (A.zo h1)
  exact .inr h1
 have hlo:∀b,b<w.heap.size→A.lo b→({A with ov:=v',C:=A.C++[(r,L)]}:MA).lo b:=fun b hb hlo=>⟨fun e=>by
  rcases hz' b e with h1|h1
  ·exact hlo.1 h1
  omega,hlo.2⟩
 have hnS:∀b,A.lo b∧b<w.heap.size→b<w.heap.size→¬(A.ov.ownBlock=some b∨b=A.mb):=fun b hb _ e=>hb.1.1 (hz b e)
 have uD:=((h.data.mono (lo':=fun b=>A.lo b∧b<w.heap.size) (fun b hb hl=>⟨hl,hb⟩)).iN hk (h.ku hk hz) hnS).mono (lo':=({A with ov:=v',C:=A.C++[(r,L)]}:MA).lo) (fun b _ hb=>hlo b hb.2 hb.1);have hx2:=((hx.mono (lo':=fun b=>A.lo b∧b<w.heap.size) (fun b hb hl=>⟨hl,hb⟩)).iN hk (h.ku hk hz) hnS).mono (lo':=({A with ov:=v',C:=A.C++[(r,L)]}:MA).lo) (fun b _ hb=>hlo b hb.2 hb.1);have ht2:=((h.tok.more (lo':=fun b=>A.lo b∧b<w.heap.size) (fun b hb hl=>⟨hl,hb⟩)).kept hk (fun e=>by
  rcases e with e|e
  ·exact ap.o.2.1 e
  exact ap.ks.1 e) (fun b hb=>hnS b hb hb.2)).more (lo':=({A with ov:=v',C:=A.C++[(r,L)]}:MA).lo) (fun b _ hb=>hlo b hb.2 hb.1)
 have ahS:(m.own++[x]).zip (A.C++[(r,L)])=m.own.zip A.C++[(x,(r,L))]:=by rw[List.zip_append h.cl.symm];rfl
 have f:=h.mG.stay hk (h.ku hk hz) (fun b hb e=>e.elim (ap.t b hb).2.2.2.2 (ap.t b hb).1) (fun k e=>h.mz (hz k e)) (fun r b hr=>(h.tr r b hr).2);have ahV:=hxf.stay (h.ku hk hz) hk.size;refine⟨⟨?_,⟨uD.dP,uD.row,uD.v,fun i y c hy hc=>?_⟩,h.tl,fun k b hr=>h.tr2 hk hz hr (fun e=>?_),h.nd,ht2,h.xk.kept hk (fun e=>?_) (fun e=>?_),?_,?_,by show(A.C++[(r,L)]).length=(m.own++[x]).length;rw[ag,ag,h.cl];rfl,⟨ap.ks.1,ap.ks.2.1,h.kd.2.2.1,fun e=>?_⟩,fun b e=>?_,fun b e=>?_,h.pow,h.mx,h.bl2 hk hz,⟨f.lt,f.tr,fun i y c hy hc=>?_⟩⟩,hk⟩
 ·rw[aL w1 A.mb 6 _ 107 _ zx]
  rfl
 ·have hy:(m.own++[x])[i]?=some y:=hy
  have hc:(A.C++[(r,L)])[i]?=some c:=hc;rcases bC i m.own.length with hlt|hge
  ·rw[ay hlt] at hy
   rw[ay (by rw[h.cl];exact hlt)] at hc;exact uD.eu i y c hy hc
  rw[aq hge] at hy;rw[aq (by rw[h.cl];exact hge)] at hc;have h0:i - m.own.length=0:=by
   have:=(aa.1 hy).1;simp at this;omega
  rw[h0] at hy;rw[h.cl,h0] at hc;simp at hy hc;subst hy hc;exact hx2
 ·have ab:=ap.t b (aj hr)
  rcases e with e|e
  ·exact ab.2.2.2.2 e
  exact ab.1 e
 ·rcases e with e|e
  ·exact ap.o.2.2.1 e
  exact ap.ms.1 e.symm
 ·rcases e with e|e
  ·exact ap.o.2.2.2 e
  exact ap.ms.2.1 e.symm
 ·show World.ownsRow _ w0.heap.size 40 7 v' (m.own++[x]).length (((m.own++[x]).zip (A.C++[(r,L)])).flatMap fun p=>cU p.1 p.2.1)
  rw[ahS,List.flatMap_append,ag];have:=fA hown hk2 (fun g hg e=>by have e:g=A.mb:=e;exact UF (e▸hg));simpa using this
 ·exact hq.kept hk2 (fun g hg e=>by have e:g=A.mb:=e;exact UF (e▸hg))
 ·rcases hw _ e with h1|h1
  ·exact ap.o.2.1 h1
  have:=h.tok.lt;have h1:w.heap.size≤A.kb:=h1;omega
 ·rcases hz' b e with h1|h1
  ·exact h.lo b h1
  have:=h.bl.size;omega
 ·have ZT:=h.xz b e
  refine⟨fun z=>?_,ZT.2.1,ah ZT.2.2 hk.size⟩;rcases hz' b z with h1|h1
  ·exact ZT.1 h1
  omega
 have hy:(m.own++[x])[i]?=some y:=hy;have hc:(A.C++[(r,L)])[i]?=some c:=hc;rcases bC i m.own.length with hlt|hge
 ·rw[ay hlt] at hy
  rw[ay (by rw[h.cl];exact hlt)] at hc;exact f.eu i y c hy hc
 rw[aq hge] at hy;rw[aq (by rw[h.cl];exact hge)] at hc;have h0:i - m.own.length=0:=by
  have:=(aa.1 hy).1;simp at this;omega
 rw[h0] at hy;rw[h.cl,h0] at hc;simp at hy hc;subst hy hc;exact ahV
end
structure DB(w:au)(db:Nat)(E R I:List aA):Prop where
 blk:w.heap[db]?=some (.cells (E++R++I).toArray 49 (0,0))
 le:E.length=23
 lr:R.length=13
 li:I.length=7
 nr:∀x∈R,∀n,x≠.b n
 ni:∀x∈I,∀n,x≠.b n
section
variable{w w':World}{db:Nat}{E R I:List Value}
theorem DB.kept(h:DB w db E R I){S:Nat→Prop}(hk:cQ S w w')(hS:¬S db):DB w' db E R I:=⟨hk.same h.blk hS,h.le,h.lr,h.li,h.nr,h.ni⟩
theorem DB.below(h:DB w db E R I)(hb:cE w w'):DB w' db E R I:=h.kept (dA (S:=fun _=>False) hb) (fun e=>e)
theorem DB.lt(h:DB w db E R I):db<w.heap.size:=af h.blk
theorem DB.cell(h:DB w db E R I)(k:Nat):w.cell? ⟨db,k,none⟩=(E++R++I)[k]?:=by
 rw[aB w db k _ 49 (0,0) h.blk];simp
theorem DB.ae4(h:DB w db E R I)(k:Nat)(hk:k<7):w.cell? ⟨db,36+k,none⟩=I[k]?:=by
 rw[h.cell,aq (by rw[ag,h.le,h.lr];omega),ag,h.le,h.lr,show 36+k - (23+13)=k by omega]
theorem DB.rM(h:DB w db E R I)(k:Nat)(hk:k<13):w.cell? ⟨db,23+k,none⟩=R[k]?:=by
 rw[h.cell,ay (by rw[ag,h.le,h.lr];omega),aq (by rw[h.le];omega),h.le,show 23+k - 23=k by omega]
theorem DB.tE(h:DB w db E R I)(k:Nat)(hk:k<23):w.cell? ⟨db,k,none⟩=E[k]?:=by
 rw[h.cell,ay (by rw[ag,h.le,h.lr];omega),ay (by rw[h.le];omega)]
theorem DB.there(h:DB w db E R I)(o n:Nat)(hn:o+n≤43):w.there db o n:=ey h.blk o n (by rw[List.size_toArray,ag,ag,h.le,h.lr,h.li];exact hn)
theorem DB.mz(h:DB w db E R I):kj w db:=gT h.blk
theorem DB.acM(h:DB w db E R I){I':List aA}(hl:I'.length=7)(hn:∀x∈I',∀n,x≠.b n):DB (w.setCells db 36 I') db E R I'∧jL w (w.setCells db 36 I'):=by
 refine⟨⟨?_,h.le,h.lr,hl,h.nr,hn⟩,xF (fun j n hj=>?_)⟩
 ·have:=pO (B:=db) (t:=49) (fr:=(0,0)) I' 36 w (E++R++I) h.blk (by rw[ag,ag,h.le,h.lr,h.li,hl];decide)
  rw[this];have e1:(E++R++I).take 36=E++R:=List.take_left' (by rw[ag,h.le,h.lr]);have e2:(E++R++I).drop (36+I'.length)=[]:=List.drop_eq_nil_of_le (by rw[ag,ag,h.le,h.lr,h.li,hl];decide);rw[e1,e2,List.append_nil]
 rw[h.ae4 j cK];intro e;exact h.ni _ (aj e) n rfl
theorem DB.acL(h:DB w db E R I){R':List aA}(hl:R'.length=13)(hn:∀x∈R',∀n,x≠.b n):DB (w.setCells db 23 R') db E R' I∧jL w (w.setCells db 23 R'):=by
 refine⟨⟨?_,h.le,hl,h.li,hn,h.ni⟩,xF (fun j n hj=>?_)⟩
 ·have:=pO (B:=db) (t:=49) (fr:=(0,0)) R' 23 w (E++R++I) h.blk (by rw[ag,ag,h.le,h.lr,h.li,hl];decide)
  rw[this];have e1:(E++R++I).take 23=E:=by rw[bB];exact List.take_left' h.le
  have e2:(E++R++I).drop (23+R'.length)=I:=List.drop_left' (by rw[ag,h.le,h.lr,hl]);rw[e1,e2]
 rw[h.rM j cK];intro e;exact h.nr _ (aj e) n rfl
end
theorem yC(x:fW)(r:ei):∀y∈cU x r,∀n,y≠.b n:=by
 intro y hy n;simp only[cU,aK,aD,or_false] at hy;rcases hy with rfl|rfl|rfl|rfl|rfl|rfl|rfl<;>(intro e;cases e)
theorem cZ.Mf{w0 w:au}{A:MA}{m:cV}(h:cZ w0 w A m){db o:Nat}{E R I cs:List aA}(hd:DB w db E R I)(hX:A.X db)(hu:jL w (w.setCells db o cs)):cZ w0 (w.setCells db o cs) A m:=
 h.vV (iw w db o cs) hu (fun b e=>by have e:b=db:=e;subst e;exact⟨hX,hd.mz⟩)
def MA.GG(A:MA)(va:Option bT)(vc:Nat)(ov:aA)(C:List (ei×List dr)):MA:={A with va:=va,vc:=vc,ov:=ov,C:=C}
def yb(w:au)(mb b:Nat):Prop:=∀v,w.cell? ⟨mb,6,none⟩=some v→v.ownBlock≠some b
structure Xh(w0 w:au)(A:MA)(m':cV)(db:Nat)(E R:List aA)(x:fW)(w':au):Prop where
 st:∃va vc ov C,cZ w0 w' (A.GG va vc ov C) m'∧∀b,ov.ownBlock=some b→A.ov.ownBlock=some b∨w.heap.size≤b
 out:∃r L,DB w' db E R (cU x r)∧ez w' (fun b=>w.heap.size≤b∧yb w' A.mb b) r L x
 kept:cQ (fun b=>A.Z b∨b=db) w w'
theorem cZ.cells{w0 w:au}{A:MA}{m:cV}(h:cZ w0 w A m):w.cell? ⟨A.mb,0,none⟩=some (.i m.dy)∧w.cell? ⟨A.mb,1,none⟩=some (.slice A.ra m.dP.length A.rc)∧w.cell? ⟨A.mb,2,none⟩=some (.slice A.ta m.eC.length A.tc)∧
  w.cell? ⟨A.mb,3,none⟩=some (.p A.kb)∧w.cell? ⟨A.mb,4,none⟩=some (.p A.sb)∧w.cell? ⟨A.mb,5,none⟩=some (.slice A.va m.v.length A.vc)∧w.cell? ⟨A.mb,6,none⟩=some A.ov:=
 ⟨aB _ _ 0 _ _ (0,0) h.blk,aB _ _ 1 _ _ (0,0) h.blk,aB _ _ 2 _ _ (0,0) h.blk,aB _ _ 3 _ _ (0,0) h.blk,aB _ _ 4 _ _ (0,0) h.blk,aB _ _ 5 _ _ (0,0) h.blk,aB _ _ 6 _ _ (0,0) h.blk⟩
theorem cZ.AJ{w0 w:au}{A:MA}{m:cV}(h:cZ w0 w A m){b:Nat}(hb:A.ov.ownBlock≠some b):yb w A.mb b:=fun v hv=>by
 have:=h.cells.2.2.2.2.2.2;rw[this] at hv;cases hv;exact hb
theorem G0{w0 w:au}{A:MA}{m:cV}{N:Nat}(h:cZ w0 w A m)(ok:m.Ok N)(hN:N≤1000000){x:fW}{r:ei}{L:List dr}(hr:gH w w.heap.size r.ea L)(hl:ff w (fun k=>¬A.F k) L x.dF)(hn:∀ad,r.ea=some ad→A.lo ad.block∧ad.block<w.heap.size)
  (h1:x.dF.length≤1000) (h2:∀e∈x.dF,e.node.data.length≤1000000) {db:Nat} {E R I:List aA} (hd:DB w db E R I) (hX:A.X db):
  aT prog 245 #[.p A.mb,.p db,eW x r] w fun e w'=>e=.returned (.tuple #[])∧Xh w0 w A (m.make x) db E R (m.item x) w':=by
 obtain⟨c0,c1,c2,c3,c4,c5,c6⟩:=h.cells;have FR:=ok.dy;obtain⟨sv,hsv⟩:∃v,m.v[m.dy]?=some v:=⟨_,an FR⟩;obtain⟨vb,vo,Kq,hvl,adi,hvc⟩:=h.data.v m.dy sv hsv;have ah9:sv≤N:=ok.vN _ (aj hsv);obtain⟨w1,hw1,dB,hs1,kP⟩:=dX w (cU x r) 40;have aem:w1.heap[w.heap.size]?=some (.cells (cU x r).toArray 40 (0,0)):=by rw[hw1];exact aF w _
 obtain⟨nv,tZ⟩:∃n,n=m.v.length:=⟨_,rfl⟩;obtain⟨ns,oQ⟩:∃n,n=m.dy:=⟨_,rfl⟩;rw[←tZ,Kq] at c5;rw[←oQ] at c0 hvc;have oL:∀w',cQ (·=w.heap.size) w1 w'→cE w w':=fun w' hk=>dB.trans (hk.below dB.size (fun b e=>by have e:b=w.heap.size:=e;omega))
 have y0:∀w',cQ (·=w.heap.size) w1 w'→w'.cell? ⟨A.mb,0,none⟩=some (.i ns):=fun w' hb=>((oL w' hb).cell (p:=⟨A.mb,0,none⟩) (af h.blk)).trans c0
 have y5:∀w',cQ (·=w.heap.size) w1 w'→w'.cell? ⟨A.mb,5,none⟩=some (.slice (some ⟨vb,vo,none⟩) nv A.vc):=fun w' hb=>((oL w' hb).cell (p:=⟨A.mb,5,none⟩) (af h.blk)).trans c5
 have ys:∀w',cQ (·=w.heap.size) w1 w'→w'.cell? ⟨vb,vo+ns,none⟩=some (.v (sv:Int)):=fun w' hb=>((oL w' hb).cell (p:=⟨vb,vo+ns,none⟩) adi).trans hvc
 have pT:Hid (∀W,cE w1 W→aT prog 46 #[.slice (some ⟨vb,vo,none⟩) nv A.vc] W (jb W m.v)):=cD (fun W hW=>by
  have:=lJ W A.va A.vc A.lo m.v (by have:=ok.vl;omega) (h.data.v.below (dB.trans (hW.mono dB.size)))
  rwa [Kq,←tZ] at this)
 have nS:=cD (cC hw1 (cC dB (cC hs1 (cC aem oL))));have HH:=cD (cC h (cC ok (cC hr (cC hl (cC hn (cC h1 (cC h2 (cC hd (cC hX hN)))))))));have HV:=cD (cC hsv (cC Kq (cC tZ oQ)));have hlt:(ns:Int)<nv:=by rw[oQ,tZ];omega
 have hlt2:ns<nv:=by omega
 have FQ:(0:Int)≤ns:=by omega
 have tw:∀_:True,IntKind.u64.wrap ((sv:Int)+1)=(sv:Int)+1:=fun _=>by rw[IntKind.wrap_u64];omega
 clear c0 c1 c2 c3 c4 c5 c6 FR hsv Kq hvl adi hvc ah9 hw1 dB hs1 kP aem oL tZ oQ h ok hr hl hn h1 h2 hd hX;unfold eW;unfold cU at nS⊢;go_enter func245,ntmps245
 go_upto_region 1 with (rw[←nS.out.1])
 go_wp2_with fail
 refine rT fun wd hd=>?_
 refine NC (S':=fun w'=>cQ (·=w.heap.size) w1 w') (fun _ _=>trivial) _ _ _ _ ?_;have hS:cQ (·=w.heap.size) w1 wd:=dA hd;refine tI 0 rfl hS ?_;refine tI 1 rfl hS ?_;refine tI 2 rfl hS ?_;refine tJ 3 rfl hS y0 ?_;simp only[cR];refine tI 4 rfl hS ?_;refine tI 5 rfl hS ?_;refine tI 6 rfl hS ?_;refine tJ 7 rfl hS y5 ?_;simp only[cR];refine tI 8 rfl hS ?_;refine tI 9 rfl hS ?_;refine tI 10 rfl hS ?_;refine tJ 11 rfl hS y0 ?_;simp only[cR];refine tI 12 rfl hS ?_;refine tJ 13 rfl hS ys ?_;refine tI 14 rfl hS ?_;refine tI 15 rfl hS ?_;simp only[cR];refine tI 16 rfl hS ?_;refine tI 17 rfl hS ?_;refine tJ 18 rfl hS y5 ?_;refine tI 20 rfl hS ?_;simp only[cR];refine cI 19 rfl ?_;refine(pT.out wd hd).mono ?_;rintro e w2 hst;obtain⟨a1,k1,rfl,kX,Ku,dI⟩:=hst.sl;rw[←HV.out.2.2.1] at kX⊢;have uD:cE w1 w2:=hd.trans (dI.mono hd.size);have oR:cQ (·=w.heap.size) w1 w2:=dA uD;have k2:w2.heap[w.heap.size]?=_:=(uD.block _ (by have:=nS.out.2.2.1;omega)).trans nS.out.2.2.2.1;have d20:w2.cell? ⟨w.heap.size,0,none⟩=some (.i x.ew):=aB _ _ 0 _ 40 (0,0) k2;have f20:w2.frozen? ⟨w.heap.size,0,none⟩=false:=by simp[aO,k2]
 obtain⟨w3,kJ⟩:=cF (w2.setCell ⟨w.heap.size,0,none⟩ (.i (ns:Int)));have Jg:cQ (·=w.heap.size) w2 w3:=by rw[kJ];exact(cQ.refl (·=w.heap.size) w2).setCell (p:=⟨w.heap.size,0,none⟩) rfl _
 have k3:w3.heap[w.heap.size]?=some (.cells #[.i (ns:Int),.v (x.seq:Int),.i x.dO,.v (x.ep:Int),.slice r.sa x.de.length r.sc,.slice r.ea x.dF.length r.ec,.u (x.cl:Int)] 40 (0,0)):=by
  rw[kJ,aL w2 w.heap.size 0 _ 40 _ k2];rfl
 have d31:w3.cell? ⟨w.heap.size,1,none⟩=some (.v (x.seq:Int)):=aB _ _ 1 _ 40 (0,0) k3;have f31:w3.frozen? ⟨w.heap.size,1,none⟩=false:=by simp[aO,k3]
 obtain⟨w4,lP⟩:=cF (w3.setCell ⟨w.heap.size,1,none⟩ (.v ((sv:Int)+1)));have hK4:cQ (·=w.heap.size) w3 w4:=by rw[lP];exact(cQ.refl (·=w.heap.size) w3).setCell (p:=⟨w.heap.size,1,none⟩) rfl _
 have k4:w4.heap[w.heap.size]?=some (.cells #[.i (ns:Int),.v ((sv:Int)+1),.i x.dO,.v (x.ep:Int),.slice r.sa x.de.length r.sc,.slice r.ea x.dF.length r.ec,.u (x.cl:Int)] 40 (0,0)):=by
  rw[lP,aL w3 w.heap.size 1 _ 40 _ k3];rfl
 have d44:w4.cell? ⟨w.heap.size,4,none⟩=some (.slice r.sa x.de.length r.sc):=aB _ _ 4 _ 40 (0,0) k4;have f44:w4.frozen? ⟨w.heap.size,4,none⟩=false:=by simp[aO,k4]
 obtain⟨w5,nI⟩:=cF (w4.setCell ⟨w.heap.size,4,none⟩ (.slice a1 nv k1));have Fj:cQ (·=w.heap.size) w4 w5:=by rw[nI];exact(cQ.refl (·=w.heap.size) w4).setCell (p:=⟨w.heap.size,4,none⟩) rfl _
 have k5:w5.heap[w.heap.size]?=some (.cells #[.i (ns:Int),.v ((sv:Int)+1),.i x.dO,.v (x.ep:Int),.slice a1 nv k1,.slice r.ea x.dF.length r.ec,.u (x.cl:Int)] 40 (0,0)):=by
  rw[nI,aL w4 w.heap.size 4 _ 40 _ k4];rfl
 have ek:=oR.trans Jg;have eV:=ek.trans hK4;have oM:=eV.trans Fj;have E3:=cD kJ;have E4:=cD lP;have E5:=cD nI;clear kJ lP nI;refine⟨oR,?_⟩;simp only[cR];refine uI 21 rfl w3 ek ?_ (hx:=by rw[E3.out];go_simp<;>first|rfl|exact⟨rfl,rfl⟩);simp only[cR];refine tI 22 rfl ek ?_;simp only[cR];refine uI 23 rfl w4 eV ?_ (hx:=by rw[E4.out];go_simp<;>first|rfl|exact⟨rfl,rfl⟩);simp only[cR];refine tI 24 rfl eV ?_;simp only[cR];refine uI 25 rfl w5 oM ?_ (hx:=by rw[E5.out];go_simp<;>first|rfl|exact⟨rfl,rfl⟩);simp only[cR];refine wpAnyH_done cJ ?_ _;have hi:cU (m.item x) ⟨a1,k1,r.ea,r.ec⟩=[.i (ns:Int),.v ((sv:Int)+1),.i x.dO,.v (x.ep:Int),.slice a1 nv k1,.slice r.ea x.dF.length r.ec,.u (x.cl:Int)]:=by
  have e1:m.v.getD m.dy 0=sv:=by simp[aG,HV.out.1]
  simp only[cU,cV.item,e1,HV.out.2.2.1,HV.out.2.2.2];rfl
 obtain⟨h,ok,hr,hl,hn,h1,h2,hd0,hX,hN⟩:=HH.out;have qH:cE w w5:=nS.out.2.2.2.2 w5 oM;have h5:=h.below qH;have ad7:rU w5 A.lo ⟨a1,k1,r.ea,r.ec⟩ L (m.item x):=by
  have Kt:dK w5 (fU w1.heap.size) a1 m.v:=(((Ku.mono (lo':=fun b=>w1.heap.size≤b) (fun b _ hb=>aC hd.size hb)).kept Jg (fun b hb _ e=>by have e:b=w.heap.size:=e;have:=nS.out.2.2.1;omega)).kept hK4 (fun b hb _ e=>by have e:b=w.heap.size:=e;have:=nS.out.2.2.1;omega)).kept Fj (fun b hb _ e=>by have e:b=w.heap.size:=e;have:=nS.out.2.2.1;omega);refine⟨Kt.mono (fun b _ hb=>h.Mw (by have hb:w1.heap.size≤b:=hb;have:=nS.out.2.2.1;omega)),(hl.below qH).both (fun _ _ _=>trivial),(hr.below qH).mono qH.size,fun ad e=>⟨(hn ad e).1,ah (hn ad e).2 qH.size⟩⟩
 have hsw:w.heap.size<w5.heap.size:=af k5;have ap:=h.apart;obtain⟨ov,DE⟩:∃v,v=A.ov:=⟨_,rfl⟩;have y6:∀w',cQ (fun b=>A.ov.ownBlock=some b) w5 w'→w'.cell? ⟨A.mb,6,none⟩=some ov:=fun w' hk=>(hk.cell (p:=⟨A.mb,6,none⟩) (af h5.blk) ap.o.1).trans (h5.cells.2.2.2.2.2.2.trans (by rw[DE]))
 have yi:∀w',cQ (fun b=>A.ov.ownBlock=some b) w5 w'→w'.rangeAt w.heap.size 0 [.i (ns:Int),.v ((sv:Int)+1),.i x.dO,.v (x.ep:Int),.slice a1 nv k1,.slice r.ea x.dF.length r.ec,.u (x.cl:Int)]:=fun w' hk=>dJ (hk.same k5 (fun e=>by have:=(h.own.lt _ e).2;omega))
 have fm:Hid (cG 40 7):=cD cJ;obtain⟨U5,Wi⟩:=cF w5.drew;obtain⟨wa,vO⟩:=cF (U5.alloc (.cells #[.i (ns:Int),.v ((sv:Int)+1),.i x.dO,.v (x.ep:Int),.slice a1 nv k1,.slice r.ea x.dF.length r.ec,.u (x.cl:Int)] 40));have hd5:cE w5 U5:=by rw[Wi];exact(aJ _ w5).drew
 have hba:cE w5 wa:=by rw[vO];exact cT hd5 _
 have hsd:U5.heap.size=w5.heap.size:=by rw[Wi];rfl
 have hca:∀j u,([.i (ns:Int),.v ((sv:Int)+1),.i x.dO,.v (x.ep:Int),.slice a1 nv k1,.slice r.ea x.dF.length r.ec,.u (x.cl:Int)]:List aA)[j]?=some u→wa.cell? ((⟨U5.heap.size,0,none⟩:bT).add j)=some u:=fun j u hu=>by
  rw[bQ,aQ,vO,aB _ _ j _ 40 (0,0) (aF U5 _)];simpa using hu
 have h6:=h5.below hba;obtain⟨i0,wS,hz0,hz1,hz2⟩:=info_parts Hw;have hol:m.own.length≤1000000:=by rw[ok.zl];exact aC (cV.vT ok.vN _) hN
 obtain⟨v',w6,UJ,hown',hgrow,zu,hall⟩:=qT (P:=prog) (w:=wa) w0.heap.size 52 52 40 i0 (.agg #[.I,.V,.I,.V,.n,.n,.U]) 7 88 underlying52 wS hz0 hz1 hz2 rfl cL A.ov _ _ h6.own ⟨U5.heap.size,0,none⟩ 1 1 _ rfl hca (by intro u hu;simp only[aK,aD,or_false] at hu;rcases hu with rfl|rfl|rfl|rfl|rfl|rfl|rfl<;>rfl) (by unfold maxLen;omega) cK h6.bl.size (fun x=>I9 x=true) h6.oq (by intro u hu;simp only[aK,aD,or_false] at hu;rcases hu with rfl|rfl|rfl|rfl|rfl|rfl|rfl<;>rfl) (bF.1 cN) cL;have ad6:=ad7.iN (dA (S:=fun _=>False) hba) (lZ hba) (fun _ _ _ e=>e);rw[←hi] at hown';obtain⟨g',cap',rfl⟩:=cm hown';obtain⟨h7,MX⟩:=h6.push ad6 ((hl.below qH).below hba) hown' hgrow zu hall;obtain⟨w7,pI⟩:=cF (w6.setCell ⟨A.mb,6,none⟩ (.slice (some ⟨g',0,none⟩) (m.own.length+1) cap'));rw[←pI] at h7 MX;have uh:cQ (fun b=>A.ov.ownBlock=some b) w5 w6:=(dA hba).trans (gz hgrow);have adS:=uh.same h5.blk ap.o.1;have aiX:w6.cell? ⟨A.mb,6,none⟩=some ov:=y6 w6 uh;have aiM:w6.frozen? ⟨A.mb,6,none⟩=false:=by simp[aO,adS]
 have Jj:=cD (cC Wi (cC vO pI));have H7:=cD (cC h7 (cC MX (cC hba (cC qH hsw))));have HWH:=cD zu;rw[←DE] at UJ;clear DE h7 MX h6 ad6 hown' hgrow zu hall adS h5 ad7 hi h ok hr hl hn h1 h2 hd0 hX pI hca vO Wi hsd hol i0 wS hz0 hz1 hz2 ap hS oR ek eV Jg hK4 Fj k2 k3 k4 d20 d31 d44 f20 f31 f44 y0 y5 ys;go_wp2_with fail
 refine(aW (n:=0)).1 (fB (S:=fun w'=>cQ (fun b=>A.ov.ownBlock=some b) w5 w') (c:=10) ?_);rw[←Jj.out.1];have hS:cQ (fun b=>A.ov.ownBlock=some b) w5 U5:=dA hd5;have Pf:cQ (fun b=>A.ov.ownBlock=some b) w5 wa:=dA H7.out.2.2.1;refine fJ 0 hS ?_;simp only[cR];refine fJ 1 hS ?_;simp only[cR];refine fJ 2 hS ?_;simp only[cR];refine fJ 3 hS ?_;simp only[cR];refine fI 4 rfl hS (fun w' hS'=>by have:=y6 w' hS';go_simp<;>rfl) ?_;simp only[cR];refine fI 5 rfl hS (fun w' hS'=>pE 40 (.tmp 5) rfl w.heap.size 0 rfl _ _ (yi w' hS') underlying40 rfl fm.out) ?_;simp only[cR];refine fK 6 rfl fun K' gv=>?_
 gi_wp2_with fail
 rw[←Jj.out.2.1];refine gv _ _ Pf ?_;clear gv;refine fK 7 rfl fun K' gv=>?_
 refine mw (.tmp 33) (.tmp 35) 52 rfl ov _ _ w6 rfl rfl UJ (gv _ _ uh ?_);clear gv;simp only[cR];refine fJ 8 uh ?_;simp only[cR];refine fJ 9 uh ?_;simp only[cR];refine fC 10 rfl fun K' gv=>?_
 gi_wp2_with fail
 rw[←Jj.out.2.2];refine fD ?_ cJ _;clear aiX aiM y6 yi hS Pf uh UJ;obtain⟨h7,MX,Fg,qH,O4⟩:=H7.out;obtain⟨Z3,ZX,aab,aac⟩:=HV.out;have hc7:=h7.cells;have z0:∀w',cE w7 w'→w'.cell? ⟨A.mb,0,none⟩=some (.i ns):=fun w' hb=>(hb.cell (p:=⟨A.mb,0,none⟩) (af h7.blk)).trans (hc7.1.trans (by rw[aac]))
 have z5:∀w',cE w7 w'→w'.cell? ⟨A.mb,5,none⟩=some (.slice (some ⟨vb,vo,none⟩) nv A.vc):=fun w' hb=>(hb.cell (p:=⟨A.mb,5,none⟩) (af h7.blk)).trans (hc7.2.2.2.2.2.1.trans (by rw[aab];show some (Value.slice A.va _ _)=_;rw[ZX]))
 have zQ:Hid (∀W,cE w7 W→aT prog 251 #[.slice (some ⟨vb,vo,none⟩) nv A.vc,.i ns] W (jb W (lF m.v m.dy))):=cD (fun W hW=>by
  have ok:=HH.out.2.1;have e1:m.v.getD m.dy 0=sv:=by simp[aG,Z3]
  rw[aac,aab,←ZX];exact MJ W A.va A.vc _ m.v m.dy ok.dy (by have:=ok.vl;omega) (by rw[e1];have:=ok.vN _ (aj Z3);omega) (h7.data.v.below hW))
 have hS:cE w7 w7.drew:=(aJ _ w7).drew;clear hc7 h7 MX Fg qH O4 Z3 ZX aab aac;go_wp2_with fail
 refine(aW (n:=0)).1 (fB (S:=fun w'=>cE w7 w') (c:=12) ?_);refine fJ 0 hS ?_;simp only[cR];refine fJ 1 hS ?_;simp only[cR];refine fJ 2 hS ?_;simp only[cR];refine fJ 3 hS ?_;simp only[cR];refine fI 4 rfl hS (fun w' hS'=>by have:=z5 w' hS';go_simp<;>rfl) ?_;simp only[cR];refine fJ 5 hS ?_;simp only[cR];refine fJ 6 hS ?_;simp only[cR];refine fJ 7 hS ?_;simp only[cR];refine fI 8 rfl hS (fun w' hS'=>by have:=z0 w' hS';go_simp<;>rfl) ?_;simp only[cR];refine fK 9 rfl fun K' gv=>?_
 gi_wp2_with fail
 refine⟨trivial,rfl,(aY.2 (zQ.out w7.drew hS)).mono ?_⟩;rintro e w8 xI;obtain⟨a2,k2,rfl,_,xI,Ii⟩:=xI.sl;have AW:(lF m.v m.dy).length=nv:=by rw[cV.pG,HV.out.2.2.1]
 have jP:cE w7 w8:=hS.trans (Ii.mono hS.size);have h9:=(H7.out.1.below jP).acK (a:=a2) (c:=k2) (V:=lF m.v m.dy) (xI.mono (fun b _ hb=>H7.out.1.Mw hb));rw[AW] at h9⊢;have zw:=(H7.out.1.below jP).blk;have aas:w8.cell? ⟨A.mb,5,none⟩=some (.slice (some ⟨vb,vo,none⟩) nv A.vc):=z5 w8 jP;have aam:w8.frozen? ⟨A.mb,5,none⟩=false:=by
  have zw:w8.heap[A.mb]?=_:=zw;simp[aO,zw]
 obtain⟨w9,nH⟩:=cF (w8.setCell ⟨A.mb,5,none⟩ (.slice a2 nv k2));have Ph:cQ (·=A.mb) w8 w9:=by rw[nH];exact(cQ.refl (·=A.mb) w8).setCell (p:=⟨A.mb,5,none⟩) rfl _
 rw[←nH] at h9;have Uc:=cD nH;have H9:=cD (cC h9 (cC Ph jP));refine gv _ _ jP ?_;clear gv nH h9 Ph zw xI Ii AW;refine fJ 10 jP ?_;simp only[cR];refine fJ 11 jP ?_;simp only[cR];refine fC 12 rfl fun K' gv=>?_
 gi_wp2_with fail
 rw[←Uc.out];refine fD ?_ cJ _;clear aas aam z0 z5 hS jP;obtain⟨h9,Ph,jP⟩:=H9.out;obtain⟨h7,MX,Fg,qH,O4⟩:=H7.out;obtain⟨h,ok,hr,hl,hn,h1,h2,hd0,hX,_⟩:=HH.out;have ZR:A.Z A.mb:=A.zm;have hdb:=h.xz db hX;have qC:cQ (fun b=>A.Z b∨b=db) w w9:=by
  have e1:cQ (fun b=>A.Z b∨b=db) w wa:=dA (qH.trans (Fg.mono qH.size));have e2:cQ (fun b=>A.Z b∨b=db) wa w7:=MX.mono (fun b _ e=>by
   rcases e with e|e
   ·exact .inl (A.zo e)
   exact .inl (e▸A.zm))
  have e3:cQ (fun b=>A.Z b∨b=db) w7 w8:=dA jP;have e4:cQ (fun b=>A.Z b∨b=db) w8 w9:=Ph.mono (fun b _ e=>.inl (by have e:b=A.mb:=e;exact e▸A.zm));exact e1.trans (e2.trans (e3.trans e4))
 have aao:DB w9 db E R I:=by
  have e1:=hd0.below (qH.trans (Fg.mono qH.size));have e2:=e1.kept MX (fun e=>by
   rcases e with e|e
   ·exact hdb.1 (A.zo e)
   exact hdb.1 (e▸A.zm))
  exact(e2.below jP).kept Ph (fun e=>hdb.1 (by have e:db=A.mb:=e;exact e▸A.zm))
 have hwal:w.heap.size<wa.heap.size:=ah O4 Fg.size;have ad9:wa.heap[w.heap.size]?=_:=(Fg.block _ O4).trans k5;have Wu:w7.heap[w.heap.size]?=_:=(MX.block _ hwal (fun e=>by
   rcases e with e|e
   ·have:=(h.own.lt _ e).2
    omega
   have:=h.ze A.zm;omega)).trans ad9
 have Wt:w9.heap[w.heap.size]?=_:=(Ph.block _ (ah (af Wu) jP.size) (fun e=>by have e:w.heap.size=A.mb:=e;have:=h.ze A.zm;omega)).trans ((jP.block _ (af Wu)).trans Wu);have adW:=af Wt;obtain⟨wb,Cr⟩:=cF (w9.alloc (.cells #[.i (ns:Int),.v ((sv:Int)+1),.i x.dO,.v (x.ep:Int),.slice a1 nv k1,.slice r.ea x.dF.length r.ec,.u (x.cl:Int)] 40));have jt:cE w9 wb:=by rw[Cr];exact cT (aJ _ _) _
 have SM:wb.heap[w9.heap.size]?=some (.cells #[.i (ns:Int),.v ((sv:Int)+1),.i x.dO,.v (x.ep:Int),.slice a1 nv k1,.slice r.ea x.dF.length r.ec,.u (x.cl:Int)] 40 (0,0)):=by rw[Cr];exact aF w9 _
 have hi:cU (m.item x) ⟨a1,k1,r.ea,r.ec⟩=[.i (ns:Int),.v ((sv:Int)+1),.i x.dO,.v (x.ep:Int),.slice a1 nv k1,.slice r.ea x.dF.length r.ec,.u (x.cl:Int)]:=by
  have e1:m.v.getD m.dy 0=sv:=by simp[aG,HV.out.1]
  simp only[cU,cV.item,e1,HV.out.2.2.1,HV.out.2.2.2];rfl
 have hib:wb.rangeAt w.heap.size 0 [.i (ns:Int),.v ((sv:Int)+1),.i x.dO,.v (x.ep:Int),.slice a1 nv k1,.slice r.ea x.dF.length r.ec,.u (x.cl:Int)]:=dJ ((jt.block _ adW).trans Wt);have HIB:=cD (dJ Wt);have ad5:ez wb BU ⟨a1,k1,r.ea,r.ec⟩ L (m.item x):=by
  have hc:(A.C++[((⟨a1,k1,r.ea,r.ec⟩:ei),L)])[m.own.length]?=some (⟨a1,k1,r.ea,r.ec⟩,L):=by
   rw[aq (by rw[h.cl];exact bY _),h.cl,Nat.sub_self];rfl
  have ho:(m.own++[m.item x])[m.own.length]?=some (m.item x):=by
   rw[aq (bY _),Nat.sub_self];rfl
  exact((h9.below jt).data.eu m.own.length (m.item x) (⟨a1,k1,r.ea,r.ec⟩,L) ho hc).cS
 have qG:=GN wb w9.heap.size 0 1 0 [(m.item x,⟨a1,k1,r.ea,r.ec⟩)] [L] BU (fun k y hy=>by
  have hk:k=0:=by have:=(aa.1 hy).1;simp at this;exact this
  subst hk;simp at hy;subst hy;exact⟨w9.heap.size,0,rfl,af SM,by rw[hi];exact dJ SM,L,rfl,ad5⟩) cM (af SM) (fun y hy=>by
  simp at hy;subst hy;exact⟨by show m.v.length≤1000;have:=ok.vl;omega,h1,h2⟩)
 have hpk:(ij id 0 [(m.item x,(⟨a1,k1,r.ea,r.ec⟩:ei))] 1).take 8=[(m.item x,⟨a1,k1,r.ea,r.ec⟩)]:=by
  unfold ij;have:decide (0<(m.item x).seq)=true:=by simp[cV.item]
  simp[this]
 have hpl:[(m.item x,(⟨a1,k1,r.ea,r.ec⟩:ei))].length=1:=rfl;rw[hpl,hpk] at qG;have Cc:=cD qG;have HWB:=cD (cC Cr (cC jt (cC h9 (cC qC (cC aao hdb)))));have aq4:=cD SM;clear qG hpk hpl ad5 hi Cr jt h9 qC aao hdb Ph jP h7 MX Fg qH O4 h ok hr hl hn h1 h2 hd0 hX hwal ad9 Wu Wt adW hib SM ZR;go_wp2_with (first
  |(refine aN rfl 40 (.tmp 5) rfl w.heap.size 0 rfl [.i (ns:Int),.v ((sv:Int)+1),.i x.dO,.v (x.ep:Int),.slice a1 nv k1,.slice r.ea x.dF.length r.ec,.u (x.cl:Int)] _ HIB.out underlying40 rfl fm.out ?_)
  |fail)
 rw[←HWB.out.1];refine Cc.out.mono ?_;rintro e lR ⟨v10,C10,rfl,Yh,SA,X6,Cx⟩;obtain⟨⟨⟨sa',JO,ea',Lc⟩,L'⟩,ajs⟩:∃c,C10=[c]:=by
  match C10,Yh with
  |[c],_=>exact⟨c,rfl⟩
 subst ajs;have Ws:=X6 0 _ _ rfl rfl;obtain⟨gx,gc,rfl⟩:=cm (k:=0) SA;have adH:=SA.cells (g:=gx) rfl;obtain⟨s2,hs2⟩:∃n,n=(m.item x).de.length:=⟨_,rfl⟩;obtain⟨x2,hx2⟩:∃y,y=m.item x:=⟨_,rfl⟩;have fS:lR.rangeAt gx 0 (cU x2 ⟨sa',JO,ea',Lc⟩):=fun j u hu=>by
  have:=adH j u (by rw[←hx2];simpa using hu);rw[bQ,aQ] at this;rw[aQ];exact this
 have Pa:=(HWB.out.2.2.2.2.1.below HWB.out.2.1).below Cx;have sA:lR.there db 36 7:=Pa.there 36 7 cL;have nT:=cD fS;have yY:=cD sA;have gG:Hid ((cU x2 ⟨sa',JO,ea',Lc⟩).toArray.all (·.oneCell')=true):=cD (by simp[cU,bJ]);obtain⟨sU,qF⟩:=cF (lR.setCells db 36 (cU x2 ⟨sa',JO,ea',Lc⟩));have I1:=cD qF;have I6:=cD (cC Pa (cC Ws (cC Cx hx2)));clear fS sA qF Pa Ws Cx SA adH X6 Yh hs2 hx2;unfold cU at nT gG I1;go_wp2_with (first
  |(refine aN rfl 40 (.tmp 55) rfl gx 0 rfl [.i x2.ew,.v (x2.seq:Int),.i x2.dO,.v (x2.ep:Int),.slice sa' x2.de.length JO,.slice ea' x2.dF.length Lc,.u (x2.cl:Int)] _ nT.out underlying40 rfl fm.out ?_)
  |(refine bK rfl 40 (.tmp 58) (.tmp 56) rfl db 36 #[.i x2.ew,.v (x2.seq:Int),.i x2.dO,.v (x2.ep:Int),.slice sa' x2.de.length JO,.slice ea' x2.dF.length Lc,.u (x2.cl:Int)] rfl rfl yY.out fm.out gG.out ?_)
  |fail)
 go_end0
 have qF:sU=lR.setCells db 36 _:=I1.out;rw[←qF];obtain⟨Pa,Ws,Cx,hx2⟩:=I6.out;obtain⟨_,jt,h9,qC,aao,hdb⟩:=HWB.out;have hX:=HH.out.2.2.2.2.2.2.2.2.1;obtain⟨hD,hU⟩:=Pa.acM (I':=cU x2 ⟨sa',JO,ea',Lc⟩) rfl (yC _ _);have h10:=((h9.below jt).below Cx).Mf (o:=36) (cs:=cU x2 ⟨sa',JO,ea',Lc⟩) Pa hX hU;have aeC:=iw lR db 36 (cU x2 ⟨sa',JO,ea',Lc⟩);have aeq:cE w9 lR:=jt.trans (Cx.mono jt.size);have qo:sU=lR.setCells db 36 (cU x2 ⟨sa',JO,ea',Lc⟩):=qF;refine⟨rfl,⟨a2,k2,.slice (some ⟨g',0,none⟩) (m.own.length+1) cap',A.C++[((⟨a1,k1,r.ea,r.ec⟩:ei),L)],?_,fun b e=>(HWH.out b e).imp id (fun e2=>?_)⟩,⟨⟨sa',JO,ea',Lc⟩,L',?_,?_⟩,?_⟩
 ·rw[qo]
  exact h10
 ·have h2:=H7.out.2.2.1.size
  have h3:=H7.out.2.2.2.1.size;omega
 ·rw[qo,←hx2]
  exact hD
 ·rw[qo]
  refine((Ws.kept aeC (fun b hb e=>?_))).mono (fun b hb=>?_)
  ·have hb:=hb.1
   have e:b=db:=e;have h1:=hdb.2.2;have h2:=qC.size;have h3:=jt.size;omega
  have hb:=hb.1;have h2:=qC.size;have h3:=jt.size;exact⟨by omega,h10.AJ (fun e=>by have:=(h9.own.lt b e).2;omega)⟩
 rw[qo];exact(qC.trans (dA aeq)).trans (aeC.mono (fun b _ e=>.inr e))
def qE(dy sites:Int)(L:List cO):Int:=if sites<1∨3<sites∨dy<0∨sites≤dy then 1 else mB L
def Gw(b:Nat):aA:=.p b
structure Ed(w0 w6:au)(mb:Nat)(hd tl:List aA)(L:List cO)(k:Nat)(v:aA)(T:List Nat)(wr:au):Prop where
 len:T.length=k
 blk:wr.heap[mb]?=some (.cells (hd++[v]++tl).toArray 107 (0,0))
 own:wr.ownsRow w6.heap.size 57 1 v k (T.map Gw)
 all:mC wr v (fun x=>I9 x=true)
 tr:∀(r:Nat) b p,T[r]?=some b→L[r]?=some p→w6.heap.size≤b∧TR w0 wr b p 0 [(p,iQ)]
 nd:T.Nodup
 lt:∀b∈T,b<wr.heap.size
 kept:cQ (·=mb) w6 wr
theorem O1:(prog.info? 57).map (fun i=>(i.zero,i.size,i.bytes))=some (some (.pointer none),1,8):=by kernel_rfl
theorem Ed.next{w0 w6 wr w7 w8:au}{mb b:Nat}{hd tl:List aA}{L:List cO}{k:Nat}{v v':aA}{T:List Nat}{p:cO}(h:Ed w0 w6 mb hd tl L k v T wr)(hh:hd.length=2)(hp:L[k]?=some p)(hq:∀x∈hd++tl,I9 x=true)(hmb:mb<w6.heap.size)(h0:w0.heap.size≤mb)
  (hb:wr.heap.size≤b) (hR:TR w0 w7 b p 0 [(p,iQ)]) (b7:cE wr w7) {wa:au} (ba:cE w7 wa)
  (hown:w8.ownsRow w6.heap.size 57 1 v' (k+1) (T.map Gw++[Gw b])) (hg:wa.grownBy w8 v.ownBlock) (hw:∀j,v'.ownBlock=some j→v.ownBlock=some j∨wa.heap.size≤j) (hall:mC w8 v' (fun x=>I9 x=true)):
  Ed w0 w6 mb hd tl L (k+1) v' (T++[b]) (w8.setCell ⟨mb,2,none⟩ v')∧w8.heap[mb]?=some (.cells (hd++[v]++tl).toArray 107 (0,0)):=by
 have b6:w6.heap.size≤wr.heap.size:=h.kept.size;have gQ:b<w7.heap.size:=hR.lt;have hk1:cQ (fun j=>v.ownBlock=some j) wa w8:=gz hg;have Kq:∀j,v.ownBlock=some j→w6.heap.size≤j∧j<wr.heap.size:=fun j e=>h.own.lt j e
 have b77:=b7.size;have baa:=ba.size;have Wo:wa.heap[mb]?=some (.cells (hd++[v]++tl).toArray 107 (0,0)):=(ba.block _ cK).trans ((b7.block _ (af h.blk)).trans h.blk);have zw:w8.heap[mb]?=some (.cells (hd++[v]++tl).toArray 107 (0,0)):=(hk1.block _ (af Wo) (fun e=>by have:=(Kq _ e).1;omega)).trans Wo;have hk2:cQ (·=mb) w8 (w8.setCell ⟨mb,2,none⟩ v'):=(cQ.refl (·=mb) w8).setCell (p:=⟨mb,2,none⟩) rfl _;have hqv:I9 v=true:=by
  rcases h.own.2 with ⟨e,_⟩|⟨g,cap,cur,e,_⟩<;>rw[e]<;>rfl
 have hS:cQ (fun j=>v.ownBlock=some j∨j=mb) wa (w8.setCell ⟨mb,2,none⟩ v'):=(hk1.mono (fun j _ e=>.inl e)).trans (hk2.mono (fun j _ e=>.inr e));have ae9:mC wa v (fun x=>I9 x=true):=(h.all.kept (dA (S:=fun _=>False) b7) (fun _ _ e=>e)).kept (dA (S:=fun _=>False) ba) (fun _ _ e=>e);have hmq:I8 wa mb:=rP Wo (by
  rw[bF];intro x hx;have hx:x∈hd++[v]++tl:=by simpa using hx
  rcases aE.1 hx with h1|h1
  ·rcases aE.1 h1 with h2|h2
   ·exact hq x (List.mem_append_left _ h2)
   simp at h2;rw[h2];exact hqv
  exact hq x (List.mem_append_right _ h1))
 have hu:jL wa (w8.setCell ⟨mb,2,none⟩ v'):=hS.bytes (fun j e=>by
  rcases e with e|e
  ·exact(ae9.q e).RI
  exact e▸hmq.RI)
 have hna:∀j,(v.ownBlock=some j∨j=mb)→kj wa j∧w0.heap.size≤j:=fun j e=>by
  rcases e with e|e
  ·obtain⟨cur,t,fr,e1,_⟩:=ae9 j e
   exact⟨gT e1,by have:=(Kq j e).1;omega⟩
  subst e;exact⟨gT Wo,h0⟩
 have hv8:∀j,v'.ownBlock=some j→j≠mb:=fun j e e2=>by
  subst e2;rcases hw _ e with h1|h1
  ·have:=(Kq _ h1).1
   omega
  omega
 have hbt:∀c,c∈T∨c=b→c≠mb∧v.ownBlock≠some c:=fun c hc=>by
  refine⟨fun e=>?_,fun e=>?_⟩
  ·rcases hc with hc|hc
   ·obtain⟨r,hr⟩:=aI.1 hc
    have MO:r<k:=by rw[←h.len];exact(aa.1 hr).1
    obtain⟨q,hq⟩:∃q,L[r]?=some q:=⟨_,an (by have:=(aa.1 hp).1;omega)⟩;have:=(h.tr r c q hr hq).1;omega
   omega
  rcases hc with hc|hc
  ·obtain⟨r,hr⟩:=aI.1 hc
   have MO:r<k:=by rw[←h.len];exact(aa.1 hr).1
   obtain⟨q,hq⟩:∃q,L[r]?=some q:=⟨_,an (by have:=(aa.1 hp).1;omega)⟩;obtain⟨lo,mm,T1⟩:=(h.tr r c q hr hq).2.tree;exact iX h.own T1.blk cL e
  have:=(Kq c e).2;omega
 refine⟨⟨by rw[ag,h.len];rfl,?_,?_,hall.kept hk2 (fun g hg e=>hv8 g hg (by have e:g=mb:=e;exact e)),fun r c q hr hq=>?_,?_,fun c hc=>?_,?_⟩,zw⟩
 ·rw[aL w8 mb 2 _ 107 _ zw]
  congr 2
  match hd,hh with
  |[x,y],_=>rfl
 ·have:=fA hown hk2 (fun g hg e=>hv8 g hg (by have e:g=mb:=e;exact e))
  simpa using this
 ·rcases bC r T.length with hlt|hge
  ·rw[ay hlt] at hr
   have h1:=h.tr r c q hr hq;have dB:=hbt c (.inl (aj hr));exact⟨h1.1,((h1.2.below b7).below ba).iN hS hu (fun e=>e.elim dB.2 dB.1) hna cM⟩
  rw[aq hge] at hr;have h0':r - T.length=0:=by
   have:=(aa.1 hr).1;simp at this;omega
  rw[h0'] at hr;simp at hr;subst hr;have MO:r=k:=by rw[←h.len];omega
  subst MO;rw[hp] at hq;cases hq;have dB:=hbt b (.inr rfl);exact⟨by omega,(hR.below ba).iN hS hu (fun e=>e.elim dB.2 dB.1) hna cM⟩
 ·rw[List.nodup_append]
  refine⟨h.nd,by simp,fun x hx y hy=>?_⟩;simp at hy;subst hy;have:=h.lt x hx;omega
 ·have MM:=hS.size
  rcases aE.1 hc with hc|hc
  ·have:=h.lt c hc
   omega
  simp at hc;subst hc;omega
 have k1:cQ (fun j=>v.ownBlock=some j∨j=mb) w6 (w8.setCell ⟨mb,2,none⟩ v'):=(((h.kept.mono (fun j _ e=>.inr e)).trans (dA b7)).trans (dA ba)).trans hS;exact⟨k1.os,k1.tape,k1.output,k1.size,fun j hlt hnb=>k1.block j hlt (fun e=>by
  rcases e with e|e
  ·have:=(Kq j e).1
   omega
  exact hnb e)⟩
theorem uS{P:Program}{w:au}{ops:Array Oper}{rest:List Oper}{o:Oper}{a:Act}{Q:Exit→Act→au→Prop}(hgd:o.guard=none)(s x:Operand)(t:TypeId)
  (ho:o.op=.call {callee:=.builtin .append,args:=#[s,x],argTypes:=#[t,t]}) (v u v':aA) (w':au) (hs:a.eval s=v) (hx:a.eval x=u) (hr:(cj #[t,t] o.type #[v,u]).run P w=.ok v' w')
  (h:wpList P ops Q rest (a.put o.dst v') w'):wpList P ops Q (o::rest) a w:=
 wpList_plain hgd fun _ hK=>by
  unfold Oper.wp execOp;simp only[ho,resolve,invoke,builtin,Sem.run_bind,Sem.run_pure,Result.andThen_ok,List.map_toArray,bP,List.map_nil,hs,hx,hr];exact hK _ _ h
def aa8(w0 w:au)(s n:Int)(L:List cO)(e:Ending)(w':au):Prop:=
 cE w w'∧((qE s n L≠0∧e=.returned (.tuple #[.pointer none,.i (qE s n L)]))∨
  (qE s n L=0∧∃A:MA,e=.returned (.tuple #[.p A.mb,.I])∧(∀Y:Nat→Prop,(∀b,Y b→w0.heap.size≤b∧b<w.heap.size)→cZ w0 w' {A with X:=Y} (cV.new s.toNat n.toNat L))∧(∀b,¬A.F b)∧∀b,A.Z b→w.heap.size≤b))
structure Nk(w0 w w6:au)(s:Nat)(n:Nat)(L:List cO)(mb kb sb gb:Nat)(ra va:Option bT)(rc vc:Nat):Prop where
 mbl:mb<w6.heap.size∧w.heap.size≤mb
 blk:w6.heap[mb]?=some (.cells #[.i s,.slice ra L.length rc,.n,.p kb,.p sb,.slice va n vc,.n] 107 (0,0))
 dP:gK w6 (fun b=>w.heap.size≤b∧b<kb) ra L
 tok:jx w6 kb (fun _=>False) (aH L.length iM)
 xk:iP w6 sb gb s 0 []
 v:dK w6 (fun b=>sb<b∧b<mb) va (aH n 0)
 ord:w.heap.size≤kb∧kb<gb∧gb<sb∧sb<mb
 bl:cE w w6
theorem GX:∀L:List cO,L.map (fun _=>iM)=aH L.length iM
 |[]=>rfl
 |x::L=>by simp only[bP,List.length_cons,List.replicate_succ,GX L]
theorem VO{w0 w w6 wr:au}{s n mb kb sb gb:Nat}{L:List cO}{ra va:Option bT}{rc vc:Nat}{v:aA}{T:List Nat}(bl:cE w0 w)(mx:dM w0)(pow:iz w0)(h:Nk w0 w w6 s n L mb kb sb gb ra va rc vc)
  (hs:Ed w0 w6 mb [.i s,.slice ra L.length rc] [.p kb,.p sb,.slice va n vc,.n] L L.length v T wr) (h0:0<L.length):
  ∃A:MA,A.mb=mb∧(∀Y:Nat→Prop,(∀b,Y b→w0.heap.size≤b∧b<w.heap.size)→cZ w0 wr {A with X:=Y} (cV.new s n L))∧(∀b,¬A.F b)∧∀b,A.Z b→w.heap.size≤b:=by
 obtain⟨n1,zN⟩:∃m,L.length=m+1:=⟨L.length - 1,by omega⟩;have hown:=hs.own;rw[zN] at hown;obtain⟨g,cap,rfl⟩:=cm hown;rw[←zN] at hown;have SG:=hown.lt g rfl;have hTr:∀(r:Nat) b,T[r]?=some b→w6.heap.size≤b∧∃p,L[r]?=some p∧TR w0 wr b p 0 [(p,iQ)]:=fun r b hr=>by
  have hrl:r<L.length:=by rw[←hs.len];exact(aa.1 hr).1
  have:=hs.tr r b _ hr (an hrl);exact⟨this.1,_,an hrl,this.2⟩
 have hTm:∀b∈T,w6.heap.size≤b∧b≠g:=fun b hb=>by
  obtain⟨r,hr⟩:=aI.1 hb;obtain⟨h1,p,_,R⟩:=hTr r b hr;refine⟨h1,fun e=>?_⟩;obtain⟨lo,mm,T1⟩:=R.tree;exact iX hown T1.blk cL (by rw[e];rfl)
 obtain⟨o1,o2,o3,o4⟩:=h.ord;have hmb:=h.mbl.1;have hkm:∀b,b<w6.heap.size→b≠mb→¬(b=mb):=fun b _ e=>e
 have hzz:∀(Y:Nat→Prop) b,(⟨mb,kb,sb,gb,T,ra,rc,some ⟨g,0,none⟩,cap,va,vc,.n,[],Y,fun _=>False⟩:MA).Z b→w.heap.size≤b:=fun Y b e=>by
  have:=h.mbl.2;have:=h.bl.size;rcases e with e|e|e|e|e|e
  ·have e:b=mb:=e;omega
  ·have e:b=kb:=e;omega
  ·have e:b=sb:=e;omega
  ·have e:b=gb:=e;omega
  ·have:=(hTm b e).1;omega
  cases e
 refine⟨⟨mb,kb,sb,gb,T,ra,rc,some ⟨g,0,none⟩,cap,va,vc,.n,[],fun _=>False,fun _=>False⟩,rfl,fun Y hY=>?_,fun _ e=>e,hzz _⟩;have hz:∀b,(⟨mb,kb,sb,gb,T,ra,rc,some ⟨g,0,none⟩,cap,va,vc,.n,[],Y,fun _=>False⟩:MA).Z b→b=mb∨b=kb∨b=sb∨b=gb∨b∈T:=fun b e=>by
  rcases e with e|e|e|e|e|e
  ·exact .inl e
  ·exact .inr (.inl e)
  ·exact .inr (.inr (.inl e))
  ·exact .inr (.inr (.inr (.inl e)))
  ·exact .inr (.inr (.inr (.inr e)))
  cases e
 have hlo:∀b,w.heap.size≤b→b≠mb→b≠kb→b≠sb→b≠gb→b∉T→(⟨mb,kb,sb,gb,T,ra,rc,some ⟨g,0,none⟩,cap,va,vc,.n,[],Y,fun _=>False⟩:MA).lo b:=fun b h0 h1 h2 h3 h4 h5=>⟨fun e=>by
  rcases hz b e with e|e|e|e|e
  ·exact h1 e
  ·exact h2 e
  ·exact h3 e
  ·exact h4 e
  exact h5 e,fun e=>by have:=(hY b e).2;omega⟩
 have hnT:∀b,b<w6.heap.size→b∉T:=fun b hb hT=>by have:=(hTm b hT).1;omega
 have adB:gK wr (fun b=>w.heap.size≤b∧b<kb) ra L:=h.dP.iN hs.kept (fun b hb _ e=>by have e:b=mb:=e;have:=hb.2;omega);have hv:dK wr (fun b=>sb<b∧b<mb) va (aH n 0):=h.v.kept hs.kept (fun b hb _ e=>by have e:b=mb:=e;have:=hb.2;omega);have ah6:jx wr kb (fun _=>False) (aH L.length iM):=h.tok.kept hs.kept (fun e=>by have e:kb=mb:=e;omega) (fun _ e=>e.elim);have aib:iP wr sb gb s 0 []:=h.xk.kept hs.kept (fun e=>by have e:sb=mb:=e;omega) (fun e=>by have e:gb=mb:=e;omega);have gQ:cE w0 wr:=(bl.trans (h.bl.mono bl.size)).trans (hs.kept.below (by have:=bl.size;have:=h.bl.size;omega) (fun b e=>by have e:b=mb:=e;have:=bl.size;have:=h.mbl.2;omega));have bls:=bl.size;have hbs:=h.bl.size;have aoS:(aH n 0).length=n:=bS;have hroot:∀(r:Nat) p,L[r]?=some p→(cV.new s n L).cP r=p∧(cV.new s n L).cS r=0∧(cV.new s n L).dQ r=[(p,iQ)]:=fun r p hp=>by
  have hrl:=(aa.1 hp).1;have e1:L.getD r []=p:=by simp[aG,hp]
  have e2:(L.map (fun r=>((0:Int),[(r,iQ)]))).getD r (0,[])=(0,[(p,iQ)]):=by simp[aG,hp]
  exact⟨e1,congrArg Prod.fst e2,congrArg Prod.snd e2⟩
 refine⟨?_,⟨adB.mono (fun b dB dI=>hlo b cK cK cK cK cK (hnT b cK)),fun r b hr=>⟨g,0,rfl,hlo g cK cK cK cK cK (fun e=>(hTm g e).2 rfl),SG.2,?_⟩,?_,fun i x c hx=>by simp[cV.new] at hx⟩,by rw[hs.len];simp[cV.new],fun r b hr=>?_,hs.nd,?_,?_,?_,?_,rfl,⟨by show kb≠mb;omega,by show kb≠sb;omega,hnT kb cK,fun e=>by cases e⟩,fun b e=>?_,fun b e=>⟨fun z=>by have:=hzz Y b z;have:=(hY b e).2;omega,(hY b e).1,by have:=(hY b e).2;have:=hs.kept.size;omega⟩,pow,mx,gQ,⟨fun b e=>e.elim,fun r b hr=>?_,fun i x c hx=>by simp[cV.new] at hx⟩⟩
 ·have:=hs.blk
  rw[←zN] at this;unfold MA.cells cV.new;simp only[List.length_map,bS];exact this
 ·have:=hown.cells (g:=g) rfl r (Gw b) (by rw[bA,hr];rfl)
  rw[bQ,aQ] at this;rw[aQ];exact this
 ·show dK wr _ va (aH n 0)
  exact hv.mono (fun b _ hb=>hlo b cK cK cK cK cK (hnT b cK))
 ·obtain⟨h1,p,hp,R⟩:=hTr r b hr
  obtain⟨e1,e2,e3⟩:=hroot r p hp;rw[e1,e2,e3];exact⟨R,by simp⟩
 ·show jx wr kb _ (L.map (fun _=>iM))
  rw[GX];exact ah6.more (fun _ _ e=>e.elim)
 ·exact aib
 ·exact World.ownsRow_nil wr w0.heap.size 40 7
 ·exact fun g hg=>by cases hg
 ·rcases hz b e with e|e|e|e|e
  ·have:=h.mbl.2;omega
  ·omega
  ·omega
  ·omega
  have:=(hTm b e).1;omega
 obtain⟨h1,p,hp,R⟩:=hTr r b hr;obtain⟨e1,e2,e3⟩:=hroot r p hp;rw[e1,e2,e3];exact jC.off R
end
def gO(k:Int)(p:cO):fh:=⟨k,p,[],0,false,false⟩
def gX(kind:Nat)(o:fh)(ep:Nat)(fr:List Nat):jA:=⟨kind,0,0,0,0,opHead o++(dw 8 0++[]),true,mY,0,0,ep,fr⟩
def gXa:jA:=gX 2 (gO 0 []) 0 []
def KM:jA:=gX 1 (gO 1 Oe) 0 []
def gXc:jA:=gX 5 (gO 0 []) 1 [0,0]
def gXf:jA:=gX 6 (gO 0 []) 1 []
def Yq:cV:=cV.new 0 2 [pR]
def gM1:cV:=(Yq.done gXa).1
def gM2:cV:=(gM1.done KM).1
def gM3:cV:=(gM2.done gXc).1
def gM4:cV:=(gM3.done KM).1
def gM5:cV:=(gM4.done gXf).1
def gM6:cV:=(gM5.done KM).1
theorem gA:(Yq.done gXa).2.e=0∧(Yq.done gXa).2.a.cW=[49]∧(gM1.done KM).2.e=61∧(gM2.done gXc).2.e=0∧(gM3.done KM).2.a.cW=Oe∧(gM3.done KM).2.i.seq=1∧(gM3.done KM).2.i.de=[0,0]∧
  (gM4.done gXf).2.e=0∧(gM5.done KM).2.e=61∧gM6.v=[1,0]∧gM6.own.map (·.seq)=[1]∧qE 0 2 [pR]=0:=by decide+kernel
section
open Go.RowKit Go.Shelf Go.MapKept Go.ChangeMaps
def zR:List aA:=[.I,.z,.n,.U,.U,.U,.I,.U,.V,.V,.V,.n,.n]
def zI:List aA:=[.I,.V,.I,.V,.n,.n,.U]
def qL:ei:=⟨none,0,none,0⟩
theorem L4:cU mY qL=zI:=rfl
theorem oT(w:au)(lo:Nat→Prop):ez w lo qL [] mY:=⟨fun k v hk=>by simp[mY] at hk,⟨rfl,fun k r e hk=>by simp at hk⟩,fun k q hq=>by simp at hq,fun ad e=>by cases e⟩
structure iC(B:Nat)(w0 w:au)(A:MA)(db:Nat)(E:List aA)(x:cV×kH)(e:Ending)(w':au):Prop where
 ret:∃(c e0:Int) (R:List aA) (r:ei) (L:List dr),e=.returned (.i c)∧DB w' db E R (cU x.2.i r)∧fQ w' (fU B) (.agg R.toArray) e0 x.2.a x.2.r∧ez w' (fun b=>B≤b∧yb w' A.mb b) r L x.2.i∧x.2.e=(if c≠0∧e0=0 then c else e0)∧(c≠0→R=zR∧r=qL∧L=[]∧x.2.i=mY∧x.2.a=lX∧x.2.r=[])
 st:∃va vc ov C,cZ w0 w' (A.GG va vc ov C) x.1∧∀b,ov.ownBlock=some b→A.ov.ownBlock=some b∨w.heap.size≤b
 kept:cQ (fun b=>A.Z b∨b=db) w w'
section
variable{B:Nat}{w0 w w':World}{A:MA}{m:cV}{db:Nat}{E:List Value}
theorem gM(h:cZ w0 w' A m)(hd:DB w' db E zR zI)(c:Int)(hk:cQ (fun b=>A.Z b∨b=db) w w'):iC B w0 w A db E (m,oI c) (.returned (.i c)) w':=
 ⟨⟨c,0,zR,qL,[],rfl,by rw[show(m,oI c).2.i=mY from rfl,L4];exact hd,jV _ _ _,oT _ _,by show c=_;by_cases hc:c=0<;>simp[hc],fun _=>⟨rfl,rfl,rfl,rfl,rfl,rfl⟩⟩,⟨A.va,A.vc,A.ov,A.C,h,fun b e=>.inl e⟩,hk⟩
theorem DB.acN{R I:List aA}(h:DB w db E R I){k:Nat}(hk:k<13){v:aA}(hv:∀n,v≠.b n):DB (w.setCell ⟨db,23+k,none⟩ v) db E (R.set k v) I∧jL w (w.setCell ⟨db,23+k,none⟩ v):=by
 refine⟨⟨?_,h.le,by rw[aU];exact h.lr,h.li,fun x hx=>?_,h.ni⟩,Ki (fun n e=>?_)⟩
 ·rw[aL w db (23+k) _ 49 _ h.blk]
  congr 2
  rw[List.setIfInBounds_toArray,bB,bB,List.set_append_right _ _ (by rw[h.le];omega),h.le,show 23+k - 23=k by omega,List.set_append_left _ _ (by rw[h.lr];omega)]
 ·rcases aR hx with h1|h1
  ·exact h.nr x h1
  rw[h1];exact hv
 rw[h.rM k hk] at e;exact h.nr _ (aj e) n rfl
theorem cZ.Rf{R I:List aA}(h:cZ w0 w A m){o:Nat}{v:aA}(hd:DB w db E R I)(hX:A.X db)(hu:jL w (w.setCell ⟨db,o,none⟩ v)):cZ w0 (w.setCell ⟨db,o,none⟩ v) A m:=
 h.vV ((cQ.refl (·=db) w).setCell (p:=⟨db,o,none⟩) rfl _) hu (fun b e=>by have e:b=db:=e;subst e;exact⟨hX,hd.mz⟩)
end
theorem fQ.acX{w:au}{lo lo':Nat→Prop}{u:aA}{x:Int}{A:I7}{X:List wU}(h:fQ w lo u x A X)(hl:∀k,lo k→k<w.heap.size→lo' k):fQ w lo' u x A X:=by
 obtain⟨r,ka,kc,pa,pc,h1,h2,h3,h4⟩:=h;refine⟨r,ka,kc,pa,pc,h1,h2.monoB hl,h3.mono hl,fun k x hx=>?_⟩;obtain⟨g,off,r,e1,e2,e3,e4,e5⟩:=h4 k x hx;exact⟨g,off,r,e1,hl g e2 e3,e3,e4,e5.mono hl⟩
theorem fQ.aa3{w w':au}{lo:Nat→Prop}{u:aA}{x:Int}{A:I7}{X:List wU}(h:fQ w lo u x A X)(hb:cE w w'):fQ w' lo u x A X:=h.dZ (dA (S:=fun _=>False) hb) (fun _ _ _ h=>h)
theorem ac5(i:Nat)(h:i<100)(w:au):aT prog 315 #[.i i,.i 10] w fun e w'=>e=.returned (.string (bs (aM i)))∧w'=w:=by
 have hs:=cD (Tryz.internal_strconv_small i h w);have t1:decide ((0:Int)≤(i:Int))=true:=by simp
 have t2:decide ((i:Int)<100)=true:=by simp;omega
 clear h;go_enter func315,ntmps315
 go_wp2_with fail
 refine hs.out.mono ?_;rintro e w1 ⟨rfl,rfl⟩;go_wp2
 go_ret
 exact⟨rfl,rfl⟩
theorem ac6(i:Nat)(h:i<100)(w:au):aT prog 286 #[.i i] w fun e w'=>e=.returned (.string (bs (aM i)))∧w'=w:=by
 have hs:=cD (ac5 i h w);clear h;go_enter func286,ntmps286
 go_wp2_with fail
 refine hs.out.mono ?_;rintro e w1 ⟨rfl,rfl⟩;go_wp2
 go_ret
 exact⟨rfl,rfl⟩
theorem ac7(i:Nat)(h:i<100)(w:au):aT prog 243 #[.i i] w fun e w'=>e=.returned (.string (bs (aM i)))∧w'=w:=by
 have hs:=cD (ac6 i h w);clear h;go_enter func243,ntmps243
 go_wp2_with fail
 refine hs.out.mono ?_;rintro e w1 ⟨rfl,rfl⟩;go_wp2
 go_ret
 exact⟨rfl,rfl⟩
theorem JJ{w0 w:au}{A:MA}{m:cV}{N B:Nat}(h:cZ w0 w A m)(ok:m.Ok N){db:Nat}{E:List aA}(hd:DB w db E zR zI)(hX:A.X db)(hB:B≤w.heap.size):
  aT prog 169 #[.p A.mb,.p db] w (iC B w0 w A db E m.opens):=by
 have c4:=h.cells.2.2.2.2.1;have hl:=ok.last;by_cases h32:32≤m.last
 ·have HO:=cD (Og A.sb A.gb m.dy m.last m.gone w h.xk cK)
  have ho:m.opens=(m,oI 4):=by unfold cV.opens;rw[if_pos h32]
  have HH:=cD (gM (B:=B) (w:=w) h hd 4 (cQ.refl _ w));rw[ho];clear h ok hd hX hB hl h32 ho;go_enter func169,ntmps169
  go_wp2_with fail
  refine HO.out.mono ?_;rintro e w1 ⟨rfl,rfl⟩;go_wp2
  go_ret
  exact HH.out
 have HO:=cD (VC A.sb A.gb m.dy m.last m.gone w h.xk cK cK);have ho:m.opens=({m with last:=m.last+1},⟨0,⟨aM (m.last+1),iQ,[]⟩,[],mY⟩):=by unfold cV.opens;rw[if_neg h32]
 rw[ho];obtain⟨n,hn⟩:=cF (m.last+1);have e1:(m.last:Int)+1=(n:Int):=by omega
 rw[e1] at HO;rw[←hn];have XZ:n<100:=by omega
 have Qh:=cD (fun w'=>ac7 n XZ w');have tw:∀_:True,IntKind.i64.wrap (n:Int)=(n:Int):=fun _=>IntWalk.i64_in _ cK
 have HH:=cD (cC h (cC hd (cC hX (cC hB hn))));clear h ok hd hX hB hl h32 ho e1 hn XZ;go_enter func169,ntmps169
 go_wp2_with fail
 refine HO.out.mono ?_;rintro e w1 ⟨rfl,hs1,hk1⟩;obtain⟨h,hd,hX,hB,hn⟩:=HH.out;have ap:=h.apart;have zx:cZ w0 w1 A {m with last:=n,gone:=m.gone}:=h.JL hk1 (fun b e=>.inl e) hs1;have hdb:db≠A.sb:=fun e=>(h.xz db hX).1 (e▸A.zs)
 have vQ:=hd.kept hk1 hdb;have d24:w1.cell? ⟨db,24,none⟩=some (.z):=vQ.rM 1 cL;have f24:w1.frozen? ⟨db,24,none⟩=false:=by simp[aO,vQ.blk]
 obtain⟨hD,hU⟩:=vQ.acN (k:=1) (v:=.string (bs (aM n))) cL (fun n e=>by cases e);have hm2:=zx.Rf vQ hX hU;have qC:cQ (fun b=>A.Z b∨b=db) w (w1.setCell ⟨db,24,none⟩ (.string (bs (aM n)))):=(hk1.mono (fun b _ e=>.inl (by have e:b=A.sb:=e;exact e▸A.zs))).trans ((cQ.refl _ w1).setCell (.inr rfl) _);obtain⟨w2,fH⟩:=cF (w1.setCell ⟨db,24,none⟩ (.string (bs (aM n))));rw[show 23+1=24 from rfl,←fH] at hD hm2;rw[←fH] at qC;have HF:Hid (iC B w0 w A db E ({m with last:=n},⟨0,⟨aM n,iQ,[]⟩,[],mY⟩) (.returned (.I)) w2):=cD ⟨⟨0,0,_,qL,[],rfl,hD,⟨oS,none,0,none,0,rfl,mX _ _,gK.nil _ _ _,jZ.nil _ _ _⟩,oT _ _,rfl,fun h=>absurd rfl h⟩,⟨A.va,A.vc,A.ov,A.C,hm2,fun b e=>.inl e⟩,qC⟩;have nW:=cD fH;clear hs1 hk1 h hd hX hB hn ap zx hdb vQ hD hU hm2 qC fH HH;go_wp2_with fail
 refine(Qh.out w1).mono ?_;rintro e w3 ⟨rfl,rfl⟩;go_wp2_with (rw[←nW.out])
 go_ret
 exact HF.out
section
variable{F:Fence}{n:Nat}{P:Program}{l:List Oper}{Q:Exit→Act→World→Prop}{md:Region.Mode}{S:World→Prop}{c:Nat}
theorem fN(i:Nat){oi:Oper}{r:List Oper}{fuel:Nat}{listed:Array Bool}{a:Act}{w:au}(hi:l.drop i=oi::r)(hS:S w)
  (h:eY F n P md l.toArray Q S c fuel (listed.setIfInBounds i true) (a.put oi.dst undef) w)
  (hro:F.round=none∨vC l=true:=by first|exact .inl rfl|exact .inr cJ) (hab:∀w,oi.about P w a.eval=none:=by intro w;rfl)
  (hs:Region.noSelect l.toArray=true:=by kernel_rfl) (hf:Region.free md l.toArray listed i=true:=by kernel_rfl) (hr:(bN md l.toArray listed).contains i=true:=by kernel_rfl)
  (hw:aZ oi (yielded l.toArray a.tmps)=false:=by kernel_rfl) (KC:c≠i:=by decide) (KB:waits md l.toArray 20 c i=true:=by kernel_rfl) (hcl:zO md l.toArray listed=true:=by kernel_rfl)
  (hQ:∀c a w,Q (.panic c) (a.put oi.dst undef) w→Q (.panic c) a w:=by exact fun _ _ _ h=>h):eY F n P md l.toArray Q S c (fuel+1) listed a w:=
 sS KC KB (hro.imp_right qb) (gh hi) (Region.noSelect_spec hs) hQ fuel listed a w (Region.free_spec (gh hi) hf) (by simpa using hr) (DU hcl) ⟨.inr ⟨hw,rfl⟩,hab⟩ hS h
theorem fM(i:Nat){oi:Oper}{r:List Oper}{fuel:Nat}{listed:Array Bool}{a:Act}{w:au}(hi:l.drop i=oi::r)(hS:S w)
  (h:eY F n P md l.toArray Q S c fuel (listed.setIfInBounds i true) (a.put oi.dst undef) w) (hF:∀f,F.fn f:=by exact fun _=>trivial)
  (hr:bN md l.toArray listed=[i]:=by kernel_rfl) (hw:aZ oi (yielded l.toArray a.tmps)=false:=by kernel_rfl):eY F n P md l.toArray Q S c (fuel+1) listed a w:=by
 refine⟨fun h0=>absurd (hr▸h0) cM,fun j hj=>?_⟩;rw[hr] at hj;have hji:j=i:=by simpa using hj
 subst hji;unfold wpOpIn;rw[gh hi];dsimp only;simp only[hw,Bool.false_eq_true,if_false];exact⟨fun f _=>hF f,fun _=>hS,h⟩
end
structure TZ(E:List aA)(os:Int)(on:Nat):Prop where
 c3:E[3]?=some (.i os)
 c4:E[4]?=some (.u (on:Int))
theorem Gh{w0 w:au}{A:MA}{m:cV}{N B:Nat}(h:cZ w0 w A m)(ok:m.Ok N)(hN:N≤1000000){y:fV}(hy:mE y){db:Nat}{E:List aA}(hE:TZ E y.os y.on)(hd:DB w db E zR zI)(hX:A.X db)(hB:B≤w.heap.size):
  aT prog 170 #[.p A.mb,.p db] w (iC B w0 w A db E (m.lI y)):=by
 have c0:=h.cells.1;have c4:=h.cells.2.2.2.2.1;have d3:w.cell? ⟨db,3,none⟩=some (.i y.os):=(hd.tE 3 cL).trans hE.c3;have d4:w.cell? ⟨db,4,none⟩=some (.u (y.on:Int)):=(hd.tE 4 cL).trans hE.c4;have HR3:Hid (w.rangeAt db 3 [.i y.os,.u (y.on:Int)]):=cD (fun j u hu=>by
  match j,hu with
  |0,hu=>cases hu;exact d3
  |1,hu=>cases hu;exact d4)
 obtain⟨w2,fH⟩:=cF (w.alloc (.cells #[.i y.os,.u (y.on:Int)] 31));have dI:cE w w2:=by rw[fH];exact cT (aJ _ w) _
 have k2:w2.heap[w.heap.size]?=some (.cells #[.i y.os,.u (y.on:Int)] 31 (0,0)):=by rw[fH];exact aF w _
 have za:Hid (cG 31 2):=cD cJ;have h2:=h.below dI;have uD:=hd.below dI;obtain⟨ns,oQ⟩:∃n,n=m.dy:=⟨_,rfl⟩;have f0:∀w',cQ (·=A.gb) w2 w'→w'.cell? ⟨A.mb,0,none⟩=some (.i (ns:Int)):=fun w' hk=>(hk.cell (p:=⟨A.mb,0,none⟩) (af h2.blk) h2.apart.ms.2.1).trans (h2.cells.1.trans (by rw[oQ]))
 have f4:∀w',cQ (·=A.gb) w2 w'→w'.cell? ⟨A.mb,4,none⟩=some (.p A.sb):=fun w' hk=>(hk.cell (p:=⟨A.mb,4,none⟩) (af h2.blk) h2.apart.ms.2.1).trans h2.cells.2.2.2.2.1
 have DF:w.heap.size≠A.gb:=fun e=>by have:=h.ze A.zg;omega
 have g0:∀w',cQ (·=A.gb) w2 w'→w'.cell? ⟨w.heap.size,0,none⟩=some (.i y.os):=fun w' hk=>(hk.cell (p:=⟨w.heap.size,0,none⟩) (af k2) DF).trans (aB _ _ 0 _ 31 (0,0) k2)
 have g1:∀w',cQ (·=A.gb) w2 w'→w'.cell? ⟨w.heap.size,1,none⟩=some (.u (y.on:Int)):=fun w' hk=>(hk.cell (p:=⟨w.heap.size,1,none⟩) (af k2) DF).trans (aB _ _ 1 _ 31 (0,0) k2)
 have HW:=cD fH;have hon:=hy.on;have Hy:nR (m.dy:Int):=by have:=ok.dy;have:=ok.vl;exact⟨by omega,by omega⟩
 have Sm:wD (y.on:Int):=⟨by omega,by omega⟩;have hlt:w.heap.size<w2.heap.size:=af k2;have Fb:cQ (fun b=>A.Z b∨b=db) w w2:=dA dI;have DJ:B≤w2.heap.size:=aC hB dI.size;have HW:=cD fH;by_cases hs:y.os=m.dy
 ·have t6:(y.os != (ns:Int))=false:=by rw[hs,oQ];simp
  cases hv:m.live y.on with
  |false=>
   have hm:m.lI y=(m,oI 63):=by unfold cV.lI;rw[if_pos (.inr hv)]
   have pT:Hid (∀W,cE w2 W→aT prog 244 #[.p A.sb,.u (y.on:Int)] W fun e w'=>e=.returned (.i 63)∧∃k,w'=W.drewN k):=cD (fun W hW=>TB A.sb A.gb m.dy m.last y.on m.gone W (h2.below hW).xk Hy Sm hv);have HH:Hid (∀W,cE w2 W→iC B w0 w A db E (m,oI 63) (.returned (.i 63)) W):=cD (fun W hW=>gM (h2.below hW) (uD.below hW) 63 (Fb.trans (dA hW)));rw[hm];clear hs hv hm h ok hy hE hd hX hB c0 c4 d3 d4 fH dI h2 uD oQ DF hon Hy Sm Fb DJ k2;go_enter func170,ntmps170
   go_wp2_with (first
    |(refine aN rfl 31 (.tmp 9) rfl db 3 rfl [.i y.os,.u (y.on:Int)] _ HR3.out underlying31 rfl za.out ?_)
    |fail)
   rw[←HW.out];have hS:cQ (·=A.gb) w2 w2.drew:=(cQ.refl _ w2).drew;refine(aW (n:=0)).1 (fB (S:=fun w'=>cQ (·=A.gb) w2 w') (c:=16) ?_);refine fJ 0 hS ?_;simp only[cR];refine fI 1 rfl hS (fun w' hS'=>by have:=g0 w' hS';go_simp<;>rfl) ?_;simp only[cR];refine fJ 2 hS ?_;simp only[cR];refine fJ 3 hS ?_;simp only[cR];refine fJ 4 hS ?_;simp only[cR];refine fI 5 rfl hS (fun w' hS'=>by have:=f0 w' hS';go_simp<;>rfl) ?_;simp only[cR];refine fJ 6 hS ?_;simp only[cR];refine fJ 7 hS ?_;simp only[cR];refine fJ 8 hS ?_;simp only[cR];refine fJ 9 hS ?_;simp only[cR];refine fJ 10 hS ?_;simp only[cR];refine fI 11 rfl hS (fun w' hS'=>by have:=f4 w' hS';go_simp<;>rfl) ?_;simp only[cR];refine fJ 12 hS ?_;simp only[cR];refine fI 13 rfl hS (fun w' hS'=>by have:=g1 w' hS';go_simp<;>rfl) ?_;simp only[cR];refine fK 14 rfl fun K' gv=>?_
   gi_wp2_with fail
   refine⟨trivial,rfl,(aY.2 (pT.out w2.drew (aJ _ w2).drew)).mono ?_⟩;rintro e w3 ⟨rfl,k,rfl⟩;have ek:cQ (·=A.gb) w2 (w2.drew.drewN k):=hS.drewN k;refine gv _ _ ek ?_;clear gv;refine fJ 15 ek ?_;simp only[cR];refine fC 16 rfl fun K' gv=>?_
   gi_wp2
   refine fD ?_ cJ _;go_wp2
   go_ret
   exact HH.out _ ((aJ _ w2).drew.trans ⟨rfl,rfl,rfl,bY _,fun _ _=>rfl⟩)
  |true=>
  have hm:m.lI y=((m.jS (m.dy,y.on)).make (cV.oD y.on),⟨0,lX,[],(m.jS (m.dy,y.on)).item (cV.oD y.on)⟩):=by unfold cV.lI;rw[if_neg (fun e=>by rcases e with e|e;exact e hs;rw[hv] at e;cases e)];rfl
  have pT:Hid (aT prog 244 #[.p A.sb,.u (y.on:Int)] w2.drew fun e w'=>e=.returned (.I)∧iP w' A.sb A.gb m.dy m.last (xY (m.dy,y.on) m.gone)∧cQ (·=A.gb) w2.drew w'):=cD (PL A.sb A.gb m.dy m.last y.on m.gone w2.drew h2.drew.xk Hy Sm hv);have HH:=cD (cC h2 (cC ok (cC uD (cC hX (cC Fb (cC DJ (cC hN hy)))))));rw[hm];clear hs hv hm h ok hy hE hd hX hB c0 c4 d3 d4 fH dI h2 uD oQ DF hon Hy Sm Fb DJ k2 hN;go_enter func170,ntmps170
  go_wp2_with (first
   |(refine aN rfl 31 (.tmp 9) rfl db 3 rfl [.i y.os,.u (y.on:Int)] _ HR3.out underlying31 rfl za.out ?_)
   |fail)
  rw[←HW.out];have hS:cQ (·=A.gb) w2 w2.drew:=(cQ.refl _ w2).drew;refine(aW (n:=0)).1 (fB (S:=fun w'=>cQ (·=A.gb) w2 w') (c:=16) ?_);refine fJ 0 hS ?_;simp only[cR];refine fI 1 rfl hS (fun w' hS'=>by have:=g0 w' hS';go_simp<;>rfl) ?_;simp only[cR];refine fJ 2 hS ?_;simp only[cR];refine fJ 3 hS ?_;simp only[cR];refine fJ 4 hS ?_;simp only[cR];refine fI 5 rfl hS (fun w' hS'=>by have:=f0 w' hS';go_simp<;>rfl) ?_;simp only[cR];refine fJ 6 hS ?_;simp only[cR];refine fJ 7 hS ?_;simp only[cR];refine fJ 8 hS ?_;simp only[cR];refine fJ 9 hS ?_;simp only[cR];refine fJ 10 hS ?_;simp only[cR];refine fI 11 rfl hS (fun w' hS'=>by have:=f4 w' hS';go_simp<;>rfl) ?_;simp only[cR];refine fJ 12 hS ?_;simp only[cR];refine fI 13 rfl hS (fun w' hS'=>by have:=g1 w' hS';go_simp<;>rfl) ?_;simp only[cR];refine fK 14 rfl fun K' gv=>?_
  gi_wp2_with fail
  refine⟨trivial,rfl,(aY.2 pT.out).mono ?_⟩;rintro e w3 ⟨rfl,hs3,xJ⟩;have ek:cQ (·=A.gb) w2 w3:=hS.trans xJ;have H3:=cD hs3;clear hs3 xJ;have z1:=g1 w3 ek;refine gv _ _ ek ?_;clear gv;refine fJ 15 ek ?_;simp only[cR];refine fC 16 rfl fun K' gv=>?_
  gi_wp2
  refine fD ?_ cJ _;obtain⟨h2,ok,uD,hX,Fb,DJ,hN,hy⟩:=HH.out;have AV:=h2.JL ek (fun b e=>.inr e) H3.out;have hdb:db≠A.gb:=fun e=>(h2.xz db hX).1 (e▸A.zg)
  have Yf:=uD.kept ek hdb;have HMK:=cD (G0 (x:=cV.oD y.on) (r:=qL) (L:=[]) AV (ok.jS (m.dy,y.on)) hN (fun k r h=>by simp at h) ⟨rfl,fun k r e h=>by simp at h⟩ (fun ad e=>by cases e) (by simp[cV.oD]) (fun e he=>by simp[cV.oD] at he) Yf hX);have uz:Hid (cQ (fun b=>A.Z b∨b=db) w w3):=cD (Fb.trans (ek.mono (fun b _ e=>.inl (by have e:b=A.gb:=e;exact e▸A.zg))));have mQ:Hid (B≤w3.heap.size):=cD (aC DJ ek.size);clear h2 ok uD hX Fb DJ AV hdb Yf f0 f4 g0 g1 hS ek hN hy;go_wp2_with fail
  refine HMK.out.mono ?_;rintro e w4 ⟨rfl,hme⟩;have HME:=cD hme;clear hme;go_wp2
  go_ret
  obtain⟨⟨va,vc,ov,C,hst,DE⟩,⟨r,L,hD,hI⟩,hK⟩:=HME.out;exact⟨⟨0,0,_,r,L,rfl,hD,jV _ _ _,hI.mono (fun b hb=>⟨aC mQ.out hb.1,hb.2⟩),rfl,fun h=>absurd rfl h⟩,⟨va,vc,ov,C,hst,fun b e=>(DE b e).imp id (fun e2=>aC uz.out.size e2)⟩,uz.out.trans hK⟩
 have t6:(y.os != (ns:Int))=true:=by rw[oQ];simpa using hs
 have hm:m.lI y=(m,oI 63):=by unfold cV.lI;rw[if_pos (.inl hs)]
 have HH:Hid (∀W,cE w2 W→iC B w0 w A db E (m,oI 63) (.returned (.i 63)) W):=cD (fun W hW=>gM (h2.below hW) (uD.below hW) 63 (Fb.trans (dA hW)));rw[hm];clear hs hm h ok hy hE hd hX hB c0 c4 d3 d4 fH dI h2 uD oQ DF hon Hy Sm Fb DJ k2;go_enter func170,ntmps170
 go_wp2_with (first
  |(refine aN rfl 31 (.tmp 9) rfl db 3 rfl [.i y.os,.u (y.on:Int)] _ HR3.out underlying31 rfl za.out ?_)
  |fail)
 rw[←HW.out];have hS:cQ (·=A.gb) w2 w2.drew:=(cQ.refl _ w2).drew;refine(aW (n:=0)).1 (fB (S:=fun w'=>cQ (·=A.gb) w2 w') (c:=16) ?_);refine fJ 0 hS ?_;simp only[cR];refine fI 1 rfl hS (fun w' hS'=>by have:=g0 w' hS';go_simp<;>rfl) ?_;simp only[cR];refine fJ 2 hS ?_;simp only[cR];refine fJ 3 hS ?_;simp only[cR];refine fJ 4 hS ?_;simp only[cR];refine fI 5 rfl hS (fun w' hS'=>by have:=f0 w' hS';go_simp<;>rfl) ?_;simp only[cR];refine fJ 6 hS ?_;simp only[cR];refine fJ 7 hS ?_;simp only[cR];refine fN 8 rfl hS ?_;simp only[cR];refine fN 9 rfl hS ?_;simp only[cR];refine fN 10 rfl hS ?_;simp only[cR];refine fN 11 rfl hS ?_;simp only[cR];refine fN 12 rfl hS ?_;simp only[cR];refine fN 13 rfl hS ?_;simp only[cR];refine fM 14 rfl hS ?_;simp only[cR];refine fN 15 rfl hS ?_;simp only[cR];refine fC 16 rfl fun K' gv=>?_
 gi_wp2
 refine fD ?_ cJ _;go_wp2
 go_ret
 exact HH.out _ (aJ _ w2).drew
structure BT(B:Nat)(w0 w:au)(A:MA)(m:cV)(N:Nat)(db:Nat)(y:fV)(E:List aA):Prop where
 gu:cZ w0 w A m
 ok:m.Ok N
 hN:N≤1000000
 Tn:mE y
 cells:∃o L i Ei fa fc,E=y.cells o i fa fc∧yc w (fun b=>B≤b∧(b<db∨y.eu.dF=[])) y o L i Ei fa
 mG:∀o i fa fc,E=y.cells o i fa fc→dK w (fun b=>B≤b∧b<db) i.sa y.eu.de
 Bz:DB w db E zR zI
 X:A.X db
 hB:B≤w.heap.size
 zB:∀b,A.Z b→b<B
 fB:∀b,A.F b→b<B
theorem BT.owner{B:Nat}{w0 w:au}{A:MA}{m:cV}{N db:Nat}{y:fV}{E:List aA}(h:BT B w0 w A m N db y E):TZ E y.os y.on:=by
 obtain⟨o,L,i,Ei,fa,fc,rfl,_⟩:=h.cells;exact⟨rfl,rfl⟩
theorem Y7{m:cV}{N:Nat}(ok:m.Ok N)(y:fV):m.Va y=({m with toks:=(UC m.toks y.dO y.ep y.fr m.v).2},oI (UC m.toks y.dO y.ep y.fr m.v).1):=by
 unfold cV.Va UC Sl cV.tok;rw[ok.kl];by_cases h1:cV.out y.dO m.dP.length
 ·simp only[if_pos h1]
 simp only[if_neg h1];by_cases h2:(m.toks.getD y.dO.toNat iM).held=true∨y.ep≤(m.toks.getD y.dO.toNat iM).ep
 ·simp only[if_pos h2]
  rfl
 simp only[if_neg h2];by_cases h3:kI y.fr m.v=false
 ·simp only[if_pos h3]
  rfl
 simp only[if_neg h3];rfl
theorem U9{m:cV}{N:Nat}(ok:m.Ok N)(y:fV):m.Ep y=({m with toks:=(Cn m.toks y.dO y.ep m.v).2},oI (Cn m.toks y.dO y.ep m.v).1):=by
 unfold cV.Ep Cn AE cV.tok;rw[ok.kl];by_cases h1:cV.out y.dO m.dP.length
 ·simp only[if_pos h1]
 simp only[if_neg h1];by_cases h2:(m.toks.getD y.dO.toNat iM).held=false∨(m.toks.getD y.dO.toNat iM).ep≠y.ep
 ·simp only[if_pos h2]
  rfl
 simp only[if_neg h2];rfl
section
variable{B:Nat}{w0 w:World}{A:MA}{m:cV}{N db:Nat}{y:fV}{E:List Value}
theorem BT.toks(h:BT B w0 w A m N db y E){w1 w2:au}(hb:cE w w1){T:List jK}{c:Int}(hk:cQ (·=A.kb) w1 w2)(ht:jx w2 A.kb (fun b=>A.lo b∨w1.heap.size≤b) T):iC B w0 w A db E ({m with toks:=T},oI c) (.returned (.i c)) w2:=by
 have h2:=(h.gu.below hb).Vf hk ht;have hdb:db≠A.kb:=fun e=>(h.gu.xz db h.X).1 (e▸A.zk)
 have uD:=(h.Bz.below hb).kept hk hdb;have:=gM (B:=B) (w:=w) h2 uD c ((dA hb).trans (hk.mono (fun b _ e=>.inl (by have e:b=A.kb:=e;exact e▸A.zk))));exact this
theorem Ra(h:BT B w0 w A m N db y E):aT prog 173 #[.p A.mb,.p db] w (iC B w0 w A db E (m.Va y)):=by
 obtain⟨o,L,i,Ei,fa,fc,hE,hD⟩:=h.cells;have hm:=h.gu;rw[Y7 h.ok];obtain⟨nv,tZ⟩:∃n,n=m.v.length:=⟨_,rfl⟩;obtain⟨nf,hnf⟩:∃n,n=y.fr.length:=⟨_,rfl⟩;have y3:∀w',cE w w'→w'.cell? ⟨A.mb,3,none⟩=some (.p A.kb):=fun w' hb=>(hm.below hb).cells.2.2.2.1
 have y5:∀w',cE w w'→w'.cell? ⟨A.mb,5,none⟩=some (.slice A.va nv A.vc):=fun w' hb=>(hm.below hb).cells.2.2.2.2.2.1.trans (by rw[tZ])
 have z20:∀w',cE w w'→w'.cell? ⟨db,20,none⟩=some (.i y.dO):=fun w' hb=>((h.Bz.below hb).tE 20 cL).trans (by rw[hE];rfl)
 have z21:∀w',cE w w'→w'.cell? ⟨db,21,none⟩=some (.v (y.ep:Int)):=fun w' hb=>((h.Bz.below hb).tE 21 cL).trans (by rw[hE];rfl)
 have z22:∀w',cE w w'→w'.cell? ⟨db,22,none⟩=some (.slice fa nf fc):=fun w' hb=>((h.Bz.below hb).tE 22 cL).trans (by rw[hE,hnf];rfl)
 have HC:Hid (∀W,cE w W→aT prog 252 #[.p A.kb,.i y.dO,.v y.ep,.slice fa nf fc,.slice A.va nv A.vc] W fun e w'=>∃v,e=.returned v∧xZ W A.kb A.lo (UC m.toks y.dO y.ep y.fr m.v) v w'):=cD (fun W hW=>by
  rw[hnf,tZ];exact ZQ W A.kb A.lo m.toks (hm.below hW).tok y.dO (fun e=>e.1 A.zk) y.ep y.fr m.v fa A.va fc A.vc _ _ (hD.fr.below hW) (hm.below hW).data.v (by have:=h.Tn.fr.1;omega) (by have:=h.ok.vl;omega))
 have HH:=cD h;obtain⟨x,hx⟩:=cF (UC m.toks y.dO y.ep y.fr m.v);rw[←hx] at HC⊢;have hS:cE w w.drew:=(aJ _ w).drew;clear hm hE hD hx tZ hnf;go_enter func173,ntmps173
 go_wp2_with fail
 refine(aW (n:=0)).1 (fB (S:=fun w'=>cE w w') (c:=23) ?_);refine fJ 0 hS ?_;simp only[cR];refine fJ 1 hS ?_;simp only[cR];refine fJ 2 hS ?_;simp only[cR];refine fI 3 rfl hS (fun w' hS'=>by have:=y3 w' hS';go_simp<;>rfl) ?_;simp only[cR];refine fJ 4 hS ?_;simp only[cR];refine fJ 5 hS ?_;simp only[cR];refine fJ 6 hS ?_;simp only[cR];refine fJ 7 hS ?_;simp only[cR];refine fI 8 rfl hS (fun w' hS'=>by have:=z20 w' hS';go_simp<;>rfl) ?_;simp only[cR];refine fJ 9 hS ?_;simp only[cR];refine fJ 10 hS ?_;simp only[cR];refine fJ 11 hS ?_;simp only[cR];refine fJ 12 hS ?_;simp only[cR];refine fI 13 rfl hS (fun w' hS'=>by have:=z21 w' hS';go_simp<;>rfl) ?_;simp only[cR];refine fJ 14 hS ?_;simp only[cR];refine fJ 15 hS ?_;simp only[cR];refine fJ 16 hS ?_;simp only[cR];refine fJ 17 hS ?_;simp only[cR];refine fI 18 rfl hS (fun w' hS'=>by have:=z22 w' hS';go_simp<;>rfl) ?_;simp only[cR];refine fJ 19 hS ?_;simp only[cR];refine fJ 20 hS ?_;simp only[cR];refine fJ 21 hS ?_;simp only[cR];refine fI 22 rfl hS (fun w' hS'=>by have:=y5 w' hS';go_simp<;>rfl) ?_;simp only[cR];refine fC 23 rfl fun K' gv=>?_
 gi_wp2_with fail
 refine⟨trivial,rfl,(aY.2 (HC.out w.drew hS)).mono ?_⟩;rintro e w2 ⟨v,rfl,rfl,hk,ht⟩;have HF:=cD (HH.out.toks (c:=x.1) hS hk ht);clear hk ht;refine gv _ _ ?_;clear gv;refine fC 24 rfl fun K' gv=>?_
 gi_wp2
 refine fD ?_ cJ _;clear hS y3 y5 z20 z21 z22;go_wp2
 go_ret
 exact HF.out
theorem NP(h:BT B w0 w A m N db y E):aT prog 174 #[.p A.mb,.p db] w (iC B w0 w A db E (m.Ep y)):=by
 obtain⟨o,L,i,Ei,fa,fc,hE,hD⟩:=h.cells;have hm:=h.gu;rw[U9 h.ok];obtain⟨nv,tZ⟩:∃n,n=m.v.length:=⟨_,rfl⟩;have y3:∀w',cE w w'→w'.cell? ⟨A.mb,3,none⟩=some (.p A.kb):=fun w' hb=>(hm.below hb).cells.2.2.2.1
 have y5:∀w',cE w w'→w'.cell? ⟨A.mb,5,none⟩=some (.slice A.va nv A.vc):=fun w' hb=>(hm.below hb).cells.2.2.2.2.2.1.trans (by rw[tZ])
 have z20:∀w',cE w w'→w'.cell? ⟨db,20,none⟩=some (.i y.dO):=fun w' hb=>((h.Bz.below hb).tE 20 cL).trans (by rw[hE];rfl)
 have z21:∀w',cE w w'→w'.cell? ⟨db,21,none⟩=some (.v (y.ep:Int)):=fun w' hb=>((h.Bz.below hb).tE 21 cL).trans (by rw[hE];rfl)
 have HC:Hid (∀W,cE w W→aT prog 253 #[.p A.kb,.i y.dO,.v y.ep,.slice A.va nv A.vc] W fun e w'=>∃v,e=.returned v∧xZ W A.kb A.lo (Cn m.toks y.dO y.ep m.v) v w'):=cD (fun W hW=>by
  rw[tZ];exact VB W A.kb A.lo m.toks (hm.below hW).tok y.dO (fun e=>e.1 A.zk) y.ep m.v A.va A.vc _ (hm.below hW).data.v (by have:=h.ok.vl;omega))
 have HH:=cD h;obtain⟨x,hx⟩:=cF (Cn m.toks y.dO y.ep m.v);rw[←hx] at HC⊢;have hS:cE w w.drew:=(aJ _ w).drew;clear hm hE hD hx tZ;go_enter func174,ntmps174
 go_wp2_with fail
 refine(aW (n:=0)).1 (fB (S:=fun w'=>cE w w') (c:=18) ?_);refine fJ 0 hS ?_;simp only[cR];refine fJ 1 hS ?_;simp only[cR];refine fJ 2 hS ?_;simp only[cR];refine fI 3 rfl hS (fun w' hS'=>by have:=y3 w' hS';go_simp<;>rfl) ?_;simp only[cR];refine fJ 4 hS ?_;simp only[cR];refine fJ 5 hS ?_;simp only[cR];refine fJ 6 hS ?_;simp only[cR];refine fJ 7 hS ?_;simp only[cR];refine fI 8 rfl hS (fun w' hS'=>by have:=z20 w' hS';go_simp<;>rfl) ?_;simp only[cR];refine fJ 9 hS ?_;simp only[cR];refine fJ 10 hS ?_;simp only[cR];refine fJ 11 hS ?_;simp only[cR];refine fJ 12 hS ?_;simp only[cR];refine fI 13 rfl hS (fun w' hS'=>by have:=z21 w' hS';go_simp<;>rfl) ?_;simp only[cR];refine fJ 14 hS ?_;simp only[cR];refine fJ 15 hS ?_;simp only[cR];refine fJ 16 hS ?_;simp only[cR];refine fI 17 rfl hS (fun w' hS'=>by have:=y5 w' hS';go_simp<;>rfl) ?_;simp only[cR];refine fC 18 rfl fun K' gv=>?_
 gi_wp2_with fail
 refine⟨trivial,rfl,(aY.2 (HC.out w.drew hS)).mono ?_⟩;rintro e w2 ⟨v,rfl,rfl,hk,ht⟩;have HF:=cD (HH.out.toks (c:=x.1) hS hk ht);clear hk ht;refine gv _ _ ?_;clear gv;refine fC 19 rfl fun K' gv=>?_
 gi_wp2
 refine fD ?_ cJ _;clear hS y3 y5 z20 z21;go_wp2
 go_ret
 exact HF.out
end
section
variable{F:Fence}{n:Nat}{P:Program}{l:List Oper}{Q:Exit→Act→World→Prop}{md:Region.Mode}{S:World→Prop}{c:Nat}
theorem fE(i j:Nat){oi oj:Oper}{r r':List Oper}{fuel:Nat}{listed:Array Bool}{a:Act}{w:au}(hi:l.drop i=oi::r)(hj:l.drop j=oj::r')
  (h1:∀K':Act→au→Prop,(∀a w,S w→eY F n P md l.toArray Q S c fuel (listed.setIfInBounds i true) a w→K' a w)→Oper.wpIn F n P oi a w K' Q)
  (h2:∀K':Act→au→Prop,(∀a w,S w→eY F n P md l.toArray Q S c fuel (listed.setIfInBounds j true) a w→K' a w)→Oper.wpIn F n P oj a w K' Q)
  (hr:bN md l.toArray listed=[i,j]:=by kernel_rfl) (hwi:aZ oi (yielded l.toArray a.tmps)=true:=by kernel_rfl) (hwj:aZ oj (yielded l.toArray a.tmps)=true:=by kernel_rfl):eY F n P md l.toArray Q S c (fuel+1) listed a w:=by
 refine⟨fun h0=>absurd (hr▸h0) cM,fun k hk=>?_⟩;rw[hr] at hk;have hk:k=i∨k=j:=by simpa using hk
 rcases hk with rfl|rfl
 ·unfold wpOpIn
  rw[gh hi];dsimp only;rw[if_pos hwi];exact h1 _ fun _ _ h1 h2=>⟨fun _=>h1,h2⟩
 unfold wpOpIn;rw[gh hj];dsimp only;rw[if_pos hwj];exact h2 _ fun _ _ h1 h2=>⟨fun _=>h1,h2⟩
end
section
variable{B:Nat}{w0 w:World}{A:MA}{m:cV}{N db:Nat}
theorem Ma(ok:m.Ok N){r:Nat}(hr:r<m.dP.length):zf m.toks r=m.tok r:=by
 unfold zf cV.tok;rw[if_pos ⟨by omega,by rw[ok.kl];omega⟩];rfl
theorem cZ.st(h:cZ w0 w A m)(ok:m.Ok N){r b:Nat}(hr:A.tb[r]?=some b):St w0 w b (m.cP r) (m.cS r) (m.dQ r):=by
 have hl:r<m.dP.length:=by rw[←ok.tl,←h.tl];exact(aa.1 hr).1
 exact⟨(h.tr r b hr).1,(ok.tree r hl).inv,(ok.tree r hl).nice,h.pow,(ok.ats r hl).1⟩
def Uv(F:Nat→Prop)(w3:au)(X:List gm)(x:Int)(a:I7)(rs:List wU)(v13 v14:aA)(wc:au):Prop:=
 ∃(bx:Nat) (cs:List aA),v14=.p bx∧w3.heap.size≤bx∧wc.heap[bx]?=some (.cells cs.toArray 47 (0,0))∧iB F wc v13 X∧(∀b,v13.ownBlock=some b→w3.heap.size≤b)∧fQ wc (fU w3.heap.size) (.agg cs.toArray) x a rs∧cE w3 wc
theorem Nb{F:Nat→Prop}{w3 w6:au}{bx:Nat}{u1:aA}{cs:List aA}{X:List gm}{x:Int}{a:I7}{rs:List wU}{lo:Nat→Prop}(hb:cE w3 w6)(hB:w3.heap.size≤bx)
  (k6:w6.heap[bx]?=some (.cells #[.I,.z,.n,.U,.U,.U,.I,.U,.V,.V,.V,.n,.n] 47 (0,0))) (hl:cs.length=13) (hE:iB F w6 u1 X) (hn:∀b,u1.ownBlock=some b→w3.heap.size≤b) (hR:fQ w6 lo (.agg cs.toArray) x a rs) (hlo:∀k,lo k→w3.heap.size≤k∧k≠bx):Uv F w3 X x a rs u1 (.p bx) (w6.setCells bx 0 cs):=by
 have hK:=iw w6 bx 0 cs;have hE2:iB F (w6.setCells bx 0 cs) u1 X:=by
  obtain⟨ea,ec,L,e1,e2,e3⟩:=hE;refine⟨ea,ec,L,e1,fun k r hk=>?_,e3.ot k6 kL hK⟩;obtain⟨b,off,g1,g2,g3⟩:=e2 k r hk;refine⟨b,off,g1,ah g2 hK.size,fun j v hv=>(hK.cell (p:=⟨b,off+k*11+j,none⟩) g2 (fun e=>?_)).trans (g3 j v hv)⟩;have e:b=bx:=e;subst e;have q0:=g3 0 _ rfl;have q1:=g3 1 _ rfl;rw[aB _ _ _ _ 47 (0,0) k6] at q0 q1;have h0:∀k:Nat,(#[.I,.z,.n,.U,.U,.U,.I,.U,.V,.V,.V,.n,.n]:Array aA)[k]?=some (.s r.cW)→k=1:=fun k hk=>by
   match k,hk with
   |0,hk=>cases hk
   |1,_=>rfl
   |2,hk=>cases hk
   |3,hk=>cases hk
   |4,hk=>cases hk
   |5,hk=>cases hk
   |6,hk=>cases hk
   |7,hk=>cases hk
   |8,hk=>cases hk
   |9,hk=>cases hk
   |10,hk=>cases hk
   |11,hk=>cases hk
   |12,hk=>cases hk
   |k+13,hk=>simp at hk
  have h1:=h0 _ q0;rw[show off+k*11+1=2 by omega] at q1;cases q1
 exact⟨bx,cs,rfl,hB,gq k6 hl,hE2,hn,(hR.dZ hK (fun k hk _ e=>(hlo k hk).2 e)).mono (fun k hk=>(hlo k hk).1),hb.trans (hK.below hb.size (fun k e=>by have e:k=bx:=e;omega))⟩
def Uw(B:Nat)(w0 w:au)(A:MA)(db:Nat)(E:List aA)(x:cV×kH)(held:Bool)(e:Ending)(w':au):Prop:=iC B w0 w A db E x e w'∧e=.returned (.i (if held=false then 61 else 0))
theorem Eb(h:cZ w0 w A m)(ok:m.Ok N)(hN:N≤80000){r:Nat}(hr:r<m.dP.length){q:di}{o:mH}(hin:zE A.F w q o 0)(ho:cV.OpS o){dh:eF}(hw:IU dh){E:List aA}(hd:DB w db E zR zI)(hX:A.X db)(hB:B≤w.heap.size):
  aT prog 247 #[.p A.mb,.p db,.i r,q.val,Ce dh] w (Uw B w0 w A db E (m.asked r o dh) (m.tok r).held):=by
 obtain⟨tb,htb⟩:∃b,A.tb[r]?=some b:=⟨_,an (by rw[h.tl,ok.tl];exact hr)⟩;obtain⟨tg,nh,wR,htl,htlt,ZZ⟩:=h.data.row r tb htb;obtain⟨UA,op,oa,on,oc,ov,os,oe,qa,qn,qc⟩:=q;obtain⟨s,n⟩:=dh;obtain⟨w1,hw1⟩:=cF (w.alloc (.cells #[.b UA,.s op,.slice oa on oc,.i ov,.bool os,.bool oe,.slice qa qn qc] 35));obtain⟨w2,fH⟩:=cF (w1.alloc (.cells #[.i s,.u n] 31));have dI:cE w w2:=by rw[fH,hw1];exact cT (cT (aJ _ w) _) _
 have hs1:w1.heap.size=w.heap.size+1:=by rw[hw1];simp
 have hk1:w2.heap[w.heap.size]?=some (.cells #[.b UA,.s op,.slice oa on oc,.i ov,.bool os,.bool oe,.slice qa qn qc] 35 (0,0)):=by rw[fH];exact(heap_alloc_old _ _ (by rw[hs1];omega)).trans (by rw[hw1];exact aF w _)
 have hk2:w2.heap[w1.heap.size]?=some (.cells #[.i s,.u n] 31 (0,0)):=by rw[fH];exact aF w1 _
 have h2:=h.below dI;have c3:=h2.cells.2.2.2.1;have QE:=cD (Ie w2 A.kb A.lo m.toks h2.tok r);rw[Ma ok hr] at QE;have sG:Hid (cG 35 7):=cD cJ;have za:Hid (cG 31 2):=cD cJ;have mh:Hid (cG 47 13):=cD iH;have HW:=cD (cC hw1 (cC fH (cC dI (cC hk1 (cC hk2 hs1)))));obtain⟨t,ht⟩:=cF (m.tok r);have HH:=cD (cC h2 (cC ok (cC hN (cC hr (cC (hin.below dI) (cC ho (cC hw (cC (hd.below dI) (cC hX (cC (aC hB dI.size) (cC htb (cC wR ht))))))))))));have HTC:Hid (w2.cell? ⟨tg,nh+r,none⟩=some (.p tb)∧tg<w2.heap.size):=cD ⟨(dI.cell (p:=⟨tg,nh+r,none⟩) htlt).trans ZZ,ah htlt dI.size⟩;rw[←ht] at QE;obtain⟨Ye,wT⟩:∃b,b=t.held:=⟨_,rfl⟩;obtain⟨ep,sO⟩:∃b,b=t.ep:=⟨_,rfl⟩;rw[←wT,←sO] at QE;have Xk:=cD (cC wT sO);have HEQ:Hid (m.asked r o ⟨s,n⟩=if Ye=false then (m,oI 61) else (m.rO r o ⟨s,n⟩,⟨Ca (m.cP r) (m.dQ r) (m.cS r) ⟨s,n⟩ 0 o,PE (m.cP r) (m.dQ r) (m.cS r) ⟨s,n⟩ 0 o,PC (m.cP r) (m.dQ r) (m.cS r) ⟨s,n⟩ 0 o,m.LD r o ⟨s,n⟩⟩)):=cD (by unfold cV.asked;rw[←ht,wT]);rw[←ht,←wT];clear h ok hN hr hin ho hw hd hX hB htb wR htl htlt ZZ hw1 fH dI hs1 hk1 hk2 h2 ht wT sO;unfold di.val di.cells Ce;dsimp only;cases Ye with
 |false=>
  rw[HEQ.out,if_pos rfl];go_enter func247,ntmps247
  go_wp2_with (first|rw[←HW.out.2.1]|rw[←HW.out.1])
  refine QE.out.mono ?_;rintro e w3 ⟨rfl,eO⟩;have mQ:=cD eO;clear eO;go_wp2
  go_ret
  obtain⟨h2,ok,hN,hr,hin,ho,hw,hd,hX,hB,htb,wR,ht⟩:=HH.out;exact⟨gM (h2.below mQ.out) (hd.below mQ.out) 61 (dA (HW.out.2.2.1.trans (mQ.out.mono HW.out.2.2.1.size))),rfl⟩
 |true=>
 rw[HEQ.out,if_neg cM];go_enter func247,ntmps247
 go_wp2_with (first|rw[←HW.out.2.1]|rw[←HW.out.1])
 refine QE.out.mono ?_;rintro e w3 ⟨rfl,eO⟩;rw[if_pos trivial];obtain⟨h2,ok,hN,hr,hin,ho,hw,hd,hX,hB,htb,wR,ht⟩:=HH.out;have h3:=h2.below eO;have hs2:w1.heap.size<w2.heap.size:=af HW.out.2.2.2.2.1;have hs1:=HW.out.2.2.2.2.2;obtain⟨nt,hnt⟩:∃n,n=m.eC.length:=⟨_,rfl⟩;have hrt:(r:Int)<nt:=by rw[hnt,ok.tl];omega
 have Ib:(0:Int)≤r:=by omega
 have aoD:r<nt:=by omega
 have y2:∀w',cE w3 w'→w'.cell? ⟨A.mb,2,none⟩=some (.slice (some ⟨tg,nh,none⟩) nt A.tc):=fun w' hb=>(h3.below hb).cells.2.2.1.trans (by rw[wR,hnt])
 have yr:∀w',cE w3 w'→w'.cell? ⟨tg,nh+r,none⟩=some (.p tb):=fun w' hb=>((eO.trans (hb.mono eO.size)).cell (p:=⟨tg,nh+r,none⟩) HTC.out.2).trans HTC.out.1
 have yo:∀w',cE w3 w'→w'.rangeAt w.heap.size 0 [.b UA,.s op,.slice oa on oc,.i ov,.bool os,.bool oe,.slice qa qn qc]:=fun w' hb=>dJ (((eO.trans (hb.mono eO.size)).block _ cK).trans HW.out.2.2.2.1)
 have ys:∀w',cE w3 w'→w'.rangeAt w1.heap.size 0 [.i s,.u n]:=fun w' hb=>dJ (((eO.trans (hb.mono eO.size)).block _ hs2).trans HW.out.2.2.2.2.1)
 obtain⟨X,FT⟩:=cF (m.rN r o ⟨s,n⟩);have HDO:Hid (∀W,cE w3 W→aT prog 30 #[.p tb,.agg #[.b UA,.s op,.slice oa on oc,.i ov,.bool os,.bool oe,.slice qa qn qc],.agg #[.i s,.u n]] W (fun e w'=>∃u1 cs,e=.returned (.tuple #[u1,.agg cs.toArray])∧(cs:List aA).length=13∧(cs.toArray:Array aA).all (·.oneCell')=true∧iB A.F w' u1 X∧fQ w' (fU W.heap.size) (.agg cs.toArray) (Ca (m.cP r) (m.dQ r) (m.cS r) ⟨s,n⟩ 0 o) (PE (m.cP r) (m.dQ r) (m.cS r) ⟨s,n⟩ 0 o) (PC (m.cP r) (m.dQ r) (m.cS r) ⟨s,n⟩ 0 o)∧cE W w'∧∀b,u1.ownBlock=some b→W.heap.size≤b)):=cD (fun W hW=>by
  refine(((h3.below hW).st ok htb).aeY (h3.below hW).mG.lt ((h3.below hW).mG.tr r tb htb) (by have:=ok.ats r hr;omega) ((hin.below eO).below hW) ⟨s,n⟩).mono ?_;rintro e w' ⟨u1,u2,rfl,q1,q2,q3,q4⟩;obtain⟨rr,ka,kc,pa,pc,rfl,_⟩:=id q2;exact⟨u1,_,rfl,by simp[eL,Raw.cells,eU.cells],by simp[eL,Raw.cells,eU.cells,bJ],by rw[FT];exact q1,q2,q3,q4⟩)
 have H3:=cD (cC h3 (cC eO (cC hs2 (cC hnt FT))));obtain⟨xe,UE⟩:∃x,x=Ca (m.cP r) (m.dQ r) (m.cS r) ⟨s,n⟩ 0 o:=⟨_,rfl⟩;obtain⟨xa,ZU⟩:∃x,x=PE (m.cP r) (m.dQ r) (m.cS r) ⟨s,n⟩ 0 o:=⟨_,rfl⟩;obtain⟨xr,ZS⟩:∃x,x=PC (m.cP r) (m.dQ r) (m.cS r) ⟨s,n⟩ 0 o:=⟨_,rfl⟩;rw[←UE,←ZU,←ZS] at HDO;have BQ:=cD (cC UE (cC ZU ZS));clear UE ZU ZS h2 ok hN hr hin ho hw hd hX hB htb wR ht h3 eO hs2 hnt FT hs1;go_wp2_with fail
 go_cut [13,14] (fun v13 v14 wc=>Uv A.F w3 X xe xa xr v13 v14 wc)
 case first=>
  refine rB fun wd hS=>?_
  refine tI 0 rfl hS ?_;refine tI 1 rfl hS ?_;refine tI 2 rfl hS ?_;refine tJ 3 rfl hS y2 ?_;simp only[cR];refine tI 4 rfl hS ?_;refine tI 5 rfl hS ?_;refine tJ 6 rfl hS yr ?_;refine tL 7 rfl hS 35 (.tmp 8) w.heap.size 0 [.b UA,.s op,.slice oa on oc,.i ov,.bool os,.bool oe,.slice qa qn qc] (fun w' h=>yo w' h) underlying35 sG.out ?_;simp only[cR];refine tL 8 rfl hS 31 (.tmp 9) w1.heap.size 0 [.i s,.u n] (fun w' h=>ys w' h) underlying31 za.out ?_;simp only[cR];refine jR 9 13 rfl rfl cJ cN cN _ _ (by go_simp<;>first|rfl|exact⟨rfl,rfl⟩) (.p wd.heap.size) (wd.alloc (.cells #[.I,.z,.n,.U,.U,.U,.I,.U,.V,.V,.V,.n,.n] 47)) (by go_simp<;>first|rfl|exact⟨rfl,rfl⟩) ?_ (hS.alloc hS.size _) ?_
  ·refine(HDO.out _ hS).mono ?_
   rintro e w6 ⟨u1,cs,rfl,hcl,hco,hE,hR,bd,hn⟩;have B6:=hS.trans (bd.mono hS.size);refine⟨B6,?_⟩
   try dsimp only
   simp only[cR];refine tI 10 rfl B6 ?_;refine tI 11 rfl B6 ?_;refine tI 12 rfl B6 ?_;simp only[cR];have B7:=B6.alloc B6.size (.cells #[.I,.z,.n,.U,.U,.U,.I,.U,.V,.V,.V,.n,.n] 47);refine gI 13 rfl (.p w6.heap.size) (w6.alloc (.cells #[.I,.z,.n,.U,.U,.U,.I,.U,.V,.V,.V,.n,.n] 47)) B7 ?_;simp only[cR];refine tI 14 rfl B7 ?_;simp only[cR];have k7:=aF w6 (.cells #[.I,.z,.n,.U,.U,.U,.I,.U,.V,.V,.V,.n,.n] 47);have ht:(w6.alloc (.cells #[.I,.z,.n,.U,.U,.U,.I,.U,.V,.V,.V,.n,.n] 47)).there w6.heap.size 0 13:=eE k7 cM;have hal:=cT (aJ _ w6) (.cells #[.I,.z,.n,.U,.U,.U,.I,.U,.V,.V,.V,.n,.n] 47);have hpb:=Nb B7 B6.size k7 hcl (hE.below hal) (fun b e=>aC hS.size (hn b e)) ((hR.acX (lo':=fun k=>wd.heap.size≤k∧k<w6.heap.size) (fun k h1 h2=>⟨h1,h2⟩)).aa3 hal) (fun k hk=>⟨aC hS.size hk.1,by omega⟩);obtain⟨_,_,_,_,_,_,_,_,gQ⟩:=id hpb;have hsz:cs.toArray.size=13:=by simpa using hcl
   refine sI 15 rfl 47 (.tmp 14) (.tmp 38) w6.heap.size 0 cs.toArray (by rw[hsz];exact ht) (by rw[hsz];exact mh.out) hco (by simpa using gQ) ?_;simp only[cR];refine wpAnyH_done cJ ?_ _;go_wp2_with fail
   go_meet
   case rel=>simpa using hpb
  skip
  simp only[cR];have b0:=hS.alloc hS.size (.cells #[.I,.z,.n,.U,.U,.U,.I,.U,.V,.V,.V,.n,.n] 47);refine cI 9 rfl ?_;refine(HDO.out _ b0).mono ?_;rintro e w6 ⟨u1,cs,rfl,hcl,hco,hE,hR,bd,hn⟩;have B6:=b0.trans (bd.mono b0.size);refine⟨B6,?_⟩
  try dsimp only
  simp only[cR];refine tI 10 rfl B6 ?_;refine tI 11 rfl B6 ?_;refine tI 12 rfl B6 ?_;refine tI 14 rfl B6 ?_;simp only[cR];have k7:=(bd.block wd.heap.size cM).trans (aF wd (.cells #[.I,.z,.n,.U,.U,.U,.I,.U,.V,.V,.V,.n,.n] 47));have ht:w6.there wd.heap.size 0 13:=eE k7 cM;have hpb:=Nb B6 hS.size k7 hcl hE (fun b e=>by have:=hn b e;rw[cq] at this;have:=hS.size;omega) hR (fun k hk=>by
   have hk:(wd.alloc (.cells #[.I,.z,.n,.U,.U,.U,.I,.U,.V,.V,.V,.n,.n] 47)).heap.size≤k:=hk;rw[cq] at hk;have:=hS.size;exact⟨by omega,by omega⟩)
  obtain⟨_,_,_,_,_,_,_,_,gQ⟩:=id hpb;have hsz:cs.toArray.size=13:=by simpa using hcl
  refine sI 15 rfl 47 (.tmp 14) (.tmp 38) wd.heap.size 0 cs.toArray (by rw[hsz];exact ht) (by rw[hsz];exact mh.out) hco (by simpa using gQ) ?_;simp only[cR];refine wpAnyH_done cJ ?_ _;go_wp2_with fail
  go_meet
  case rel=>simpa using hpb
 case rest=>
 obtain⟨bx,cs,rfl,nJ,kbx,⟨ea,ec,L,rfl,Yn,Ym⟩,hn,hR,gQ⟩:=hcut;obtain⟨rr,ka,kc,pa,pc,adA,_⟩:=id hR;have hcs:cs=eL xe xa.cW rr ka xa.kids.length kc pa xr.length pc:=by simpa using adA
 have hcl:cs.length=13:=by rw[hcs];simp[eL,Raw.cells,eU.cells]
 have hone:(cs.toArray:Array aA).all (·.oneCell')=true:=by rw[hcs];simp[eL,Raw.cells,eU.cells,bJ]
 have hnu:∀x∈cs,∀n,x≠.b n:=by
  rw[hcs];intro x hx n;simp only[eL,Raw.cells,eU.cells,List.cons_append,List.nil_append,aK,aD,or_false] at hx;rcases hx with rfl|rfl|rfl|rfl|rfl|rfl|rfl|rfl|rfl|rfl|rfl|rfl|rfl<;>(intro e;cases e)
 obtain⟨h3,eO,hs2,hnt,FT⟩:=H3.out;obtain⟨h2,ok,hN,hr,hin,ho,hw,hd,hX,hB,htb,wR,ht⟩:=HH.out;have hdc:=(hd.below eO).below gQ;have hc:=h3.below gQ;obtain⟨Qy,hU1⟩:=hdc.acL hcl hnu;have h5:=hc.Mf (o:=23) (cs:=cs) hdc hX hU1;obtain⟨w5,nI⟩:=cF (wc.setCells db 23 cs);have Fj:cQ (·=db) wc w5:=by rw[nI];exact iw wc db 23 cs
 rw[←nI] at Qy hU1 h5;have aiP:db<w3.heap.size:=ah hd.lt eO.size;have l5:gH w5 w5.heap.size ea L:=fun k q hk=>by
  obtain⟨b,off,e1,e2,e3⟩:=Yn k q hk;refine⟨b,off,e1,ah e2 Fj.size,fun j v hv=>(Fj.cell (p:=⟨b,off+k*11+j,none⟩) e2 (fun e=>?_)).trans (e3 j v hv)⟩;have e:b=db:=e;have:=hn b (by rw[e1];rfl);omega
 have jB:=Ym.stay hU1 Fj.size;have FU:=hR.dZ Fj (fun k hk _ e=>by have hk:w3.heap.size≤k:=hk;have e:k=db:=e;omega);have Wq:cQ (fun b=>A.Z b∨b=db) w w5:=by
  have e1:cQ (fun b=>A.Z b∨b=db) w wc:=dA ((HW.out.2.2.1.trans (eO.mono HW.out.2.2.1.size)).trans (gQ.mono (aC HW.out.2.2.1.size eO.size)));exact e1.trans (Fj.mono (fun b _ e=>.inr e))
 have z2:w5.cell? ⟨A.mb,2,none⟩=some (.slice (some ⟨tg,nh,none⟩) nt A.tc):=h5.cells.2.2.1.trans (by rw[wR,hnt]);have zr:w5.cell? ⟨tg,nh+r,none⟩=some (.p tb):=by
  obtain⟨g',off',e1,_,_,e4⟩:=h5.data.row r tb htb;rw[wR] at e1;cases e1;exact e4
 have HRB:=cD (dJ kbx);have yY:Hid (wc.there db 23 13):=cD (hdc.there 23 13 cL);have Xi:=cD nI;have gG:=cD hone;have hsz:cs.toArray.size=13:=by simpa using hcl
 have fm:=cD (cC hcl hsz);obtain⟨nx,qG⟩:∃n,n=X.length:=⟨_,rfl⟩;rw[←qG];have H5:=cD (cC h5 (cC Qy (cC l5 (cC jB (cC FU (cC Wq (cC hn (cC hcs qG))))))));have ai2:w3.heap.size≤wc.heap.size:=gQ.size;clear hR adA hcs hcl hone hnu h3 eO hs2 hnt FT h2 ok hN hr hin ho hw hd hX hB htb wR ht hdc hc Qy hU1 h5 nI Fj aiP l5 jB FU Wq Yn Ym kbx gQ hsz hn qG;by_cases hx0:X=[]
 ·have aiy:decide (0<nx)=false:=by
   have:=H5.out.2.2.2.2.2.2.2.2;rw[hx0] at this;simp at this;simp[this]
  have FJ:=cD hx0;clear hx0;go_wp2_with (first
   |(refine aN rfl 47 (.tmp 14) rfl bx 0 rfl cs _ HRB.out underlying47 rfl (by rw[fm.out.1];exact mh.out) ?_)
   |(refine bK rfl 47 (.tmp 42) (.tmp 40) rfl db 23 cs.toArray rfl rfl (by rw[fm.out.2];exact yY.out) (by rw[fm.out.2];exact mh.out) gG.out ?_;rw[bh,←Xi.out])
   |fail)
  go_ret
  obtain⟨h5,Qy,_,_,FU,Wq,_,_,_⟩:=H5.out;obtain⟨UE,ZU,ZS⟩:=BQ.out;have MV:m.rN r o ⟨s,n⟩=[]:=by rw[←H3.out.2.2.2.2];exact FJ.out
  have e1:m.rO r o ⟨s,n⟩=m:=by unfold cV.rO;rw[if_pos MV]
  have e2:m.LD r o ⟨s,n⟩=mY:=by unfold cV.LD;rw[if_pos MV]
  rw[e1,e2,←UE,←ZU,←ZS];have hB:=HH.out.2.2.2.2.2.2.2.2.2.1;have eO:=H3.out.2.1.size;exact⟨⟨⟨0,xe,cs,qL,[],rfl,Qy,FU.mono (fun k hk=>by have hk:w3.heap.size≤k:=hk;show B≤k;omega),oT _ _,rfl,fun h=>absurd rfl h⟩,⟨A.va,A.vc,A.ov,A.C,h5,fun b e=>.inl e⟩,Wq⟩,rfl⟩
 have aiy:decide (0<nx)=true:=by
  have:=bZ.2 hx0;have:=H5.out.2.2.2.2.2.2.2.2;simp;omega
 have FJ:=cD hx0;obtain⟨h5,Qy,l5,jB,FU,Wq,hn,hcs,qG⟩:=H5.out;obtain⟨h2,ok,hN,hr,hin,ho,hw,hd,hX,hB,htb,wR,ht⟩:=HH.out;obtain⟨h3,eO,hs2,hnt,FT⟩:=H3.out;have ahZ:w3.heap.size≤w5.heap.size:=by rw[Xi.out];exact aC ai2 (iw wc db 23 cs).size
 have QG:=cD ((h5.st ok htb).TU h5.mG.lt (h5.mG.tr r tb htb) (by have:=ok.ats r hr;omega) (hin) (dh:=⟨s,n⟩) (a:=ea) (n:=nx) (c:=ec) (X3:=A.F) ⟨ea,ec,L,by rw[qG,FT];rfl,l5,by rw[FT] at jB;exact jB⟩ (by rw[FT] at hx0;exact hx0));clear h5 Qy l5 jB FU Wq hn hcs qG h2 ok hN hr hin ho hw hd hX hB htb wR ht h3 eO hs2 hnt FT hx0;go_wp2_with (first
  |(refine aN rfl 47 (.tmp 14) rfl bx 0 rfl cs _ HRB.out underlying47 rfl (by rw[fm.out.1];exact mh.out) ?_)
  |(refine bK rfl 47 (.tmp 42) (.tmp 40) rfl db 23 cs.toArray rfl rfl (by rw[fm.out.2];exact yY.out) (by rw[fm.out.2];exact mh.out) gG.out ?_;rw[bh,←Xi.out])
  |fail)
 refine QG.out.mono ?_;rintro e w6 ⟨rfl,⟨S6,F6⟩,K6⟩;obtain⟨h5,Qy,l5,jB,FU,Wq,hn,hcs,qG⟩:=H5.out;obtain⟨h2,ok,hN,hr,hin,ho,hw,hd,hX,hB,htb,wR,ht⟩:=HH.out;obtain⟨h3,eO,hs2,hnt,FT⟩:=H3.out;obtain⟨nd,hnd⟩:∃x,x=IB (m.cP r) (m.dQ r) (m.cS r) ⟨s,n⟩ 0 o:=⟨_,rfl⟩;rw[←hnd] at S6 F6;have hne:nd≠[]:=fun e=>by
  have:=S6.inv.has;rw[e] at this;simp at this
 have h6:=h5.eA (t:=(m.cS r+1,nd)) htb K6 S6.tr F6 hne;have htm:=aj htb;have hdt:db≠tb:=fun e=>(h5.xz db hX).1 (e▸A.zt htm)
 have hd6:=Qy.kept K6 hdt;have htlt:tb<w3.heap.size:=h3.ze (A.zt htm);have hU6:=h5.ku K6 (fun b e=>by have e:b=tb:=e;exact e▸A.zt htm);have DC:gH w6 w6.heap.size ea L:=fun k q hk=>by
  obtain⟨b,off,e1,e2,e3⟩:=l5 k q hk;refine⟨b,off,e1,ah e2 K6.size,fun j v hv=>(K6.cell (p:=⟨b,off+k*11+j,none⟩) e2 (fun e=>?_)).trans (e3 j v hv)⟩;have e:b=tb:=e;have:=hn b (by rw[e1];rfl);omega
 have SE:=jB.stay hU6 K6.size;have SI:=(ok.tree r hr).PB (cS:=m.cS r) (ce:=0) (o:=o) hw (by have:=ok.ats r hr;exact⟨by omega,by omega⟩) ho.data;have ok6:(m.eA r (m.cS r+1,nd)).Ok (N+1):=(ok.mono (by omega:N≤N+1)).eA r (fun _=>by rw[hnd];exact SI.1) (by have:=ok.ats r hr;exact⟨by show 0≤m.cS r+1;omega,by show m.cS r+1≤_;omega⟩);have hXs:∀e∈X,oh e:=by rw[FT];exact SI.2
 have hXl:X.length≤12:=by rw[FT];exact M6 ho.len
 have adM:∀ad,ea=some ad→A.lo ad.block∧ad.block<w6.heap.size:=fun ad e=>by
  have h0:=hn ad.block (by rw[e];rfl);refine⟨⟨fun z=>?_,fun z=>?_⟩,?_⟩
  ·have:=h3.ze z
   omega
  ·have:=(h3.xz _ z).2.2
   omega
  obtain⟨y0,hy0⟩:∃y0,L[0]?=some y0:=by
   have h1:L.length=X.length:=jB.1;have:=bZ.2 FJ.out;exact⟨_,an cK⟩
  obtain⟨b,off,e1,e2,_⟩:=DC 0 y0 hy0;rw[e1] at e;cases e;exact e2
 have hval:eW (cV.qu m r X) ⟨none,0,ea,ec⟩=.agg #[.I,.V,.i r,.v ep,.n,.slice ea nx ec,.U]:=by
  simp only[eW,cU,cV.qu,←ht,←Xk.out.2,qG];rfl
 have HMK:=cD (G0 (x:=cV.qu m r X) (r:=⟨none,0,ea,ec⟩) (L:=L) h6 ok6 cK DC SE adM (by show X.length≤1000;omega) (fun e he=>by have:=(hXs e he).node.data;omega) hd6 hX);rw[hval] at HMK;have US:Hid (fQ w6 (fU w3.heap.size) (.agg cs.toArray) xe xa xr∧cQ (fun b=>A.Z b∨b=db) w w6∧w3.heap.size≤w6.heap.size):=cD ⟨FU.dZ K6 (fun k hk _ e=>by have hk:w3.heap.size≤k:=hk;have e:k=tb:=e;omega),Wq.trans (K6.mono (fun b _ e=>.inl (by have e:b=tb:=e;exact e▸A.zt htm))),aC ahZ K6.size⟩;have Jn:=cD hnd;clear h5 Qy l5 jB FU Wq hn hcs qG h2 ok hN hr hin ho hw hd hX hB htb wR ht h3 eO hs2 hnt FT S6 F6 K6 h6 htm hdt hd6 htlt hU6 DC SE SI ok6 hXs hXl adM hnd hne z2 zr;go_wp2_with fail
 refine HMK.out.mono ?_;rintro e w7 ⟨rfl,hme⟩;have HME:=cD hme;clear hme hval;go_wp2
 go_ret
 obtain⟨⟨va,vc,ov,C,hst,DE⟩,⟨rI,LI,hD,hI⟩,hK⟩:=HME.out;obtain⟨hR6,hK6,aor⟩:=US.out;obtain⟨UE,ZU,ZS⟩:=BQ.out;obtain⟨h3,eO,hs2,hnt,FT⟩:=H3.out;have hB:=HH.out.2.2.2.2.2.2.2.2.2.1;have hX:=HH.out.2.2.2.2.2.2.2.2.1;have hne:m.rN r o ⟨s,n⟩≠[]:=by rw[←FT];exact FJ.out
 have e1:m.rO r o ⟨s,n⟩=(m.eA r (m.cS r+1,nd)).make (cV.qu m r X):=by unfold cV.rO;rw[if_neg hne,FT,Jn.out]
 have e2:m.LD r o ⟨s,n⟩=(m.eA r (m.cS r+1,nd)).item (cV.qu m r X):=by unfold cV.LD;rw[if_neg hne,FT];rfl
 rw[e1,e2,←UE,←ZU,←ZS];have ao6:=eO.size;refine⟨⟨⟨0,xe,cs,rI,LI,rfl,hD,((hR6.dZ hK (fun k hk _ e=>?_)).mono (fun k hk=>by have hk:w3.heap.size≤k:=hk;show B≤k;omega)),hI.mono (fun b hb=>⟨by have hb:w6.heap.size≤b:=hb.1;omega,hb.2⟩),rfl,fun h=>absurd rfl h⟩,⟨va,vc,ov,C,hst,fun b e=>(DE b e).imp id (fun e2=>aC hK6.size e2)⟩,hK6.trans hK⟩,rfl⟩;have hk:w3.heap.size≤k:=hk;rcases e with e|e
 ·have:=h3.ze e
  omega
 have:=(h3.xz _ hX).2.2;omega
end
end
