/- Part 36. -/
import Derived.Test.YtdpaejbaoefdjaaGreatDoorQ35
import Derived.Test.YtdpaejbaoefdjaaGreatDoorQ32
open List renaming getElem?_eq_some_iff → aa,mem_of_getElem? → ag,length_append → ah,getElem?_eq_getElem → an,getElem?_append_left → aq,getElem?_append_right → au,replicate → aD,mem_append → aE,not_mem_nil → aF,getD → aH,mem_iff_getElem? → aI,mem_cons → aK,eq_nil_of_length_eq_zero → aQ,mem_or_eq_of_mem_set → aS,getElem_mem → aT,length_set → aW,getElem?_eq_none → aX,toList_toArray → bu,mem_cons_self → bz,mem_map → bB,getElem?_map → bC,append_assoc → bF,all_eq_true → bG,map_cons → bS,length_replicate → bU,mem_of_mem_take → bX,mem_cons_of_mem → bY,length_pos_iff → cj
open Go renaming lt_of_block → af,World → ay,Value → aA,cell_of_row → aB,heap_alloc_new → aG,heap_setCell_same → aL,wpList_load_mid → aN,Calls → aU,wpIn_wide → aY,callsIn_wide → bg,wpList_store_mid → bM,Addr → bW,ownsRow_succ → cq
open Nat renaming lt_of_lt_of_le → aj,le_trans → aC,zero_add → aR,lt_or_ge → aV,le_of_not_lt → bH,le_refl → bJ
open Go.RowKit.Below renaming refl → aJ
open Go.Lib renaming decDigits → aM
open Bool renaming and_eq_true → aO
open Go.World renaming frozen? → aP,cell?_setCells_out → bN,block_lt_of_cell? → bP,size_alloc → cu
open Option.some renaming injEq → aZ
open Go.Region renaming wanted → bh,ready → bQ
open Array renaming toList_append → bq
open Go.Result.ok renaming injEq → bA
open Go.Value renaming ownBlock → bK,oneCell' → bL
open Go.Addr renaming add_lit → bT
open Go.Builtin renaming zeroCells → bZ,append_ → cm
namespace Go.Proofs.YtdpaejbaoefdjaaGreatDoor
open Go.Proofs.Tryz
set_option maxRecDepth 100000
set_option maxHeartbeats 64000000
set_option linter.unusedVariables false
set_option linter.unusedSimpArgs false
theorem rF{p:cP}(h:(dx p).isSome=true):p.length≤64:=by
 cases p with
 |nil=>simp
 |cons c r=>
 unfold dx at h;by_cases h1:c=47∧r.length<64
 ·have:=h1.2
  simp;omega
 simp only[if_neg h1] at h;cases h
structure fh(root:cP)(M:List (cP×Nd)):Prop where
 inv:Inv root M
 len:M.length≤48
 node:∀x∈M,x.1.length≤64∧Fh x.2
theorem rY.fit{e:gh}(h:rY e):CB e:=⟨by have:=h.path;omega,by have:=h.node.data;omega⟩
section
variable{root:cP}{M:List (cP×Nd)}{at_:Int}{who:dW}
theorem fh.fit(h:fh root M):Fit M:=⟨h.len,fun x hx=>by have:=(h.node x hx).1;omega,fun x hx=>by have:=(h.node x hx).2.data;omega⟩
theorem fh.nice(h:fh root M):kS M:=fun x hx=>(h.node x hx).2.num.next
theorem fh.path(h:fh root M){p:cP}(hp:(dF p M).isSome=true):p.length≤64:=by
 obtain⟨x,hx,rfl⟩:=bB.1 (gW.1 hp);exact(h.node x hx).1
theorem fh.nd(h:fh root M)(p:cP):Fh ((dF p M).getD iN):=by
 cases hg:dF p M with
 |none=>exact Na
 |some d=>
 obtain⟨x,hx,rfl⟩:=pT hg;exact(h.node x hx).2
theorem fh.one(h:fh root M){e:gh}(he:rY e):fh root (nF root M e):=by
 refine⟨h.inv.one e,(h.fit.one he.fit).len,fun x hx=>?_⟩;unfold nF at hx;split at hx
 ·exact h.node x hx
 split at hx
 ·unfold zu at hx
  split at hx
  ·exact h.node x (nP.subset hx)
  exact h.node x hx
 unfold Hw at hx;split at hx
 ·rcases rA hx with rfl|hx
  ·exact⟨he.path,he.node⟩
  exact h.node x hx
 exact h.node x hx
theorem fh.all:∀{E:List gh} {M:List (cP×Nd)},fh root M→(∀e∈E,rY e)→fh root (dM root M E).2
 |[],M,h,_=>h
 |e::E,M,h,hE=>by
  by_cases h0:kW root M e=0
  ·rw[jh h0]
   exact fh.all (h.one (hE e bz)) (fun x hx=>hE x (bY _ hx))
  ·rw[uQ h0]
   exact h
theorem Fh.up{d:Nd}(h:Fh d)(ha:Oy at_):Fh (CT d at_):=⟨h.data,⟨h.num.gS,wF _,h.num.next,h.num.on,h.num.made,h.num.EY,ha⟩,h.os⟩
theorem Fh.PL{d:Nd}(h:Fh d):Fh (Iv d):=⟨h.data,⟨h.num.gS,h.num.C5,wF _,h.num.on,h.num.made,h.num.EY,h.num.DG⟩,h.os⟩
theorem Fh.set{d:Nd}(h:Fh d)(ha:Oy at_){D:cP}(hD:D.length≤64):Fh (CY d D at_):=⟨hD,⟨wF _,h.num.C5,h.num.next,h.num.on,h.num.made,ha,h.num.DG⟩,h.os⟩
def JK(who:dW):Prop:=(0≤who.site∧who.site<3)∧zL who.n
theorem Fh.new(hw:JK who)(ha:Oy at_){D:cP}(hD:D.length≤64)(mM:Bool):Fh (yb D at_ who mM):=by
 have z:zL 0:=⟨by decide,by decide⟩;have z2:(0:Int)≤0∧(0:Int)<3:=⟨by decide,by decide⟩;cases mM
 ·exact⟨hD,⟨z,z,z,z,ha,ha,ha⟩,z2⟩
 exact⟨hD,⟨z,z,z,hw.2,ha,ha,ha⟩,hw.1⟩
theorem wT{p:cP}{d:Nd}(hp:p.length≤64)(hd:Fh d):rY ⟨p,false,d⟩:=⟨hp,hd,fun e=>by cases e⟩
theorem fh.dB(h:fh root M)(hw:JK who)(ha:Oy at_){o:eC}(ho:o.data.length≤64):∀e∈jA root M at_ who o,rY e:=by
 intro e he;unfold jA at he;split at he
 ·cases he
 rename_i h0
 have h0:lN root M who o=0:=by simpa using h0
 unfold V4 at he;split at he
 ·rename_i hk
  obtain⟨hu,hc⟩:=uu hk h0;obtain⟨_,h2,⟨u,h3,_⟩,_,_,_⟩:=qC hc;unfold jo at he;simp only[aK,aF,or_false] at he;rcases he with rfl|rfl
  ·refine wT (h.path (by rw[h3];rfl)) ?_
   unfold lQ;split
   ·exact((h.nd _).up ha).PL
   exact(h.nd _).up ha
  exact wT (rF h2) (Fh.new hw ha ho _)
 split at he
 ·rename_i hk
  obtain⟨hu,hc⟩:=Bp hk h0;obtain⟨h1,h2,_⟩:=vQ hc;obtain⟨d,hd,_⟩:=jT h2;have hs:(dF o.path M).isSome=true:=by rw[hd];rfl
  unfold jK at he;simp only[aK,aF,or_false] at he;rcases he with rfl|rfl
  ·exact⟨h.path hs,Na,fun _=>rfl⟩
  exact wT (h.path (gW.2 (h.inv.parent _ (gW.1 hs) h1))) ((h.nd _).up ha)
 split at he
 ·rename_i hk
  obtain⟨hu,hc⟩:=NF hk h0;obtain⟨d,hd,_⟩:=jT hc;unfold zV at he;simp only[aK,aF,or_false] at he;subst he;exact wT (h.path (by rw[hd];rfl)) ((h.nd _).set ha ho)
 cases he
theorem fh.op(h:fh root M)(hw:JK who)(ha:Oy at_){o:eC}(ho:o.data.length≤64):fh root (od root M at_ who o):=by
 have:=h.all (h.dB hw ha ho)
 rwa [An h.inv o] at this
theorem fh.run(hw:JK who)(ha:Oy at_):∀(l:List eC) {M:List (cP×Nd)},fh root M→(∀o∈l,o.data.length≤64)→fh root (runM root at_ who M l)∧∀e∈lU root at_ who M l,rY e
 |[],M,h,_=>⟨h,fun e he=>by cases he⟩
 |o::l,M,h,hl=>by
  have h1:=h.op hw ha (hl o bz);have h2:=fh.run hw ha l h1 (fun x hx=>hl x (bY _ hx));unfold runM lU;split
  ·refine⟨h2.1,fun e he=>?_⟩
   rcases aE.1 he with he|he
   ·exact h.dB hw ha (hl o bz) e he
   ·exact h2.2 e he
  ·exact⟨h,fun e he=>by cases he⟩
theorem fh.Rf(h:fh root M)(hw:JK who)(ha:Oy (at_+1)){ce:Int}{o:kV}(ho:∀p∈o.seq,p.data.length≤64):fh root (Mt root M at_ who ce o)∧∀e∈zC root M at_ who ce o,rY e:=by
 have h1:=fh.run hw ha o.seq h ho;unfold Mt zC;split
 ·exact⟨h,fun e he=>by cases he⟩
 exact h1
theorem Ol{ce:Int}{o:kV}(h:o.seq.length≤6):(zC root M at_ who ce o).length≤12:=by
 unfold zC;split
 ·simp
 have:=vK (root:=root) (at_:=at_+1) (who:=who) o.seq M;omega
end
theorem fh.new{root:cP}(h:(dx root).isSome=true):fh root [(root,iN)]:=⟨Inv.made h _,by simp,fun x hx=>by
 simp only[aK,aF,or_false] at hx;subst hx;exact⟨rF h,Na⟩⟩
namespace cS
structure Ok(m:cS)(N:Nat):Prop where
 site:m.site<m.v.length
 vl:m.v.length≤3
 vN:∀x∈m.v,x≤N
 tl:m.trees.length=m.dH.length
 kl:m.toks.length=m.dH.length
 rl:m.dH.length≤4
 dH:∀r∈m.dH,r.length≤64
 tree:∀r,r<m.dH.length→fh (m.root r) (m.nodes r)
 ats:∀r,r<m.dH.length→0≤m.at_ r∧m.at_ r≤N
 tok:∀t∈m.toks,t.ep<18446744073709551616∧t.fr.length≤3∧Cu t.fr
 last:m.last≤32
 xV:m.own.length=m.v.getD m.site 0
 own:∀k x,m.own[k]?=some x→x.ew=(m.site:Int)∧x.seq=k+1∧Dq x
theorem je{α:Type}(l:List α)(i j:Nat)(x d:α):(l.set i x).getD j d=if i=j∧j<l.length then x else l.getD j d:=by
 simp only[aH,List.getElem?_set];by_cases h:i=j
 ·subst h
  by_cases h2:i<l.length
  ·simp[h2]
  simp[h2,aX (bH h2)]
 simp[h]
theorem pM(v:List Nat)(i:Nat):(lE v i).length=v.length:=by simp[lE]
theorem F2{v:List Nat}{N:Nat}(h:∀x∈v,x≤N)(i:Nat):∀x∈lE v i,x≤N+1:=fun x hx=>by
 unfold lE at hx;rcases aS hx with h1|h1
 ·have:=h x h1
  omega
 ·subst h1
  by_cases hi:i<v.length
  ·have:=h _ (aT hi)
   simp[aH,an hi];exact this
  ·simp[aH,aX (bH hi)]
section
variable{m:cS}{N:Nat}
theorem Ok.mono(h:m.Ok N){N':Nat}(hN:N≤N'):m.Ok N':=
 ⟨h.site,h.vl,fun x hx=>aC (h.vN x hx) hN,h.tl,h.kl,h.rl,h.dH,h.tree,fun r hr=>by have:=h.ats r hr;omega,h.tok,h.last,h.xV,h.own⟩
theorem Ok.jq(h:m.Ok N)(p:Int×Int):(m.jq p).Ok N:=⟨h.site,h.vl,h.vN,h.tl,h.kl,h.rl,h.dH,h.tree,h.ats,h.tok,h.last,h.xV,h.own⟩
theorem Ok.oH(h:m.Ok N)(r:Nat){t:jw}(ht:t.ep<18446744073709551616∧t.fr.length≤3∧Cu t.fr):(m.oH r t).Ok N:=
 ⟨h.site,h.vl,h.vN,h.tl,by show(m.toks.set r t).length=_;rw[aW];exact h.kl,h.rl,h.dH,h.tree,h.ats,fun x hx=>by
  rcases aS (show x∈m.toks.set r t from hx) with h1|h1
  ·exact h.tok x h1
  ·rw[h1];exact ht,h.last,h.xV,h.own⟩
theorem Ok.dV(h:m.Ok N)(r:Nat){t:Int×List (cP×Nd)}(ht:r<m.dH.length→fh (m.root r) t.2)(ha:0≤t.1∧t.1≤N):(m.dV r t).Ok N:=by
 refine⟨h.site,h.vl,h.vN,by show(m.trees.set r t).length=_;rw[aW];exact h.tl,h.kl,h.rl,h.dH,fun k hk=>?_,fun k hk=>?_,h.tok,h.last,h.xV,h.own⟩
 ·show fh (m.root k) ((m.trees.set r t).getD k (0,[])).2
  rw[je];split
  ·rename_i e
   rw[←e.1] at hk⊢;exact ht hk
  exact h.tree k hk
 show 0≤((m.trees.set r t).getD k (0,[])).1∧((m.trees.set r t).getD k (0,[])).1≤N;rw[je];split
 ·exact ha
 exact h.ats k hk
theorem Ok.vU(h:m.Ok N)(hN:N≤2000000):Cu m.v:=fun x hx=>by have:=h.vN x hx;omega
theorem wO{v:List Nat}(h:∀x∈v,x≤N)(i:Nat):v.getD i 0≤N:=by
 by_cases hi:i<v.length
 ·simp[aH,an hi]
  exact h _ (aT hi)
 simp[aH,aX (bH hi)]
theorem I8(v:List Nat)(i j:Nat):(lE v i).getD j 0=if i=j∧j<v.length then v.getD i 0+1 else v.getD j 0:=je _ _ _ _ _
theorem Ok.make(h:m.Ok N)(hN:N≤2000000){x:gK}(h1:-1≤x.dK∧x.dK<4)(h2:x.ep<18446744073709551616)(h3:x.dB.length≤16∧∀e∈x.dB,rY e)(h4:x.cl<4294967296):(m.make x).Ok (N+1):=by
 have hs:=h.site;have hvl:=h.vl;refine⟨by show m.site<(lE m.v m.site).length;rw[pM];exact h.site,by show(lE m.v m.site).length≤3;rw[pM];exact h.vl,F2 h.vN _,h.tl,h.kl,h.rl,h.dH,h.tree,fun r hr=>by have:=h.ats r hr;exact⟨this.1,by show m.at_ r≤_;omega⟩,h.tok,h.last,?_,fun k y hk=>?_⟩
 ·show(m.own++[m.item x]).length=(lE m.v m.site).getD m.site 0
  rw[I8,if_pos ⟨rfl,h.site⟩,ah,h.xV];rfl
 have hk:(m.own++[m.item x])[k]?=some y:=hk;rcases aV k m.own.length with hlt|hge
 ·rw[aq hlt] at hk
  exact h.own k y hk
 rw[au hge] at hk;have h0:k - m.own.length=0:=by
  have:=(aa.1 hk).1;simp at this;omega
 rw[h0] at hk;simp at hk;subst hk;have hle:=wO h.vN m.site;have hkl:m.v.getD m.site 0=k:=by rw[←h.xV];omega
 refine⟨rfl,by show m.v.getD m.site 0+1=k+1;rw[hkl],⟨⟨by show(0:Int)≤(m.site:Int);omega,by show(m.site:Int)<3;omega⟩,by show m.v.getD m.site 0+1<_;omega,h1,h2,⟨h.vl,h.vU cL⟩,h3,h4⟩⟩
theorem Ok.opens(h:m.Ok N):m.opens.1.Ok N:=by
 unfold cS.opens;split
 ·exact h
 exact⟨h.site,h.vl,h.vN,h.tl,h.kl,h.rl,h.dH,h.tree,h.ats,h.tok,by show m.last+1≤32;omega,h.xV,h.own⟩
theorem Ok.kM(h:m.Ok N)(hN:N≤1000000){y:fR}(hy:mC y):(m.kM y).1.Ok (N+1):=by
 unfold cS.kM;split
 ·exact h.mono cL
 exact(h.jq _).make cL ⟨by show(-1:Int)≤-1;omega,by show(-1:Int)<4;omega⟩ (by show 0<_;omega) ⟨by show 0≤_;omega,fun e he=>by cases he⟩ hy.on
structure OpS(o:kV):Prop where
 len:o.seq.length≤6
 data:∀p∈o.seq,p.data.length≤64
theorem Ok.oT(h:m.Ok N)(hN:N≤1000000){r:Nat}(hr:r<m.dH.length){o:kV}(ho:OpS o){who:dW}(hw:JK who):(m.oT r o who).Ok (N+1)∧(∀e∈m.xl r o who,rY e)∧(m.xl r o who).length≤12:=by
 have ha:=h.ats r hr;have hd:=(h.tree r hr).Rf (at_:=m.at_ r) (ce:=0) (o:=o) hw ⟨by omega,by omega⟩ ho.data;have hl:(m.xl r o who).length≤12:=Ol ho.len;refine⟨?_,hd.2,hl⟩;unfold cS.oT;split
 ·exact h.mono cL
 have h1:(m.dV r (m.at_ r+1,Mt (m.root r) (m.nodes r) (m.at_ r) who 0 o)).Ok (N+1):=(h.mono (by omega:N≤N+1)).dV r (fun _=>hd.1) ⟨by show 0≤m.at_ r+1;omega,by show m.at_ r+1≤_;omega⟩;have ht:(m.tok r).ep<18446744073709551616:=by
  have hk:r<m.toks.length:=by rw[h.kl];exact hr
  have:=(h.tok _ (aT hk)).1;unfold cS.tok;simp[aH,an hk];exact this
 have hrl:=h.rl;have h2:(m.dV r (m.at_ r+1,Mt (m.root r) (m.nodes r) (m.at_ r) who 0 o)).v=m.v:=rfl;have h3:((m.dV r (m.at_ r+1,Mt (m.root r) (m.nodes r) (m.at_ r) who 0 o)).make (m.oS r (m.xl r o who))).Ok (N+1+1):=h1.make cL ⟨by show(-1:Int)≤(r:Int);omega,by show(r:Int)<4;omega⟩ ht ⟨by show(m.xl r o who).length≤16;omega,hd.2⟩ (show(0:Nat)<4294967296 by decide);refine⟨h3.site,h3.vl,?_,h3.tl,h3.kl,h3.rl,h3.dH,h3.tree,fun k hk=>?_,h3.tok,h3.last,h3.xV,h3.own⟩
 ·exact F2 h.vN _
 have:=h1.ats k hk;exact this
theorem Ok.asked(h:m.Ok N)(hN:N≤1000000){r:Nat}(hr:r<m.dH.length){o:kV}(ho:OpS o){who:dW}(hw:JK who):(m.asked r o who).1.Ok (N+1):=by
 unfold cS.asked;split
 ·exact h.mono cL
 exact(h.oT hN hr ho hw).1
theorem EZ{y:fR}(hy:mC y)(h:uP y=0):OpS ⟨y.op,y.parts⟩:=by
 unfold uP gz at h;refine⟨?_,fun p hp=>?_⟩
 ·unfold kV.seq
  dsimp only;split
  ·exact hy.pl
  simp
 unfold kV.seq at hp;dsimp only at hp;split at hp
 ·exact(hy.parts p hp).data
 simp only[aK,aF,or_false] at hp;subst hp;exact hy.op.data
theorem abd(L:List cP)(p:cP):Ao L p<L.length:=by
 rcases Th L p with ⟨h,_⟩|⟨i,r,hi,_,_,h,_⟩
 ·unfold Ao
  rw[h];show(-1:Int)<_;omega
 unfold Ao;rw[h];show(i:Int)<_;omega
theorem Fe{L P:List cP}(h:(jH L P).2=0):0≤(jH L P).1∧(jH L P).1<L.length:=by
 cases P with
 |nil=>cases h
 |cons x P=>
 unfold jH at h⊢;by_cases h1:Ao L x<0∨(x::P).any (fun y=>Ao L y != Ao L x)=true
 ·simp only[if_pos h1] at h
  cases h
 simp only[if_neg h1];have h0:¬Ao L x<0:=fun e=>h1 (.inl e)
 exact⟨by omega,abd L x⟩
theorem Ok.write(h:m.Ok N)(hN:N≤1000000){y:fR}(hy:mC y):(m.write y).1.Ok (N+1):=by
 unfold cS.write;split
 ·exact h.mono cL
 rename_i h1
 split
 ·exact h.mono cL
 split
 ·exact h.mono cL
 rename_i h3
 have h4:=Fe (show(jH m.dH (if y.parts.map (·.path)=[] then [y.op.path] else y.parts.map (·.path))).2=0 from Decidable.not_not.1 h3);exact h.asked hN (by show(jH m.dH (if y.parts.map (·.path)=[] then [y.op.path] else y.parts.map (·.path))).1.toNat<m.dH.length;omega) (EZ hy (by simpa using h1)) ⟨hy.os,by have:=hy.on;exact⟨by show(0:Int)≤(y.on:Int);omega,by show(y.on:Int)<_;omega⟩⟩
theorem TJ{x:gK}{s n:Nat}(h:oM x s n=true)(hc:¬0<x.cl):0≤x.dK∧x.dK<n:=by
 unfold oM at h;simp only[aO] at h;have h2:=h.2;have hc:x.cl=0:=by omega
 simp[hc] at h2;exact⟨h2.1.1.1,h2.1.1.2⟩
theorem Ok.take(h:m.Ok N)(hN:N≤1000000){x:gK}(hx:Dq x):(m.take x).1.Ok (N+1):=by
 unfold cS.take;split
 ·exact h.mono cL
 rename_i ht
 have ht:m.takes x=true:=by simpa using ht
 unfold cS.takes at ht;simp only[aO,Bool.or_eq_true,decide_eq_true_eq,Bool.not_eq_true',decide_eq_false_iff_not] at ht;obtain⟨⟨⟨t1,t2⟩,t3⟩,t4⟩:=ht;have Ab:∀m1:cS,m1.Ok (N+1)→m1.v=m.v→m1.site=m.site→m1.own=m.own→({m1 with v:=lE m.v x.ew.toNat}:cS).Ok (N+1):=fun m1 o e1 e2 e3=>by
  have hne:¬(x.ew.toNat=m.site∧m.site<m.v.length):=fun e=>t2 (by have:=hx.ew.1;omega)
  refine⟨by show m1.site<(lE m.v _).length;rw[pM,←e1];exact o.site,by show(lE m.v _).length≤3;rw[pM];exact h.vl,F2 h.vN _,o.tl,o.kl,o.rl,o.dH,o.tree,o.ats,o.tok,o.last,?_,o.own⟩;show m1.own.length=(lE m.v x.ew.toNat).getD m1.site 0;rw[I8,e2,if_neg hne,e3];exact h.xV
 unfold cS.DH;dsimp only;split
 ·exact Ab _ ((h.mono cL).jq _) rfl rfl rfl
 rename_i hc
 have akj:=TJ t1 hc;have hr:x.dK.toNat<m.dH.length:=by omega
 have ha:=h.ats _ hr;exact Ab _ ((h.mono (by omega:N≤N+1)).dV _ (fun _=>(h.tree _ hr).all hx.dB.2) ⟨by show 0≤m.at_ _+1;omega,by show m.at_ _+1≤_;omega⟩) rfl rfl rfl
theorem Ok.VZ(h:m.Ok N){y:fR}(hy:mC y):(m.VZ y).1.Ok N:=by
 unfold cS.VZ;split
 ·exact h
 split
 ·exact h
 split
 ·exact h
 exact h.oH _ ⟨hy.ep,hy.fr⟩
theorem Ok.CU(h:m.Ok N)(hN:N≤1000000){y:fR}(hy:mC y):(m.CU y).1.Ok N:=by
 unfold cS.CU;split
 ·exact h
 split
 ·exact h
 exact h.oH _ ⟨hy.ep,h.vl,h.vU cL⟩
theorem WW(r:Nat):OpS (m.tG r):=by
 unfold tG;refine⟨?_,fun p hp=>?_⟩
 ·unfold kV.seq
  dsimp only;rw[if_pos rfl,List.length_map,List.length_take];omega
 unfold kV.seq at hp;dsimp only at hp;rw[if_pos rfl] at hp;obtain⟨q,_,rfl⟩:=bB.1 hp;simp
theorem Ok.qM(h:m.Ok N)(hN:N≤1000000)(r:Int):(m.qM r).1.Ok (N+1):=by
 unfold cS.qM;split
 ·exact h.mono cL
 rename_i hr
 unfold cS.out at hr;split
 ·exact h.mono cL
 split
 ·exact h.mono cL
 exact(h.oT hN cL (WW _) ⟨⟨by decide,by decide⟩,⟨by decide,by decide⟩⟩).1
theorem Ok.apply(h:m.Ok N)(hN:N≤1000000){y:fR}(hy:mC y):(m.apply y).1.Ok (N+1):=by
 unfold cS.apply;split
 ·exact h.write hN hy
 ·exact h.opens.mono cL
 ·exact h.kM hN hy
 ·exact h.take hN hy.dY
 ·exact(h.VZ hy).mono cL
 ·exact(h.CU hN hy).mono cL
 ·exact h.qM hN _
 exact h.mono cL
end
theorem Ok.new{site sites:Nat}{dH:List cP}(h1:site<sites)(h2:sites≤3)(h3:dH.length≤4)(h4:∀r∈dH,(dx r).isSome=true):(cS.new site sites dH).Ok 0:=by
 unfold cS.new;refine⟨by simp;exact h1,by simp;exact h2,fun x hx=>by have:=List.eq_of_mem_replicate hx;omega,by simp,by simp,h3,fun r hr=>rF (h4 r hr),fun r hr=>?_,fun r hr=>?_,fun t ht=>?_,by simp,?_,fun k x hk=>by simp at hk⟩
 ·have hr:r<dH.length:=hr
  have e1:(cS.mk site dH (dH.map (fun r=>((0:Int),[(r,iN)]))) (dH.map (fun _=>iL)) 0 [] (aD sites 0) []).nodes r=[(dH[r],iN)]:=by
   unfold cS.nodes;simp[aH,bC,an hr]
  have e2:(cS.mk site dH (dH.map (fun r=>((0:Int),[(r,iN)]))) (dH.map (fun _=>iL)) 0 [] (aD sites 0) []).root r=dH[r]:=by
   unfold cS.root;simp[aH,an hr]
  rw[e1,e2];exact fh.new (h4 _ (aT hr))
 ·have hr:r<dH.length:=hr
  unfold cS.at_;simp[aH,bC,an hr]
 ·obtain⟨_,_,rfl⟩:=bB.1 ht
  exact⟨by decide,by decide,fun v hv=>by cases hv⟩
 simp[aH,List.getElem?_replicate];split<;>rfl
end cS
section
theorem sK:∀v:List Nat,gq v v=true
 |[]=>rfl
 |x::v=>by simp[gq,sK v]
theorem wj:∀{a b:List Nat},gq a b=true→a.length=b.length
 |[],[],_=>rfl
 |[],_::_,h=>by simp[gq] at h
 |_::_,[],h=>by simp[gq] at h
 |x::a,y::b,h=>by
  simp only[gq,aO] at h;simp[wj h.2]
theorem ux:∀{a b c:List Nat},gq a b=true→gq b c=true→gq a c=true
 |[],[],[],_,_=>rfl
 |[],[],_::_,_,h=>by simp[gq] at h
 |[],_::_,_,h,_=>by simp[gq] at h
 |_::_,[],_,h,_=>by simp[gq] at h
 |_::_,_::_,[],_,h=>by simp[gq] at h
 |x::a,y::b,z::c,h,k=>by
  simp only[gq,aO,decide_eq_true_eq] at h k⊢;exact⟨by omega,ux h.2 k.2⟩
theorem IS:∀(v:List Nat) (i n:Nat),v.getD i 0≤n→gq v (v.set i n)=true
 |[],_,_,_=>rfl
 |x::v,0,n,h=>by
  simp only[List.set_cons_zero,gq,aO,decide_eq_true_eq];exact⟨by simpa using h,sK v⟩
 |x::v,i+1,n,h=>by
  simp only[List.set_cons_succ,gq,aO,decide_eq_true_eq];exact⟨bJ _,IS v i n (by simpa using h)⟩
theorem BD(v:List Nat)(i:Nat):gq v (lE v i)=true:=IS v i _ cL
theorem Ef:∀v:List Nat,gq (aD v.length 0) v=true
 |[]=>rfl
 |x::v=>by
  show gq (0::aD v.length 0) (x::v)=true;simp[gq,Ef v]
namespace cS
structure Step(m m':cS):Prop where
 site:m'.site=m.site
 dH:m'.dH=m.dH
 mv:(m'.own=m.own∧gq m.v m'.v=true)∨(∃x,m'.own=m.own++[m.item x]∧m'.v=lE m.v m.site)
theorem Step.refl(m:cS):Step m m:=⟨rfl,rfl,.inl ⟨rfl,sK _⟩⟩
theorem Step.leq{m m':cS}(h:Step m m'):gq m.v m'.v=true:=by
 rcases h.mv with ⟨_,h⟩|⟨x,_,h⟩
 ·exact h
 rw[h];exact BD _ _
theorem Step.len{m m':cS}(h:Step m m'):m'.v.length=m.v.length:=(wj h.leq).symm
theorem Step.make{m m1:cS}(h1:m1.site=m.site)(h2:m1.dH=m.dH)(h3:m1.own=m.own)(h4:m1.v=m.v)(x:gK):Step m (m1.make x):=by
 refine⟨h1,h2,.inr ⟨x,?_,?_⟩⟩
 ·show m1.own++[m1.item x]=_
  have:m1.item x=m.item x:=by unfold cS.item;rw[h1,h4]
  rw[this,h3]
 show lE m1.v m1.site=_;rw[h4,h1]
theorem Step.same{m m1:cS}(h1:m1.site=m.site)(h2:m1.dH=m.dH)(h3:m1.own=m.own)(h4:m1.v=m.v):Step m m1:=⟨h1,h2,.inl ⟨h3,by rw[h4];exact sK _⟩⟩
theorem DI(m:cS)(r:Nat)(o:kV)(who:dW):Step m (m.oT r o who):=by
 unfold cS.oT;split
 ·exact Step.refl m
 refine Step.make ?_ ?_ ?_ ?_ _<;>rfl
theorem Kt(m:cS)(r:Nat)(o:kV)(who:dW):Step m (m.asked r o who).1:=by
 unfold cS.asked;split
 ·exact Step.refl m
 exact DI m r o who
theorem AH(m:cS)(y:fR):Step m (m.apply y).1:=by
 unfold cS.apply;split
 ·unfold cS.write
  split
  ·exact Step.refl m
  split
  ·exact Step.refl m
  split
  ·exact Step.refl m
  exact Kt m _ _ _
 ·unfold cS.opens
  split
  ·exact Step.refl m
  exact Step.same rfl rfl rfl rfl
 ·unfold cS.kM
  split
  ·exact Step.refl m
  refine Step.make ?_ ?_ ?_ ?_ _<;>rfl
 ·unfold cS.take
  split
  ·exact Step.refl m
  unfold cS.DH;by_cases h:0<y.dY.cl
  ·simp only[if_pos h]
   exact⟨rfl,rfl,.inl ⟨rfl,BD _ _⟩⟩
  simp only[if_neg h];exact⟨rfl,rfl,.inl ⟨rfl,BD _ _⟩⟩
 ·unfold cS.VZ
  split
  ·exact Step.refl m
  split
  ·exact Step.refl m
  split
  ·exact Step.refl m
  exact Step.same rfl rfl rfl rfl
 ·unfold cS.CU
  split
  ·exact Step.refl m
  split
  ·exact Step.refl m
  exact Step.same rfl rfl rfl rfl
 ·unfold cS.qM
  split
  ·exact Step.refl m
  split
  ·exact Step.refl m
  split
  ·exact Step.refl m
  exact DI m _ _ _
 exact Step.refl m
structure zT(m:cS):Prop where
 top:∀x∈m.own,gq x.stamp m.v=true
 up:∀(j:Nat) x y,m.own[j]?=some x→m.own[j+1]?=some y→gq x.stamp y.stamp=true
theorem zT.new(site sites:Nat)(dH:List cP):(cS.new site sites dH).zT:=⟨fun x hx=>by simp[cS.new] at hx,fun j x y hx=>by simp[cS.new] at hx⟩
theorem zT.step{m m':cS}(h:m.zT)(s:Step m m'):m'.zT:=by
 have hl:=s.leq;rcases s.mv with ⟨h1,_⟩|⟨x,h1,h2⟩
 ·refine⟨fun y hy=>?_,fun j y z hy hz=>?_⟩
  ·rw[h1] at hy
   exact ux (h.top y hy) hl
  rw[h1] at hy hz;exact h.up j y z hy hz
 refine⟨fun y hy=>?_,fun j y z hy hz=>?_⟩
 ·rw[h1] at hy
  rcases aE.1 hy with hy|hy
  ·exact ux (h.top y hy) hl
  simp at hy;subst hy;exact hl
 rw[h1] at hy hz;rcases aV (j+1) m.own.length with hlt|hge
 ·rw[aq cL] at hy
  rw[aq hlt] at hz;exact h.up j y z hy hz
 rw[au hge] at hz;have h0:j+1 - m.own.length=0:=by
  have:=(aa.1 hz).1;simp at this;omega
 rw[h0] at hz;simp at hz;subst hz;rw[aq cL] at hy;exact h.top y (ag hy)
end cS
end
section
open Go.RowKit Go.Shelf Go.MapKept Go.ChangeMaps
def JZ(w:ay)(b:Nat):Prop:=∀o v,w.cell? ⟨b,o,none⟩=some v→Qt v
def NoU(w:ay)(b:Nat):Prop:=∀o n,w.cell? ⟨b,o,none⟩≠some (.b n)
theorem JZ.Tn{w:ay}{b:Nat}(h:JZ w b):NoU w b:=fun o n e=>(h o _ e).1 n rfl
theorem Xl{w:ay}{b:Nat}{cs:Array aA}{t:TypeId}{fr:Nat×Nat}(h:w.heap[b]?=some (.cells cs t fr))(hu:∀x∈cs.toList,∀n,x≠.b n):NoU w b:=fun o n e=>by
 rw[aB w b o cs t fr h] at e;exact hu _ (by simpa using Array.mem_of_getElem? e) n rfl
theorem Xm{w:ay}{b:Nat}{es:Array MapEntry}{c:Nat}(h:w.heap[b]?=some (.map es c)):JZ w b:=fun o v e=>by
 simp[World.cell?,h] at e
def kj(w w':ay):Prop:=∀b o n,w.cell? ⟨b,o,none⟩=some (.b n)→w'.cell? ⟨b,o,none⟩=some (.b n)
theorem Kept.bytes{S:Nat→Prop}{w w':ay}(hk:Kept S w w')(hq:∀b,S b→NoU w b):kj w w':=fun b o n h=>by
 by_cases hs:S b
 ·exact absurd h (hq b hs o n)
 ·exact(hk.cell (p:=⟨b,o,none⟩) (bP _ _ h) hs).trans h
theorem oD{w w':ay}(hb:cF w w'):kj w w':=fun b o n h=>(hb.cell (p:=⟨b,o,none⟩) (bP _ _ h)).trans h
theorem yh{w:ay}{B o:Nat}{cs:List aA}(h:∀j n,j<cs.length→w.cell? ⟨B,o+j,none⟩≠some (.b n)):kj w (w.setCells B o cs):=fun b k n e=>by
 by_cases hb:b=B
 ·subst hb
  by_cases hk:o≤k∧k<o+cs.length
  ·obtain⟨j,rfl⟩:∃j,k=o+j:=⟨k - o,by omega⟩
   exact absurd e (h j n cL)
  ·rw[bN _ _ _ _ _ (fun _ _=>by show k<o∨o+cs.length≤k;omega)]
   exact e
 ·rw[bN _ _ _ _ _ (fun e' _=>absurd e' hb)]
  exact e
theorem LA{w:ay}{B o:Nat}{u:aA}(h:∀n,w.cell? ⟨B,o,none⟩≠some (.b n)):kj w (w.setCell ⟨B,o,none⟩ u):=by
 have:=yh (w:=w) (B:=B) (o:=o) (cs:=[u]) (fun j n hj=>by
  have:j=0:=by simp at hj;omega
  subst this;exact h n)
 exact this
section
variable{w w':World}{lo:Nat→Prop}
theorem eB.stay{hi:Nat}{a:Option bW}{D:cP}(h:eB w lo hi a D)(hu:kj w w'):eB w' lo hi a D:=fun j c hj=>by
 obtain⟨b,off,h1,h2,h3,h4⟩:=h j c hj;exact⟨b,off,h1,h2,h3,hu _ _ _ h4⟩
theorem Reads.stay{r:Raw}{d:Nd}(h:Reads w lo r d)(hu:kj w w')(hs:w.heap.size≤w'.heap.size):Reads w' lo r d:=
 ⟨h.num,h.len,(h.data.stay hu).mono (fun _ h=>h) hs,h.nil⟩
theorem eV.stay{L:List cZ}{E:List gh}(h:eV w lo L E)(hu:kj w w')(hs:w.heap.size≤w'.heap.size):eV w' lo L E:=⟨h.1,fun k r e h1 h2=>by
 obtain⟨g1,g2,g3⟩:=h.2 k r e h1 h2;exact⟨g1,g2,g3.stay hu hs⟩⟩
def kR(w:ay)(k:Nat):Prop:=∀m:List (cP×Raw),m≠[]→¬dL prog 9 sv Raw.val w k m
theorem gQ{k:Nat}{cs:Array aA}{t:TypeId}{fr:Nat×Nat}(h:w.heap[k]?=some (.cells cs t fr)):kR w k:=fun m _ hm=>by
 obtain⟨es,c,h1,_⟩:=hm;rw[h] at h1;cases h1
theorem It{k:Nat}{g:List (Int×Int)}(h:dL prog 31 sk Value.bool w k (g.map (·,true))):kR w k:=fun m hm h2=>by
 obtain⟨es,c,e1,_,_,e2⟩:=h;obtain⟨es2,c2,f1,_,_,f2⟩:=h2;rw[e1] at f1;cases f1;rw[e2] at f2
 match m,hm with
 |x::m,_=>
  match g with
  |[]=>simp at f2
  |y::g=>
   simp only[bS,List.cons.injEq,Prod.mk.injEq] at f2;have:=f2.1.2;unfold Raw.val at this;cases this
theorem TR.iJ{w0:ay}{b:Nat}{root:cP}{at_:Int}{M:List (cP×Nd)}(R:TR w0 w b root at_ M){S:Nat→Prop}(hk:Kept S w w')(hu:kj w w')(hb:¬S b)(hS:∀k,S k→kR w k∧w0.heap.size≤k)(hne:M≠[]):TR w0 w' b root at_ M:=by
 obtain⟨lo,mb,T⟩:=R.tree;obtain⟨m,hm,hl⟩:=T.map;have hmb:¬S mb:=fun e=>(hS mb e).1 m (fun e=>hne (by have:=hl.len;rw[e] at this;exact aQ (by simpa using this.symm))) hm
 exact⟨⟨lo,mb,⟨(hk.block b (af T.blk) hb).trans T.blk,m,hm.kept hk hmb,hl.imp fun r d h=>h.stay hu hk.size⟩⟩,R.bl.trans (hk.below R.bl.size (fun k e=>(hS k e).2)),R.hb,R.fit,R.rl,R.hm⟩
theorem jx.stay{X:Nat→Prop}{b:Nat}{root:cP}{at_:Int}{M:List (cP×Nd)}(F:jx X w b root at_ M){S:Nat→Prop}(hk:Kept S w w')(hu:kj w w')(hb:¬S b)(hS:∀k,S k→kR w k)(hne:M≠[]):jx X w' b root at_ M:=by
 obtain⟨lo,mb,T,hlo⟩:=F;obtain⟨m,hm,hl⟩:=T.map;have hmb:¬S mb:=fun e=>hS mb e m (fun e=>hne (by have:=hl.len;rw[e] at this;exact aQ (by simpa using this.symm))) hm
 exact⟨lo,mb,⟨(hk.block b (af T.blk) hb).trans T.blk,m,hm.kept hk hmb,hl.imp fun r d h=>h.stay hu hk.size⟩,hlo⟩
theorem jx.Su{X:Nat→Prop}{b:Nat}{root:cP}{at_:Int}{M:List (cP×Nd)}(F:jx X w b root at_ M){S:Nat→Prop}(hk:Kept S w w')(hb:¬S b)(hS:∀k,S k→X k∧kR w k)(hne:M≠[]):jx X w' b root at_ M:=by
 obtain⟨lo,mb,T,hlo⟩:=F;obtain⟨m,hm,hl⟩:=T.map;have hmb:¬S mb:=fun e=>(hS mb e).2 m (fun e=>hne (by have:=hl.len;rw[e] at this;exact aQ (by simpa using this.symm))) hm
 exact⟨lo,mb,T.dP hk (fun k h e=>hlo k h (hS k e).1) hb hmb,hlo⟩
theorem jx.tr{X:Nat→Prop}{w0:ay}{b:Nat}{root:cP}{at_:Int}{M:List (cP×Nd)}(F:jx X w' b root at_ M)(R:TR w0 w b root at_ M)(hb:cF w0 w'):TR w0 w' b root at_ M:=by
 obtain⟨lo,mb,T,_⟩:=F;exact⟨⟨lo,mb,T⟩,hb,R.hb,R.fit,R.rl,R.hm⟩
theorem TR.Tn{w0:ay}{b:Nat}{root:cP}{at_:Int}{M:List (cP×Nd)}(R:TR w0 w b root at_ M):NoU w b:=by
 obtain⟨lo,mb,T⟩:=R.tree;refine Xl T.blk (fun x hx n=>?_);simp at hx;rcases hx with rfl|rfl|rfl<;>(intro e;cases e)
theorem TR.mo{w0:ay}{b:Nat}{root:cP}{at_:Int}{M:List (cP×Nd)}(R:TR w0 w b root at_ M):kR w b:=by
 obtain⟨lo,mb,T⟩:=R.tree;exact gQ T.blk
structure rW(w:ay)(lo:Nat→Prop)(r:dS)(L:List cZ)(x:gK):Prop where
 stamp:dr w lo r.sa x.stamp
 like:eV w mR L x.dB
 row:gC w w.heap.size r.ea L
 new:∀ad,r.ea=some ad→lo ad.block∧ad.block<w.heap.size
theorem rW.iJ{r:dS}{L:List cZ}{x:gK}(h:rW w lo r L x){S:Nat→Prop}(hk:Kept S w w')(hu:kj w w')(hS:∀b,lo b→b<w.heap.size→¬S b):rW w' lo r L x:=by
 refine⟨h.stamp.kept hk hS,h.like.stay hu hk.size,fun k q hq=>?_,fun ad e=>⟨(h.new ad e).1,aj (h.new ad e).2 hk.size⟩⟩;obtain⟨b,off,e1,e2,e3⟩:=h.row k q hq;exact⟨b,off,e1,aj e2 hk.size,fun j v hv=>(hk.cell (p:=⟨b,off+k*11+j,none⟩) e2 (hS b (h.new _ e1).1 e2)).trans (e3 j v hv)⟩
theorem rW.at_{r:dS}{L:List cZ}{x:gK}(h:rW w lo r L x):eu w mR r L x:=⟨h.stamp.mono (fun _ _ _=>trivial),h.like,h.row,fun _ _=>trivial⟩
theorem rW.mono{lo':Nat→Prop}{r:dS}{L:List cZ}{x:gK}(h:rW w lo r L x)(hl:∀b,b<w.heap.size→lo b→lo' b):rW w lo' r L x:=⟨h.stamp.mono hl,h.like,h.row,fun ad e=>⟨hl _ (h.new ad e).2 (h.new ad e).1,(h.new ad e).2⟩⟩
theorem gG.iJ{a:Option bW}{L:List cP}(h:gG w lo a L){S:Nat→Prop}(hk:Kept S w w')(hS:∀b,lo b→b<w.heap.size→¬S b):gG w' lo a L:=h.dP hk hS
end
def mA(w:ay)(v:aA)(p:aA→Prop):Prop:=∀g,v.ownBlock=some g→∃cur t fr,w.heap[g]?=some (.cells cur t fr)∧∀x∈cur.toList,p x
theorem mA.kept{w w':ay}{v:aA}{p:aA→Prop}(h:mA w v p){S:Nat→Prop}(hk:Kept S w w')(hS:∀g,v.ownBlock=some g→¬S g):mA w' v p:=fun g hg=>by
 obtain⟨cur,t,fr,h1,h2⟩:=h g hg;exact⟨cur,t,fr,(hk.block g (af h1) (hS g hg)).trans h1,h2⟩
theorem mA.q{w:ay}{v:aA}(h:mA w v (fun x=>J1 x=true)){g:Nat}(hg:v.ownBlock=some g):JZ w g:=by
 obtain⟨cur,t,fr,h1,h2⟩:=h g hg;exact rS h1 (bG.2 h2)
theorem qY{P:Program}{w:ay}(base:Nat)(t ty e:TypeId)(i:TypeInfo)(z:aA)(size bytes:Nat)(ht:P.underlying t=some (.slice e))(hi:P.info? e=some i)(hz:i.zero=some z)
  (hsize:i.size=size) (hby:i.bytes=bytes) (hzs:z.cells.size=size) (hsz:0<size)
  (v:aA) (n:Nat) (xs:List aA) (hown:w.ownsRow base e size v n xs)
  (a:bW) (m c:Nat) (news:List aA) (hl:news.length=m*size) (hnews:∀j u,news[j]?=some u→w.cell? (a.add j)=some u) (h1:∀u∈news,u.oneCell'=true)
  (h63:n+m≤maxLen) (hbytes:(n+m)*bytes≤140737488355328) (hbase:base≤w.heap.size) (p:aA→Prop) (hp:mA w v p) (N5:∀x∈news,p x) (hpz:∀x∈z.cells.toList,p x) (hm:0<m):
  ∃v' w',(cm #[t,t] ty #[v,.slice (some a) m c]).run P w=.ok v' w'∧w'.ownsRow base e size v' (n+m) (xs++news)∧w.grownBy w' v.ownBlock∧
   (∀k,v'.ownBlock=some k→v.ownBlock=some k∨w.heap.size≤k)∧mA w' v' p:=by
 obtain⟨v',w',hr,h2,h3,h4⟩:=gv (P:=P) (w:=w) base t ty e i z size bytes ht hi hz hsize hby hzs hsz v n xs hown a m c news hl hnews h1 h63 hbytes hbase;refine⟨v',w',hr,h2,h3,h4,?_⟩;have zc:∀k,∀x∈(bZ z.cells k).toList,p x:=fun k x hx=>by
  unfold bZ at hx;rw[Array.toList_map] at hx;obtain⟨i,_,rfl⟩:=bB.1 hx;have hlt:i % z.cells.size<z.cells.size:=Nat.mod_lt _ cL;rw[getElem!_pos z.cells _ hlt];exact hpz _ (Array.mem_toList_iff.2 (Array.getElem_mem hlt))
 subst hsize;subst hby;rcases hown.2 with ⟨rfl,h0⟩|⟨g,cap,cur,rfl,zn,hg,hnc,hcm,hcs,QE⟩
 ·subst h0
  have hr2:=run_append_nil (P:=P) w t ty e i z ht hi hz a m c news hl hnews hm (by unfold maxLen at h63;omega) (by have hb:=hbytes;simp only[aR] at hb;omega);rw[hr] at hr2;simp only[bA] at hr2;obtain⟨e1,e2⟩:=hr2;rw[e1,e2];intro g hg;simp only[bK,aZ] at hg;subst hg;refine⟨_,_,_,aG w.drew _,fun x hx=>?_⟩;rw[bq] at hx;rcases aE.1 hx with hx|hx
  ·exact N5 x (by simpa using hx)
  exact zc _ x hx
 obtain⟨ari,t2,fr2,hg2,hall⟩:=hp g rfl;rw[hg] at hg2;cases hg2;by_cases hroom:n+m≤cap
 ·have hfit:n*i.size+news.length≤cur.size:=by rw[hl,hcs,←Nat.add_mul];exact Nat.mul_le_mul_right _ hroom
  have hr2:=run_append_room (P:=P) w t ty e i ht hi g n cap cur hg a m c news hl hnews h1 hroom hfit;rw[hr] at hr2;simp only[bA] at hr2;obtain⟨e1,e2⟩:=hr2;rw[e1,e2];intro g' hg';simp only[bK,aZ] at hg';subst hg';refine⟨_,_,_,setRow_heap w g cur _ e _ hg,fun x hx=>?_⟩;rw[bu] at hx;rcases aE.1 hx with hx|hx
  ·rcases aE.1 hx with hx|hx
   ·exact hall x (bX hx)
   exact N5 x hx
  exact hall x (List.mem_of_mem_drop hx)
 have holds:∀j u,xs[j]?=some u→w.cell? ((⟨g,0,none⟩:bW).add j)=some u:=hown.cells (g:=g) rfl;have hr2:=run_append_grow (P:=P) w t ty e i z ht hi hz ⟨g,0,none⟩ n cap xs hown.1 holds a m c news hl hnews cL (by unfold maxLen at h63;omega) (growslice_fits cL hbytes);rw[hr] at hr2;simp only[bA] at hr2;obtain⟨e1,e2⟩:=hr2;rw[e1,e2];intro g' hg';simp only[bK,aZ] at hg';subst hg';refine⟨_,_,_,aG w.drew _,fun x hx=>?_⟩;rw[bq,bq] at hx;rcases aE.1 hx with hx|hx
 ·rcases aE.1 hx with hx|hx
  ·refine hall x ?_
   have hx:x∈xs:=by simpa using hx
   rw[←QE] at hx;exact bX hx
  exact N5 x (by simpa using hx)
 exact zc _ x hx
structure MA where
 mb:Nat
 kb:Nat
 sb:Nat
 gb:Nat
 tb:List Nat
 ra:Option bW
 rc:Nat
 ta:Option bW
 tc:Nat
 va:Option bW
 vc:Nat
 ov:aA
 C:List (dS×List cZ)
 X:Nat→Prop
 F:Nat→Prop:=fun _=>False
def MA.Z(A:MA)(b:Nat):Prop:=b=A.mb∨b=A.kb∨b=A.sb∨b=A.gb∨b∈A.tb∨A.ov.ownBlock=some b
def MA.lo(A:MA)(b:Nat):Prop:=¬A.Z b∧¬A.X b
def MA.cells(A:MA)(m:cS):Array aA:=#[.i m.site,.slice A.ra m.dH.length A.rc,.slice A.ta m.trees.length A.tc,.p A.kb,.p A.sb,.slice A.va m.v.length A.vc,A.ov]
def acC(w:ay)(lo:Nat→Prop)(a:Option bW)(T:List Nat):Prop:=∀(r:Nat) b,T[r]?=some b→∃g off,a=some ⟨g,off,none⟩∧lo g∧g<w.heap.size∧w.cell? ⟨g,off+r,none⟩=some (.p b)
structure nW(w:ay)(lo:Nat→Prop)(A:MA)(m:cS):Prop where
 dH:gG w lo A.ra m.dH
 row:acC w lo A.ta A.tb
 v:dr w lo A.va m.v
 dY:∀(i:Nat) x c,m.own[i]?=some x→A.C[i]?=some c→rW w lo c.1 c.2 x
theorem nW.mono{w:ay}{lo lo':Nat→Prop}{A:MA}{m:cS}(h:nW w lo A m)(hl:∀b,b<w.heap.size→lo b→lo' b):nW w lo' A m:=
 ⟨fun k p hk=>by
  obtain⟨b,off,e1,e2,e3,e4⟩:=h.dH k p hk;exact⟨b,off,e1,hl b e3 e2,e3,e4⟩,fun r b hr=>by
  obtain⟨g,off,e1,e2,e3,e4⟩:=h.row r b hr;exact⟨g,off,e1,hl g e3 e2,e3,e4⟩,h.v.mono hl,fun i x c hx hc=>(h.dY i x c hx hc).mono hl⟩
theorem jr.more{w:ay}{kb:Nat}{lo lo':Nat→Prop}{T:List jw}(h:jr w kb lo T)(hl:∀b,b<w.heap.size→lo b→lo' b):jr w kb lo' T:=
 ⟨h.le,h.c0,h.th,fun r t ht=>by
  obtain⟨a,c,e1,e2⟩:=h.row r t ht;exact⟨a,c,e1,e2.mono hl⟩,h.q⟩
theorem nW.iJ{w w':ay}{lo:Nat→Prop}{A:MA}{m:cS}(h:nW w lo A m){S:Nat→Prop}(hk:Kept S w w')(hu:kj w w')(hS:∀b,lo b→b<w.heap.size→¬S b):nW w' lo A m:=
 ⟨h.dH.iJ hk hS,fun r b hr=>by
  obtain⟨g,off,e1,e2,e3,e4⟩:=h.row r b hr;exact⟨g,off,e1,e2,aj e3 hk.size,(hk.cell (p:=⟨g,off+r,none⟩) e3 (hS g e2 e3)).trans e4⟩,h.v.kept hk hS,fun i x c hx hc=>(h.dY i x c hx hc).iJ hk hu hS⟩
structure OP(w:ay)(A:MA)(m:cS):Prop where
 lt:∀b,A.F b→b<w.heap.size
 tr:∀(r:Nat) b,A.tb[r]?=some b→jx A.F w b (m.root r) (m.at_ r) (m.nodes r)
 dY:∀(i:Nat) x c,m.own[i]?=some x→A.C[i]?=some c→eV w (fun k=>¬A.F k) c.2 x.dB
theorem OP.stay{w w':ay}{A:MA}{m:cS}(f:OP w A m){S:Nat→Prop}(hk:Kept S w w')(hu:kj w w')(ht:∀b∈A.tb,¬S b)(hS:∀k,S k→kR w k)(hne:∀(r:Nat) b,A.tb[r]?=some b→m.nodes r≠[]):OP w' A m:=
 ⟨fun b h=>aj (f.lt b h) hk.size,fun r b hr=>(f.tr r b hr).stay hk hu (ht b (ag hr)) hS (hne r b hr),fun i x c hx hc=>(f.dY i x c hx hc).stay hu hk.size⟩
structure cU(w0 w:ay)(A:MA)(m:cS):Prop where
 blk:w.heap[A.mb]?=some (.cells (A.cells m) 107 (0,0))
 data:nW w A.lo A m
 tl:A.tb.length=m.trees.length
 tr:∀(r:Nat) b,A.tb[r]?=some b→TR w0 w b (m.root r) (m.at_ r) (m.nodes r)∧m.nodes r≠[]
 nd:A.tb.Nodup
 tok:jr w A.kb A.lo m.toks
 yR:iM w A.sb A.gb m.site m.last m.gone
 own:w.ownsRow w0.heap.size 40 7 A.ov m.own.length ((m.own.zip A.C).flatMap fun p=>cT p.1 p.2.1)
 oq:mA w A.ov (fun x=>J1 x=true)
 cl:A.C.length=m.own.length
 kd:A.kb≠A.mb∧A.kb≠A.sb∧A.kb∉A.tb∧A.ov.ownBlock≠some A.kb
 lo:∀b,A.Z b→w0.heap.size≤b
 xz:∀b,A.X b→¬A.Z b∧w0.heap.size≤b∧b<w.heap.size
 pow:gB w0
 mx:dG w0
 bl:cF w0 w
 nO:OP w A m
section
variable{w0 w w':World}{A:MA}{m:cS}
theorem cU.Nf(h:cU w0 w A m){b:Nat}(hb:b∈A.tb):∃cs,w.heap[b]?=some (.cells cs 122 (0,0)):=by
 obtain⟨r,hr⟩:=aI.1 hb;obtain⟨lo,mb,T⟩:=(h.tr r b hr).1.tree;exact⟨_,T.blk⟩
theorem cU.Bn(h:cU w0 w A m){b:Nat}(hb:A.ov.ownBlock=some b):∃cs,w.heap[b]?=some (.cells cs 40 (0,0)):=by
 obtain⟨cur,hc⟩:=FG h.own hb;exact⟨_,hc⟩
theorem cU.Gj(h:cU w0 w A m):∃es c,w.heap[A.gb]?=some (.map es c):=by
 obtain⟨es,c,e,_⟩:=h.yR.mp;exact⟨es,c,e⟩
theorem cU.Sw(h:cU w0 w A m):∀es c,w.heap[A.kb]?≠some (.map es c):=fun es c e=>by
 have:=h.tok.c0;simp[World.cell?,e] at this
structure acG(A:MA):Prop where
 ks:A.kb≠A.mb∧A.kb≠A.sb∧A.kb≠A.gb
 ms:A.mb≠A.sb∧A.mb≠A.gb∧A.sb≠A.gb
 t:∀b∈A.tb,b≠A.mb∧b≠A.kb∧b≠A.sb∧b≠A.gb∧A.ov.ownBlock≠some b
 o:A.ov.ownBlock≠some A.mb∧A.ov.ownBlock≠some A.kb∧A.ov.ownBlock≠some A.sb∧A.ov.ownBlock≠some A.gb
theorem cU.apart(h:cU w0 w A m):acG A:=by
 obtain⟨es,c,hg⟩:=h.Gj;have hm:=h.blk;have hs:=h.yR.blk;refine⟨⟨h.kd.1,h.kd.2.1,fun e=>h.Sw es c (by rw[e];exact hg)⟩,⟨fun e=>?_,fun e=>?_,fun e=>?_⟩,fun b hb=>?_,⟨fun e=>?_,h.kd.2.2.2,fun e=>?_,fun e=>?_⟩⟩
 ·rw[e,hs] at hm;cases hm
 ·rw[e,hg] at hm;cases hm
 ·rw[e,hg] at hs;cases hs
 ·obtain⟨cs,ht⟩:=h.Nf hb
  refine⟨fun e=>?_,fun e=>h.kd.2.2.1 (by rw[←e];exact hb),fun e=>?_,fun e=>?_,fun e=>?_⟩
  ·rw[e,hm] at ht;cases ht
  ·rw[e,hs] at ht;cases ht
  ·rw[e,hg] at ht;cases ht
  obtain⟨cs2,ho⟩:=h.Bn e;rw[ht] at ho;cases ho
 ·obtain⟨cs2,ho⟩:=h.Bn e
  rw[hm] at ho;cases ho
 ·obtain⟨cs2,ho⟩:=h.Bn e
  rw[hs] at ho;cases ho
 obtain⟨cs2,ho⟩:=h.Bn e;rw[hg] at ho;cases ho
theorem YF(A:MA)(m:cS)(h:J1 A.ov=true):(A.cells m).toList.all J1=true:=by
 unfold MA.cells;simp only[List.all_cons,List.all_nil];rw[h];rfl
theorem cU.ovq(h:cU w0 w A m):J1 A.ov=true:=by
 rcases h.own.2 with ⟨e,_⟩|⟨g,cap,cur,e,_⟩<;>rw[e]<;>rfl
theorem cU.mq(h:cU w0 w A m):JZ w A.mb:=rS h.blk (YF A m h.ovq)
theorem cU.Tn(h:cU w0 w A m){b:Nat}(hb:A.Z b):NoU w b:=by
 rcases hb with rfl|rfl|rfl|rfl|hb|hb
 ·exact h.mq.Tn
 ·exact JZ.Tn h.tok.q
 ·exact(show JZ w A.sb from rS h.yR.blk rfl).Tn
 ·obtain⟨es,c,hg⟩:=h.Gj
  exact(Xm hg).Tn
 ·obtain⟨r,hr⟩:=aI.1 hb
  exact(h.tr r b hr).1.Tn
 exact(h.oq.q hb).Tn
theorem cU.mo(h:cU w0 w A m){b:Nat}(hb:A.Z b):kR w b:=by
 rcases hb with rfl|rfl|rfl|rfl|hb|hb
 ·exact gQ h.blk
 ·intro mm _ hm
  obtain⟨es,c,e,_⟩:=hm;exact h.Sw es c e
 ·exact gQ h.yR.blk
 ·exact It h.yR.mp
 ·obtain⟨r,hr⟩:=aI.1 hb
  exact(h.tr r b hr).1.mo
 obtain⟨cs,ho⟩:=h.Bn hb;exact gQ ho
theorem cU.Dx(h:cU w0 w A m){b:Nat}(hb:A.Z b):b<w.heap.size:=by
 rcases hb with rfl|rfl|rfl|rfl|hb|hb
 ·exact af h.blk
 ·exact h.tok.lt
 ·exact af h.yR.blk
 ·obtain⟨es,c,hg⟩:=h.Gj
  exact af hg
 ·obtain⟨cs,ht⟩:=h.Nf hb
  exact af ht
 exact(h.own.lt b hb).2
theorem cU.max(h:cU w0 w A m):dG w:=h.mx.kept h.bl
theorem MA.zm(A:MA):A.Z A.mb:=.inl rfl
theorem MA.zk(A:MA):A.Z A.kb:=.inr (.inl rfl)
theorem MA.zs(A:MA):A.Z A.sb:=.inr (.inr (.inl rfl))
theorem MA.zg(A:MA):A.Z A.gb:=.inr (.inr (.inr (.inl rfl)))
theorem MA.zt(A:MA){b:Nat}(h:b∈A.tb):A.Z b:=.inr (.inr (.inr (.inr (.inl h))))
theorem MA.zo(A:MA){b:Nat}(h:A.ov.ownBlock=some b):A.Z b:=.inr (.inr (.inr (.inr (.inr h))))
theorem cU.ku(h:cU w0 w A m){S:Nat→Prop}(hk:Kept S w w')(hS:∀b,S b→A.Z b):kj w w':=hk.bytes (fun b hb=>h.Tn (hS b hb))
theorem cU.dat(h:cU w0 w A m){S:Nat→Prop}(hk:Kept S w w')(hS:∀b,S b→A.Z b):nW w' A.lo A m:=h.data.iJ hk (h.ku hk hS) (fun b hb _ hs=>hb.1 (hS b hs))
theorem cU.bl2(h:cU w0 w A m){S:Nat→Prop}(hk:Kept S w w')(hS:∀b,S b→A.Z b):cF w0 w':=h.bl.trans (hk.below h.bl.size (fun k e=>h.lo k (hS k e)))
theorem cU.tr2(h:cU w0 w A m){S:Nat→Prop}(hk:Kept S w w')(hS:∀b,S b→A.Z b){r b:Nat}(hr:A.tb[r]?=some b)(hb:¬S b):TR w0 w' b (m.root r) (m.at_ r) (m.nodes r)∧m.nodes r≠[]:=
 ⟨(h.tr r b hr).1.iJ hk (h.ku hk hS) hb (fun k e=>⟨h.mo (hS k e),h.lo k (hS k e)⟩) (h.tr r b hr).2,(h.tr r b hr).2⟩
theorem cU.aaN(h:cU w0 w A m){S:Nat→Prop}(hk:Kept S w w')(hS:∀b,S b→A.Z b)(hb:¬S A.kb):jr w' A.kb A.lo m.toks:=h.tok.kept hk hb (fun b hb hs=>hb.1 (hS b hs))
theorem cU.xz2(h:cU w0 w A m){S:Nat→Prop}(hk:Kept S w w'):∀b,A.X b→¬A.Z b∧w0.heap.size≤b∧b<w'.heap.size:=fun b hb=>⟨(h.xz b hb).1,(h.xz b hb).2.1,aj (h.xz b hb).2.2 hk.size⟩
theorem cU.NI(h:cU w0 w A m){b:Nat}(hb:w.heap.size≤b):A.lo b:=⟨fun e=>by have:=h.Dx e;omega,fun e=>by have:=(h.xz b e).2.2;omega⟩
theorem cU.Ar(h:cU w0 w A m){S:Nat→Prop}(hk:Kept S w w')(hu:kj w w')(hS:∀b,S b→A.X b∧kR w b):cU w0 w' A m:=by
 have hz:∀b,A.Z b→¬S b:=fun b hb hs=>(h.xz b (hS b hs).1).1 hb
 have hl:∀b,A.lo b→b<w.heap.size→¬S b:=fun b hb _ hs=>hb.2 (hS b hs).1
 have h0:∀b,S b→kR w b∧w0.heap.size≤b:=fun b hb=>⟨(hS b hb).2,(h.xz b (hS b hb).1).2.1⟩
 exact⟨(hk.block _ (af h.blk) (hz _ A.zm)).trans h.blk,h.data.iJ hk hu hl,h.tl,fun r b hr=>⟨(h.tr r b hr).1.iJ hk hu (hz _ (A.zt (ag hr))) h0 (h.tr r b hr).2,(h.tr r b hr).2⟩,h.nd,
  h.tok.kept hk (hz _ A.zk) (fun b hb hs=>hb.2 (hS b hs).1),h.yR.kept hk (hz _ A.zs) (hz _ A.zg),fm h.own hk (fun g hg=>hz g (A.zo hg)),h.oq.kept hk (fun g hg=>hz g (A.zo hg)),h.cl,h.kd,h.lo,h.xz2 hk,h.pow,h.mx,
  h.bl.trans (hk.below h.bl.size (fun k e=>(h0 k e).2)),h.nO.stay hk hu (fun b hb=>hz _ (A.zt hb)) (fun k e=>(h0 k e).1) (fun r b hr=>(h.tr r b hr).2)⟩
theorem cU.below(h:cU w0 w A m)(hb:cF w w'):cU w0 w' A m:=h.Ar (dm (S:=fun _=>False) hb) (oD hb) (fun _ e=>e.elim)
theorem cU.Jg(h:cU w0 w A m){S:Nat→Prop}(hk:Kept S w w')(hS:∀b,S b→A.X b∧A.F b∧kR w b):cU w0 w' A m:=by
 have hz:∀b,A.Z b→¬S b:=fun b hb hs=>(h.xz b (hS b hs).1).1 hb
 have hl:∀b,A.lo b→b<w.heap.size→¬S b:=fun b hb _ hs=>hb.2 (hS b hs).1
 have h0:∀b,S b→kR w b∧w0.heap.size≤b:=fun b hb=>⟨(hS b hb).2.2,(h.xz b (hS b hb).1).2.1⟩
 have gM:=h.bl.trans (hk.below h.bl.size (fun k e=>(h0 k e).2));have hft:∀(r:Nat) b,A.tb[r]?=some b→jx A.F w' b (m.root r) (m.at_ r) (m.nodes r):=fun r b hr=>(h.nO.tr r b hr).Su hk (hz _ (A.zt (ag hr))) (fun k e=>(hS k e).2) (h.tr r b hr).2
 have hfi:∀(i:Nat) x c,m.own[i]?=some x→A.C[i]?=some c→eV w' (fun k=>¬A.F k) c.2 x.dB:=fun i x c hx hc=>(h.nO.dY i x c hx hc).dP hk (fun b hb e=>hb (hS b e).2.1)
 have hd:nW w' A.lo A m:=by
  refine⟨h.data.dH.iJ hk hl,fun r b hr=>?_,h.data.v.kept hk hl,fun i x c hx hc=>?_⟩
  ·obtain⟨g,off,e1,e2,e3,e4⟩:=h.data.row r b hr
   exact⟨g,off,e1,e2,aj e3 hk.size,(hk.cell (p:=⟨g,off+r,none⟩) e3 (hl g e2 e3)).trans e4⟩
  have hi:=h.data.dY i x c hx hc;refine⟨hi.stamp.kept hk hl,(hfi i x c hx hc).both (fun _ _ _=>trivial),fun k q hq=>?_,fun ad e=>⟨(hi.new ad e).1,aj (hi.new ad e).2 hk.size⟩⟩;obtain⟨b,off,e1,e2,e3⟩:=hi.row k q hq;exact⟨b,off,e1,aj e2 hk.size,fun j v hv=>(hk.cell (p:=⟨b,off+k*11+j,none⟩) e2 (hl b (hi.new _ e1).1 e2)).trans (e3 j v hv)⟩
 exact⟨(hk.block _ (af h.blk) (hz _ A.zm)).trans h.blk,hd,h.tl,fun r b hr=>⟨(hft r b hr).tr (h.tr r b hr).1 gM,(h.tr r b hr).2⟩,h.nd,
  h.tok.kept hk (hz _ A.zk) (fun b hb hs=>hb.2 (hS b hs).1),h.yR.kept hk (hz _ A.zs) (hz _ A.zg),fm h.own hk (fun g hg=>hz g (A.zo hg)),h.oq.kept hk (fun g hg=>hz g (A.zo hg)),h.cl,h.kd,h.lo,h.xz2 hk,h.pow,h.mx,
  gM,⟨fun b e=>aj (h.nO.lt b e) hk.size,hft,hfi⟩⟩
theorem cU.newF(h:cU w0 w A m)(hb:cF w w'){D:Nat}(hD:w.heap.size≤D)(hlt:D<w'.heap.size):cU w0 w' {A with X:=fun b=>A.X b∨b=D,F:=fun b=>A.F b∨b=D} m:=by
 have h':=h.below hb;have hl:∀b,b<w.heap.size→A.lo b→({A with X:=fun b=>A.X b∨b=D,F:=fun b=>A.F b∨b=D}:MA).lo b:=fun b hb hlo=>⟨hlo.1,fun e=>by
  rcases e with e|e
  ·exact hlo.2 e
  omega⟩
 have hd:=h.data.mono hl;have uY:=nW.iJ hd (dm (S:=fun _=>False) hb) (oD hb) (fun _ _ _ e=>e);have ht:=(h.tok.more hl).below hb;refine⟨h'.blk,⟨uY.dH,uY.row,uY.v,uY.dY⟩,h'.tl,h'.tr,h'.nd,ht,h'.yR,h'.own,h'.oq,h'.cl,h'.kd,h'.lo,fun b e=>?_,h'.pow,h'.mx,h'.bl,⟨fun b e=>?_,fun r b hr=>?_,fun i x c hx hc=>?_⟩⟩
 ·rcases e with e|e
  ·exact h'.xz b e
  subst e;exact⟨fun z=>by have:=h.Dx z;omega,by have:=h.bl.size;omega,hlt⟩
 ·rcases e with e|e
  ·exact h'.nO.lt b e
  subst e;exact hlt
 ·obtain⟨lo,mb,T,hlo⟩:=h.nO.tr r b hr
  exact⟨_,mb,(T.both (lo':=fun k=>lo k∧k<w.heap.size) (fun k h1 h2=>⟨h1,h2⟩)).below hb,fun k hk e=>by
   rcases e with e|e
   ·exact hlo k hk.1 e
   have:=hk.2;omega⟩
 exact((h.nO.dY i x c hx hc).both (lo':=fun k=>¬(A.F k∨k=D)) (fun k h1 h2 e=>by
  rcases e with e|e
  ·exact h1 e
  omega)).below hb
theorem cU.drew(h:cU w0 w A m):cU w0 w.drew A m:=h.below (aJ _ w).drew
theorem cU.zV(h:cU w0 w A m){X:Nat→Prop}(h1:∀b,X b→¬A.Z b∧w0.heap.size≤b∧b<w.heap.size)(h2:∀b,A.lo b→¬X b):cU w0 w {A with X:=X} m:=by
 have hl:∀b,b<w.heap.size→A.lo b→({A with X:=X}:MA).lo b:=fun b hb hlo=>⟨hlo.1,h2 b hlo⟩
 have hd:=h.data.mono hl;exact⟨h.blk,⟨hd.dH,hd.row,hd.v,hd.dY⟩,h.tl,h.tr,h.nd,h.tok.more hl,h.yR,h.own,h.oq,h.cl,h.kd,h.lo,h1,h.pow,h.mx,h.bl,⟨h.nO.lt,h.nO.tr,h.nO.dY⟩⟩
theorem cU.KE(h:cU w0 w A m){S:Nat→Prop}(hk:Kept S w w')(hS:∀b,S b→b=A.sb∨b=A.gb){last:Nat}{gone:List (Int×Int)}(hs:iM w' A.sb A.gb m.site last gone):cU w0 w' A {m with last:=last,gone:=gone}:=by
 have hz:∀b,S b→A.Z b:=fun b e=>by rcases hS b e with rfl|rfl;exact A.zs;exact A.zg
 have ap:=h.apart;have hn:∀b,b≠A.sb→b≠A.gb→¬S b:=fun b h1 h2 e=>by rcases hS b e with h|h;exact h1 h;exact h2 h
 have hd:=h.dat hk hz;have ho:∀g,A.ov.ownBlock=some g→¬S g:=fun g hg=>hn g (fun e=>ap.o.2.2.1 (e▸hg)) (fun e=>ap.o.2.2.2 (e▸hg))
 have f:=h.nO.stay hk (h.ku hk hz) (fun b hb=>hn b (ap.t b hb).2.2.1 (ap.t b hb).2.2.2.1) (fun k e=>h.mo (hz k e)) (fun r b hr=>(h.tr r b hr).2);exact⟨(hk.block _ (af h.blk) (hn _ ap.ms.1 ap.ms.2.1)).trans h.blk,⟨hd.dH,hd.row,hd.v,hd.dY⟩,h.tl,fun r b hr=>h.tr2 hk hz hr (hn b (ap.t b (ag hr)).2.2.1 (ap.t b (ag hr)).2.2.2.1),h.nd,h.aaN hk hz (hn _ ap.ks.2.1 ap.ks.2.2),hs,
  fm h.own hk ho,h.oq.kept hk ho,h.cl,h.kd,h.lo,h.xz2 hk,h.pow,h.mx,h.bl2 hk hz,⟨f.lt,f.tr,f.dY⟩⟩
theorem cU.WN(h:cU w0 w A m)(hk:Kept (·=A.kb) w w'){T:List jw}(ht:jr w' A.kb (fun b=>A.lo b∨w.heap.size≤b) T):cU w0 w' A {m with toks:=T}:=by
 have hz:∀b,b=A.kb→A.Z b:=fun b e=>e▸A.zk
 have ap:=h.apart;have hd:=h.dat hk hz;have ho:∀g,A.ov.ownBlock=some g→¬g=A.kb:=fun g hg e=>ap.o.2.1 (e▸hg)
 have f:=h.nO.stay hk (h.ku hk hz) (fun b hb=>(ap.t b hb).2.1) (fun k e=>h.mo (hz k e)) (fun r b hr=>(h.tr r b hr).2);exact⟨(hk.block _ (af h.blk) (fun e=>ap.ks.1 e.symm)).trans h.blk,⟨hd.dH,hd.row,hd.v,hd.dY⟩,h.tl,fun r b hr=>h.tr2 hk hz hr (ap.t b (ag hr)).2.1,h.nd,ht.more (fun b _ hb=>hb.elim id h.NI),h.yR.kept hk (fun e=>ap.ks.2.1 e.symm) (fun e=>ap.ks.2.2 e.symm),
  fm h.own hk ho,h.oq.kept hk ho,h.cl,h.kd,h.lo,h.xz2 hk,h.pow,h.mx,h.bl2 hk hz,⟨f.lt,f.tr,f.dY⟩⟩
theorem cU.dV(h:cU w0 w A m){r b:Nat}(hr:A.tb[r]?=some b)(hk:Kept (·=b) w w'){t:Int×List (cP×Nd)}(ht:TR w0 w' b (m.root r) t.1 t.2)(hf:jx A.F w' b (m.root r) t.1 t.2)(hne:t.2≠[]):cU w0 w' A (m.dV r t):=by
 have hm:=ag hr;have hz:∀k,k=b→A.Z k:=fun k e=>e▸A.zt hm
 have ap:=h.apart;have ab:=ap.t b hm;have hd:=h.dat hk hz;have ho:∀g,A.ov.ownBlock=some g→¬g=b:=fun g hg e=>ab.2.2.2.2 (e▸hg)
 have hlen:(m.trees.set r t).length=m.trees.length:=aW;have hrl:r<m.trees.length:=by rw[←h.tl];exact(aa.1 hr).1
 refine⟨?_,⟨hd.dH,hd.row,hd.v,hd.dY⟩,by show _=(m.trees.set r t).length;rw[hlen];exact h.tl,fun k c hk2=>?_,h.nd,h.aaN hk hz (fun e=>ab.2.1 e.symm),h.yR.kept hk (fun e=>ab.2.2.1 e.symm) (fun e=>ab.2.2.2.1 e.symm),
  fm h.own hk ho,h.oq.kept hk ho,h.cl,h.kd,h.lo,h.xz2 hk,h.pow,h.mx,h.bl2 hk hz,⟨fun b h2=>aj (h.nO.lt b h2) hk.size,fun k c hk2=>?_,fun i x c hx hc=>(h.nO.dY i x c hx hc).stay (h.ku hk hz) hk.size⟩⟩
 ·have e1:A.cells (m.dV r t)=A.cells m:=by
   show(#[_,_,.slice A.ta (m.trees.set r t).length A.tc,_,_,_,_]:Array aA)=_;rw[hlen];rfl
  rw[e1];exact(hk.block _ (af h.blk) (fun e=>ab.1 e.symm)).trans h.blk
 ·by_cases e:r=k
  ·subst e
   rw[hr] at hk2;cases hk2;have e2:∀j,(m.dV r t).root j=m.root j:=fun _=>rfl
   have e3:(m.dV r t).at_ r=t.1:=by
    show((m.trees.set r t).getD r (0,[])).1=_;rw[cS.je,if_pos ⟨rfl,hrl⟩]
   have e4:(m.dV r t).nodes r=t.2:=by
    show((m.trees.set r t).getD r (0,[])).2=_;rw[cS.je,if_pos ⟨rfl,hrl⟩]
   rw[e2,e3,e4];exact⟨ht,hne⟩
  have e3:(m.dV r t).at_ k=m.at_ k:=by
   show((m.trees.set r t).getD k (0,[])).1=_;rw[cS.je,if_neg (fun h=>e h.1)];rfl
  have e4:(m.dV r t).nodes k=m.nodes k:=by
   show((m.trees.set r t).getD k (0,[])).2=_;rw[cS.je,if_neg (fun h=>e h.1)];rfl
  have e2:∀j,(m.dV r t).root j=m.root j:=fun _=>rfl
  rw[e2,e3,e4];refine h.tr2 hk hz hk2 (fun eb=>e ?_);have eb:c=b:=eb;subst eb;have i1:=(aa.1 hr);have i2:=(aa.1 hk2);exact(List.getElem_inj h.nd).1 (i1.2.trans i2.2.symm)
 by_cases e:r=k
 ·subst e
  rw[hr] at hk2;cases hk2;have e2:∀j,(m.dV r t).root j=m.root j:=fun _=>rfl
  have e3:(m.dV r t).at_ r=t.1:=by
   show((m.trees.set r t).getD r (0,[])).1=_;rw[cS.je,if_pos ⟨rfl,hrl⟩]
  have e4:(m.dV r t).nodes r=t.2:=by
   show((m.trees.set r t).getD r (0,[])).2=_;rw[cS.je,if_pos ⟨rfl,hrl⟩]
  rw[e2,e3,e4];exact hf
 have e3:(m.dV r t).at_ k=m.at_ k:=by
  show((m.trees.set r t).getD k (0,[])).1=_;rw[cS.je,if_neg (fun h=>e h.1)];rfl
 have e4:(m.dV r t).nodes k=m.nodes k:=by
  show((m.trees.set r t).getD k (0,[])).2=_;rw[cS.je,if_neg (fun h=>e h.1)];rfl
 have e2:∀j,(m.dV r t).root j=m.root j:=fun _=>rfl
 rw[e2,e3,e4];refine(h.nO.tr k c hk2).stay hk (h.ku hk hz) (fun eb=>e ?_) (fun j e=>h.mo (hz j e)) (h.tr k c hk2).2;have eb:c=b:=eb;subst eb;have i1:=(aa.1 hr);have i2:=(aa.1 hk2);exact(List.getElem_inj h.nd).1 (i1.2.trans i2.2.symm)
theorem cU.aej(h:cU w0 w A m){a:Option bW}{c:Nat}{V:List Nat}(hv:dr w A.lo a V):cU w0 (w.setCell ⟨A.mb,5,none⟩ (.slice a V.length c)) {A with va:=a,vc:=c} {m with v:=V}:=by
 have hk:Kept (·=A.mb) w (w.setCell ⟨A.mb,5,none⟩ (.slice a V.length c)):=(Kept.refl (·=A.mb) w).setCell (p:=⟨A.mb,5,none⟩) rfl _;have hz:∀k,k=A.mb→A.Z k:=fun k e=>e▸A.zm
 have ap:=h.apart;have hd:=h.dat hk hz;have ho:∀g,A.ov.ownBlock=some g→¬g=A.mb:=fun g hg e=>ap.o.1 (e▸hg)
 have f:=h.nO.stay hk (h.ku hk hz) (fun b hb=>(ap.t b hb).1) (fun k e=>h.mo (hz k e)) (fun r b hr=>(h.tr r b hr).2);refine⟨?_,⟨hd.dH,hd.row,hv.kept hk (fun b hb _ e=>hb.1 (hz b e)),hd.dY⟩,h.tl,fun r b hr=>h.tr2 hk hz hr (ap.t b (ag hr)).1,h.nd,h.aaN hk hz ap.ks.1,h.yR.kept hk (fun e=>ap.ms.1 e.symm) (fun e=>ap.ms.2.1 e.symm),
  fm h.own hk ho,h.oq.kept hk ho,h.cl,h.kd,h.lo,h.xz2 hk,h.pow,h.mx,h.bl2 hk hz,⟨f.lt,f.tr,f.dY⟩⟩
 rw[aL w A.mb 5 _ 107 _ h.blk];rfl
theorem cU.push(h:cU w0 w A m){x:gK}{r:dS}{L:List cZ}(hx:rW w A.lo r L x)(hxf:eV w (fun k=>¬A.F k) L x.dB){v':aA}{w1:ay}(hown:w1.ownsRow w0.heap.size 40 7 v' (m.own.length+1) (((m.own.zip A.C).flatMap fun p=>cT p.1 p.2.1)++cT x r))
  (hg:w.grownBy w1 A.ov.ownBlock) (hw:∀k,v'.ownBlock=some k→A.ov.ownBlock=some k∨w.heap.size≤k) (hq:mA w1 v' (fun x=>J1 x=true)):
  cU w0 (w1.setCell ⟨A.mb,6,none⟩ v') {A with ov:=v',C:=A.C++[(r,L)]} {m with own:=m.own++[x]}∧Kept (fun k=>A.ov.ownBlock=some k∨k=A.mb) w (w1.setCell ⟨A.mb,6,none⟩ v'):=by
 have hk1:Kept (fun k=>A.ov.ownBlock=some k) w w1:=fT hg;have ap:=h.apart;have Ab:w1.heap[A.mb]?=some (.cells (A.cells m) 107 (0,0)):=(hk1.block _ (af h.blk) ap.o.1).trans h.blk;have hk2:Kept (·=A.mb) w1 (w1.setCell ⟨A.mb,6,none⟩ v'):=(Kept.refl (·=A.mb) w1).setCell (p:=⟨A.mb,6,none⟩) rfl _;have hk:Kept (fun k=>A.ov.ownBlock=some k∨k=A.mb) w (w1.setCell ⟨A.mb,6,none⟩ v'):=(hk1.mono (fun k _ e=>.inl e)).trans (hk2.mono (fun k _ e=>.inr e));have hz:∀k,(A.ov.ownBlock=some k∨k=A.mb)→A.Z k:=fun k e=>by
  rcases e with e|e
  ·exact A.zo e
  exact e▸A.zm
 have sZ:∀k,v'.ownBlock=some k→k<w1.heap.size:=fun k e=>(hown.lt k e).2
 have Wc:v'.ownBlock≠some A.mb:=fun e=>by
  rcases hw _ e with h1|h1
  ·exact ap.o.1 h1
  have:=af h.blk;omega
 have hd:=h.dat hk hz;have hz':∀b,({A with ov:=v',C:=A.C++[(r,L)]}:MA).Z b→A.Z b∨w.heap.size≤b:=fun b e=>by
  rcases e with e|e|e|e|e|e
  ·exact .inl (e▸A.zm)
  ·exact .inl (e▸A.zk)
  ·exact .inl (e▸A.zs)
  ·exact .inl (e▸A.zg)
  ·exact .inl (A.zt e)
  rcases hw _ e with h1|h1
  ·exact .inl (A.zo h1)
  exact .inr h1
 have hlo:∀b,b<w.heap.size→A.lo b→({A with ov:=v',C:=A.C++[(r,L)]}:MA).lo b:=fun b hb hlo=>⟨fun e=>by
  rcases hz' b e with h1|h1
  ·exact hlo.1 h1
  omega,hlo.2⟩
 have hnS:∀b,A.lo b∧b<w.heap.size→b<w.heap.size→¬(A.ov.ownBlock=some b∨b=A.mb):=fun b hb _ e=>hb.1.1 (hz b e)
 have uY:=((h.data.mono (lo':=fun b=>A.lo b∧b<w.heap.size) (fun b hb hl=>⟨hl,hb⟩)).iJ hk (h.ku hk hz) hnS).mono (lo':=({A with ov:=v',C:=A.C++[(r,L)]}:MA).lo) (fun b _ hb=>hlo b hb.2 hb.1);have hx2:=((hx.mono (lo':=fun b=>A.lo b∧b<w.heap.size) (fun b hb hl=>⟨hl,hb⟩)).iJ hk (h.ku hk hz) hnS).mono (lo':=({A with ov:=v',C:=A.C++[(r,L)]}:MA).lo) (fun b _ hb=>hlo b hb.2 hb.1);have ht2:=((h.tok.more (lo':=fun b=>A.lo b∧b<w.heap.size) (fun b hb hl=>⟨hl,hb⟩)).kept hk (fun e=>by
  rcases e with e|e
  ·exact ap.o.2.1 e
  exact ap.ks.1 e) (fun b hb=>hnS b hb hb.2)).more (lo':=({A with ov:=v',C:=A.C++[(r,L)]}:MA).lo) (fun b _ hb=>hlo b hb.2 hb.1)
 have ajP:(m.own++[x]).zip (A.C++[(r,L)])=m.own.zip A.C++[(x,(r,L))]:=by rw[List.zip_append h.cl.symm];rfl
 have f:=h.nO.stay hk (h.ku hk hz) (fun b hb e=>e.elim (ap.t b hb).2.2.2.2 (ap.t b hb).1) (fun k e=>h.mo (hz k e)) (fun r b hr=>(h.tr r b hr).2);have ajS:=hxf.stay (h.ku hk hz) hk.size;refine⟨⟨?_,⟨uY.dH,uY.row,uY.v,fun i y c hy hc=>?_⟩,h.tl,fun k b hr=>h.tr2 hk hz hr (fun e=>?_),h.nd,ht2,h.yR.kept hk (fun e=>?_) (fun e=>?_),?_,?_,by show(A.C++[(r,L)]).length=(m.own++[x]).length;rw[ah,ah,h.cl];rfl,⟨ap.ks.1,ap.ks.2.1,h.kd.2.2.1,fun e=>?_⟩,fun b e=>?_,fun b e=>?_,h.pow,h.mx,h.bl2 hk hz,⟨f.lt,f.tr,fun i y c hy hc=>?_⟩⟩,hk⟩
 ·rw[aL w1 A.mb 6 _ 107 _ Ab]
  rfl
 ·have hy:(m.own++[x])[i]?=some y:=hy
  have hc:(A.C++[(r,L)])[i]?=some c:=hc;rcases aV i m.own.length with hlt|hge
  ·rw[aq hlt] at hy
   rw[aq (by rw[h.cl];exact hlt)] at hc;exact uY.dY i y c hy hc
  rw[au hge] at hy;rw[au (by rw[h.cl];exact hge)] at hc;have h0:i - m.own.length=0:=by
   have:=(aa.1 hy).1;simp at this;omega
  rw[h0] at hy;rw[h.cl,h0] at hc;simp at hy hc;subst hy hc;exact hx2
 ·have ab:=ap.t b (ag hr)
  rcases e with e|e
  ·exact ab.2.2.2.2 e
  exact ab.1 e
 ·rcases e with e|e
  ·exact ap.o.2.2.1 e
  exact ap.ms.1 e.symm
 ·rcases e with e|e
  ·exact ap.o.2.2.2 e
  exact ap.ms.2.1 e.symm
 ·show World.ownsRow _ w0.heap.size 40 7 v' (m.own++[x]).length (((m.own++[x]).zip (A.C++[(r,L)])).flatMap fun p=>cT p.1 p.2.1)
  rw[ajP,List.flatMap_append,ah];have:=fm hown hk2 (fun g hg e=>by have e:g=A.mb:=e;exact Wc (e▸hg));simpa using this
 ·exact hq.kept hk2 (fun g hg e=>by have e:g=A.mb:=e;exact Wc (e▸hg))
 ·rcases hw _ e with h1|h1
  ·exact ap.o.2.1 h1
  have:=h.tok.lt;have h1:w.heap.size≤A.kb:=h1;omega
 ·rcases hz' b e with h1|h1
  ·exact h.lo b h1
  have:=h.bl.size;omega
 ·have hxb:=h.xz b e
  refine⟨fun z=>?_,hxb.2.1,aj hxb.2.2 hk.size⟩;rcases hz' b z with h1|h1
  ·exact hxb.1 h1
  omega
 have hy:(m.own++[x])[i]?=some y:=hy;have hc:(A.C++[(r,L)])[i]?=some c:=hc;rcases aV i m.own.length with hlt|hge
 ·rw[aq hlt] at hy
  rw[aq (by rw[h.cl];exact hlt)] at hc;exact f.dY i y c hy hc
 rw[au hge] at hy;rw[au (by rw[h.cl];exact hge)] at hc;have h0:i - m.own.length=0:=by
  have:=(aa.1 hy).1;simp at this;omega
 rw[h0] at hy;rw[h.cl,h0] at hc;simp at hy hc;subst hy hc;exact ajS
end
structure DB(w:ay)(db:Nat)(E R I:List aA):Prop where
 blk:w.heap[db]?=some (.cells (E++R++I).toArray 49 (0,0))
 le:E.length=23
 lr:R.length=13
 li:I.length=7
 nr:∀x∈R,∀n,x≠.b n
 ni:∀x∈I,∀n,x≠.b n
section
variable{w w':World}{db:Nat}{E R I:List Value}
theorem DB.kept(h:DB w db E R I){S:Nat→Prop}(hk:Kept S w w')(hS:¬S db):DB w' db E R I:=⟨hk.same h.blk hS,h.le,h.lr,h.li,h.nr,h.ni⟩
theorem DB.below(h:DB w db E R I)(hb:cF w w'):DB w' db E R I:=h.kept (dm (S:=fun _=>False) hb) (fun e=>e)
theorem DB.lt(h:DB w db E R I):db<w.heap.size:=af h.blk
theorem DB.cell(h:DB w db E R I)(k:Nat):w.cell? ⟨db,k,none⟩=(E++R++I)[k]?:=by
 rw[aB w db k _ 49 (0,0) h.blk];simp
theorem DB.agV(h:DB w db E R I)(k:Nat)(hk:k<7):w.cell? ⟨db,36+k,none⟩=I[k]?:=by
 rw[h.cell,au (by rw[ah,h.le,h.lr];omega),ah,h.le,h.lr,show 36+k - (23+13)=k by omega]
theorem DB.rR(h:DB w db E R I)(k:Nat)(hk:k<13):w.cell? ⟨db,23+k,none⟩=R[k]?:=by
 rw[h.cell,aq (by rw[ah,h.le,h.lr];omega),au (by rw[h.le];omega),h.le,show 23+k - 23=k by omega]
theorem DB.tT(h:DB w db E R I)(k:Nat)(hk:k<23):w.cell? ⟨db,k,none⟩=E[k]?:=by
 rw[h.cell,aq (by rw[ah,h.le,h.lr];omega),aq (by rw[h.le];omega)]
theorem DB.there(h:DB w db E R I)(o n:Nat)(hn:o+n≤43):w.there db o n:=dR h.blk o n (by rw[List.size_toArray,ah,ah,h.le,h.lr,h.li];exact hn)
theorem DB.mo(h:DB w db E R I):kR w db:=gQ h.blk
theorem DB.ael(h:DB w db E R I){I':List aA}(hl:I'.length=7)(hn:∀x∈I',∀n,x≠.b n):DB (w.setCells db 36 I') db E R I'∧kj w (w.setCells db 36 I'):=by
 refine⟨⟨?_,h.le,h.lr,hl,h.nr,hn⟩,yh (fun j n hj=>?_)⟩
 ·have:=pV (B:=db) (t:=49) (fr:=(0,0)) I' 36 w (E++R++I) h.blk (by rw[ah,ah,h.le,h.lr,h.li,hl];decide)
  rw[this];have e1:(E++R++I).take 36=E++R:=List.take_left' (by rw[ah,h.le,h.lr]);have e2:(E++R++I).drop (36+I'.length)=[]:=List.drop_eq_nil_of_le (by rw[ah,ah,h.le,h.lr,h.li,hl];decide);rw[e1,e2,List.append_nil]
 rw[h.agV j cL];intro e;exact h.ni _ (ag e) n rfl
theorem DB.aek(h:DB w db E R I){R':List aA}(hl:R'.length=13)(hn:∀x∈R',∀n,x≠.b n):DB (w.setCells db 23 R') db E R' I∧kj w (w.setCells db 23 R'):=by
 refine⟨⟨?_,h.le,hl,h.li,hn,h.ni⟩,yh (fun j n hj=>?_)⟩
 ·have:=pV (B:=db) (t:=49) (fr:=(0,0)) R' 23 w (E++R++I) h.blk (by rw[ah,ah,h.le,h.lr,h.li,hl];decide)
  rw[this];have e1:(E++R++I).take 23=E:=by rw[bF];exact List.take_left' h.le
  have e2:(E++R++I).drop (23+R'.length)=I:=List.drop_left' (by rw[ah,h.le,h.lr,hl]);rw[e1,e2]
 rw[h.rR j cL];intro e;exact h.nr _ (ag e) n rfl
end
theorem zf(x:gK)(r:dS):∀y∈cT x r,∀n,y≠.b n:=by
 intro y hy n;simp only[cT,aK,aF,or_false] at hy;rcases hy with rfl|rfl|rfl|rfl|rfl|rfl|rfl<;>(intro e;cases e)
theorem cU.Nk{w0 w:ay}{A:MA}{m:cS}(h:cU w0 w A m){db o:Nat}{E R I cs:List aA}(hd:DB w db E R I)(hX:A.X db)(hu:kj w (w.setCells db o cs)):cU w0 (w.setCells db o cs) A m:=
 h.Ar (ic w db o cs) hu (fun b e=>by have e:b=db:=e;subst e;exact⟨hX,hd.mo⟩)
def MA.PL(A:MA)(va:Option bW)(vc:Nat)(ov:aA)(C:List (dS×List cZ)):MA:={A with va:=va,vc:=vc,ov:=ov,C:=C}
def yL(w:ay)(mb b:Nat):Prop:=∀v,w.cell? ⟨mb,6,none⟩=some v→v.ownBlock≠some b
structure YP(w0 w:ay)(A:MA)(m':cS)(db:Nat)(E R:List aA)(x:gK)(w':ay):Prop where
 st:∃va vc ov C,cU w0 w' (A.PL va vc ov C) m'∧∀b,ov.ownBlock=some b→A.ov.ownBlock=some b∨w.heap.size≤b
 out:∃r L,DB w' db E R (cT x r)∧eu w' (fun b=>w.heap.size≤b∧yL w' A.mb b) r L x
 kept:Kept (fun b=>A.Z b∨b=db) w w'
theorem cU.cells{w0 w:ay}{A:MA}{m:cS}(h:cU w0 w A m):w.cell? ⟨A.mb,0,none⟩=some (.i m.site)∧w.cell? ⟨A.mb,1,none⟩=some (.slice A.ra m.dH.length A.rc)∧w.cell? ⟨A.mb,2,none⟩=some (.slice A.ta m.trees.length A.tc)∧
  w.cell? ⟨A.mb,3,none⟩=some (.p A.kb)∧w.cell? ⟨A.mb,4,none⟩=some (.p A.sb)∧w.cell? ⟨A.mb,5,none⟩=some (.slice A.va m.v.length A.vc)∧w.cell? ⟨A.mb,6,none⟩=some A.ov:=
 ⟨aB _ _ 0 _ _ (0,0) h.blk,aB _ _ 1 _ _ (0,0) h.blk,aB _ _ 2 _ _ (0,0) h.blk,aB _ _ 3 _ _ (0,0) h.blk,aB _ _ 4 _ _ (0,0) h.blk,aB _ _ 5 _ _ (0,0) h.blk,aB _ _ 6 _ _ (0,0) h.blk⟩
theorem cU.Bt{w0 w:ay}{A:MA}{m:cS}(h:cU w0 w A m){b:Nat}(hb:A.ov.ownBlock≠some b):yL w A.mb b:=fun v hv=>by
 have:=h.cells.2.2.2.2.2.2;rw[this] at hv;cases hv;exact hb
theorem IG{w0 w:ay}{A:MA}{m:cS}{N:Nat}(h:cU w0 w A m)(ok:m.Ok N)(hN:N≤1000000){x:gK}{r:dS}{L:List cZ}(hr:gC w w.heap.size r.ea L)(hl:eV w (fun k=>¬A.F k) L x.dB)(hn:∀ad,r.ea=some ad→A.lo ad.block∧ad.block<w.heap.size)
  (h1:x.dB.length≤1000) (h2:∀e∈x.dB,e.node.data.length≤1000000) {db:Nat} {E R I:List aA} (hd:DB w db E R I) (hX:A.X db):
  aU prog 245 #[.p A.mb,.p db,eN x r] w fun e w'=>e=.returned (.tuple #[])∧YP w0 w A (m.make x) db E R (m.item x) w':=by
 obtain⟨c0,c1,c2,c3,c4,c5,c6⟩:=h.cells;have GL:=ok.site;obtain⟨sv,hsv⟩:∃v,m.v[m.site]?=some v:=⟨_,an GL⟩;obtain⟨vb,vo,LK,hvl,aff,XV⟩:=h.data.v m.site sv hsv;have aj6:sv≤N:=ok.vN _ (ag hsv);obtain⟨w1,hw1,de,hs1,kH⟩:=dO w (cT x r) 40;have agj:w1.heap[w.heap.size]?=some (.cells (cT x r).toArray 40 (0,0)):=by rw[hw1];exact aG w _
 obtain⟨nv,uA⟩:∃n,n=m.v.length:=⟨_,rfl⟩;obtain⟨ns,oV⟩:∃n,n=m.site:=⟨_,rfl⟩;rw[←uA,LK] at c5;rw[←oV] at c0 XV;have kA:∀w',Kept (·=w.heap.size) w1 w'→cF w w':=fun w' hk=>de.trans (hk.below de.size (fun b e=>by have e:b=w.heap.size:=e;omega))
 have y0:∀w',Kept (·=w.heap.size) w1 w'→w'.cell? ⟨A.mb,0,none⟩=some (.i ns):=fun w' hb=>((kA w' hb).cell (p:=⟨A.mb,0,none⟩) (af h.blk)).trans c0
 have y5:∀w',Kept (·=w.heap.size) w1 w'→w'.cell? ⟨A.mb,5,none⟩=some (.slice (some ⟨vb,vo,none⟩) nv A.vc):=fun w' hb=>((kA w' hb).cell (p:=⟨A.mb,5,none⟩) (af h.blk)).trans c5
 have ys:∀w',Kept (·=w.heap.size) w1 w'→w'.cell? ⟨vb,vo+ns,none⟩=some (.v (sv:Int)):=fun w' hb=>((kA w' hb).cell (p:=⟨vb,vo+ns,none⟩) aff).trans XV
 have pZ:Hid (∀W,cF w1 W→aU prog 46 #[.slice (some ⟨vb,vo,none⟩) nv A.vc] W (jI W m.v)):=cE (fun W hW=>by
  have:=lH W A.va A.vc A.lo m.v (by have:=ok.vl;omega) (h.data.v.below (de.trans (hW.mono de.size)))
  rwa [LK,←uA] at this)
 have me:=cE (cD hw1 (cD de (cD hs1 (cD agj kA))));have HH:=cE (cD h (cD ok (cD hr (cD hl (cD hn (cD h1 (cD h2 (cD hd (cD hX hN)))))))));have HV:=cE (cD hsv (cD LK (cD uA oV)));have hlt:(ns:Int)<nv:=by rw[oV,uA];omega
 have hlt2:ns<nv:=by omega
 have C8:(0:Int)≤ns:=by omega
 have tw:∀_:True,IntKind.u64.wrap ((sv:Int)+1)=(sv:Int)+1:=fun _=>by rw[IntKind.wrap_u64];omega
 clear c0 c1 c2 c3 c4 c5 c6 GL hsv LK hvl aff XV aj6 hw1 de hs1 kH agj kA uA oV h ok hr hl hn h1 h2 hd hX;unfold eN;unfold cT at me⊢;go_enter func245,ntmps245
 go_upto_region 1 with (rw[←me.out.1])
 go_wp2_with fail
 refine rT fun wd hd=>?_
 refine O0 (S':=fun w'=>Kept (·=w.heap.size) w1 w') (fun _ _=>trivial) _ _ _ _ ?_;have hS:Kept (·=w.heap.size) w1 wd:=dm hd;refine tI 0 rfl hS ?_;refine tI 1 rfl hS ?_;refine tI 2 rfl hS ?_;refine tJ 3 rfl hS y0 ?_;simp only[cQ];refine tI 4 rfl hS ?_;refine tI 5 rfl hS ?_;refine tI 6 rfl hS ?_;refine tJ 7 rfl hS y5 ?_;simp only[cQ];refine tI 8 rfl hS ?_;refine tI 9 rfl hS ?_;refine tI 10 rfl hS ?_;refine tJ 11 rfl hS y0 ?_;simp only[cQ];refine tI 12 rfl hS ?_;refine tJ 13 rfl hS ys ?_;refine tI 14 rfl hS ?_;refine tI 15 rfl hS ?_;simp only[cQ];refine tI 16 rfl hS ?_;refine tI 17 rfl hS ?_;refine tJ 18 rfl hS y5 ?_;refine tI 20 rfl hS ?_;simp only[cQ];refine cI 19 rfl ?_;refine(pZ.out wd hd).mono ?_;rintro e w2 hst;obtain⟨a1,k1,rfl,kU,LQ,dz⟩:=hst.sl;rw[←HV.out.2.2.1] at kU⊢;have uY:cF w1 w2:=hd.trans (dz.mono hd.size);have oW:Kept (·=w.heap.size) w1 w2:=dm uY;have k2:w2.heap[w.heap.size]?=_:=(uY.block _ (by have:=me.out.2.2.1;omega)).trans me.out.2.2.2.1;have d20:w2.cell? ⟨w.heap.size,0,none⟩=some (.i x.ew):=aB _ _ 0 _ 40 (0,0) k2;have f20:w2.frozen? ⟨w.heap.size,0,none⟩=false:=by simp[aP,k2]
 obtain⟨w3,kz⟩:=cG (w2.setCell ⟨w.heap.size,0,none⟩ (.i (ns:Int)));have J9:Kept (·=w.heap.size) w2 w3:=by rw[kz];exact(Kept.refl (·=w.heap.size) w2).setCell (p:=⟨w.heap.size,0,none⟩) rfl _
 have k3:w3.heap[w.heap.size]?=some (.cells #[.i (ns:Int),.v (x.seq:Int),.i x.dK,.v (x.ep:Int),.slice r.sa x.stamp.length r.sc,.slice r.ea x.dB.length r.ec,.u (x.cl:Int)] 40 (0,0)):=by
  rw[kz,aL w2 w.heap.size 0 _ 40 _ k2];rfl
 have d31:w3.cell? ⟨w.heap.size,1,none⟩=some (.v (x.seq:Int)):=aB _ _ 1 _ 40 (0,0) k3;have f31:w3.frozen? ⟨w.heap.size,1,none⟩=false:=by simp[aP,k3]
 obtain⟨w4,lP⟩:=cG (w3.setCell ⟨w.heap.size,1,none⟩ (.v ((sv:Int)+1)));have hK4:Kept (·=w.heap.size) w3 w4:=by rw[lP];exact(Kept.refl (·=w.heap.size) w3).setCell (p:=⟨w.heap.size,1,none⟩) rfl _
 have k4:w4.heap[w.heap.size]?=some (.cells #[.i (ns:Int),.v ((sv:Int)+1),.i x.dK,.v (x.ep:Int),.slice r.sa x.stamp.length r.sc,.slice r.ea x.dB.length r.ec,.u (x.cl:Int)] 40 (0,0)):=by
  rw[lP,aL w3 w.heap.size 1 _ 40 _ k3];rfl
 have d44:w4.cell? ⟨w.heap.size,4,none⟩=some (.slice r.sa x.stamp.length r.sc):=aB _ _ 4 _ 40 (0,0) k4;have f44:w4.frozen? ⟨w.heap.size,4,none⟩=false:=by simp[aP,k4]
 obtain⟨w5,nM⟩:=cG (w4.setCell ⟨w.heap.size,4,none⟩ (.slice a1 nv k1));have Gi:Kept (·=w.heap.size) w4 w5:=by rw[nM];exact(Kept.refl (·=w.heap.size) w4).setCell (p:=⟨w.heap.size,4,none⟩) rfl _
 have k5:w5.heap[w.heap.size]?=some (.cells #[.i (ns:Int),.v ((sv:Int)+1),.i x.dK,.v (x.ep:Int),.slice a1 nv k1,.slice r.ea x.dB.length r.ec,.u (x.cl:Int)] 40 (0,0)):=by
  rw[nM,aL w4 w.heap.size 4 _ 40 _ k4];rfl
 have dU:=oW.trans J9;have eM:=dU.trans hK4;have oP:=eM.trans Gi;have E3:=cE kz;have E4:=cE lP;have E5:=cE nM;clear kz lP nM;refine⟨oW,?_⟩;simp only[cQ];refine uI 21 rfl w3 dU ?_ (hx:=by rw[E3.out];go_simp<;>first|rfl|exact⟨rfl,rfl⟩);simp only[cQ];refine tI 22 rfl dU ?_;simp only[cQ];refine uI 23 rfl w4 eM ?_ (hx:=by rw[E4.out];go_simp<;>first|rfl|exact⟨rfl,rfl⟩);simp only[cQ];refine tI 24 rfl eM ?_;simp only[cQ];refine uI 25 rfl w5 oP ?_ (hx:=by rw[E5.out];go_simp<;>first|rfl|exact⟨rfl,rfl⟩);simp only[cQ];refine wpAnyH_done cK ?_ _;have hi:cT (m.item x) ⟨a1,k1,r.ea,r.ec⟩=[.i (ns:Int),.v ((sv:Int)+1),.i x.dK,.v (x.ep:Int),.slice a1 nv k1,.slice r.ea x.dB.length r.ec,.u (x.cl:Int)]:=by
  have e1:m.v.getD m.site 0=sv:=by simp[aH,HV.out.1]
  simp only[cT,cS.item,e1,HV.out.2.2.1,HV.out.2.2.2];rfl
 obtain⟨h,ok,hr,hl,hn,h1,h2,hd0,hX,hN⟩:=HH.out;have oO:cF w w5:=me.out.2.2.2.2 w5 oP;have h5:=h.below oO;have af3:rW w5 A.lo ⟨a1,k1,r.ea,r.ec⟩ L (m.item x):=by
  have LN:dr w5 (fQ w1.heap.size) a1 m.v:=(((LQ.mono (lo':=fun b=>w1.heap.size≤b) (fun b _ hb=>aC hd.size hb)).kept J9 (fun b hb _ e=>by have e:b=w.heap.size:=e;have:=me.out.2.2.1;omega)).kept hK4 (fun b hb _ e=>by have e:b=w.heap.size:=e;have:=me.out.2.2.1;omega)).kept Gi (fun b hb _ e=>by have e:b=w.heap.size:=e;have:=me.out.2.2.1;omega);refine⟨LN.mono (fun b _ hb=>h.NI (by have hb:w1.heap.size≤b:=hb;have:=me.out.2.2.1;omega)),(hl.below oO).both (fun _ _ _=>trivial),(hr.below oO).mono oO.size,fun ad e=>⟨(hn ad e).1,aj (hn ad e).2 oO.size⟩⟩
 have hsw:w.heap.size<w5.heap.size:=af k5;have ap:=h.apart;obtain⟨ov,EE⟩:∃v,v=A.ov:=⟨_,rfl⟩;have y6:∀w',Kept (fun b=>A.ov.ownBlock=some b) w5 w'→w'.cell? ⟨A.mb,6,none⟩=some ov:=fun w' hk=>(hk.cell (p:=⟨A.mb,6,none⟩) (af h5.blk) ap.o.1).trans (h5.cells.2.2.2.2.2.2.trans (by rw[EE]))
 have yi:∀w',Kept (fun b=>A.ov.ownBlock=some b) w5 w'→w'.rangeAt w.heap.size 0 [.i (ns:Int),.v ((sv:Int)+1),.i x.dK,.v (x.ep:Int),.slice a1 nv k1,.slice r.ea x.dB.length r.ec,.u (x.cl:Int)]:=fun w' hk=>dD (hk.same k5 (fun e=>by have:=(h.own.lt _ e).2;omega))
 have eY:Hid (cH 40 7):=cE cK;obtain⟨WD,XS⟩:=cG w5.drew;obtain⟨wa,rL⟩:=cG (WD.alloc (.cells #[.i (ns:Int),.v ((sv:Int)+1),.i x.dK,.v (x.ep:Int),.slice a1 nv k1,.slice r.ea x.dB.length r.ec,.u (x.cl:Int)] 40));have hd5:cF w5 WD:=by rw[XS];exact(aJ _ w5).drew
 have hba:cF w5 wa:=by rw[rL];exact cR hd5 _
 have hsd:WD.heap.size=w5.heap.size:=by rw[XS];rfl
 have hca:∀j u,([.i (ns:Int),.v ((sv:Int)+1),.i x.dK,.v (x.ep:Int),.slice a1 nv k1,.slice r.ea x.dB.length r.ec,.u (x.cl:Int)]:List aA)[j]?=some u→wa.cell? ((⟨WD.heap.size,0,none⟩:bW).add j)=some u:=fun j u hu=>by
  rw[bT,aR,rL,aB _ _ j _ 40 (0,0) (aG WD _)];simpa using hu
 have h6:=h5.below hba;obtain⟨i0,xF,hz0,hz1,hz2⟩:=info_parts I7;have hol:m.own.length≤1000000:=by rw[ok.xV];exact aC (cS.wO ok.vN _) hN
 obtain⟨v',w6,Wg,hown',hgrow,zZ,hall⟩:=qY (P:=prog) (w:=wa) w0.heap.size 52 52 40 i0 (.agg #[.I,.V,.I,.V,.n,.n,.U]) 7 88 underlying52 xF hz0 hz1 hz2 rfl cM A.ov _ _ h6.own ⟨WD.heap.size,0,none⟩ 1 1 _ rfl hca (by intro u hu;simp only[aK,aF,or_false] at hu;rcases hu with rfl|rfl|rfl|rfl|rfl|rfl|rfl<;>rfl) (by unfold maxLen;omega) cL h6.bl.size (fun x=>J1 x=true) h6.oq (by intro u hu;simp only[aK,aF,or_false] at hu;rcases hu with rfl|rfl|rfl|rfl|rfl|rfl|rfl<;>rfl) (bG.1 cO) cM;have af2:=af3.iJ (dm (S:=fun _=>False) hba) (oD hba) (fun _ _ _ e=>e);rw[←hi] at hown';obtain⟨g',cap',rfl⟩:=cq hown';obtain⟨h7,Oc⟩:=h6.push af2 ((hl.below oO).below hba) hown' hgrow zZ hall;obtain⟨w7,nY⟩:=cG (w6.setCell ⟨A.mb,6,none⟩ (.slice (some ⟨g',0,none⟩) (m.own.length+1) cap'));rw[←nY] at h7 Oc;have uH:Kept (fun b=>A.ov.ownBlock=some b) w5 w6:=(dm hba).trans (fT hgrow);have afQ:=uH.same h5.blk ap.o.1;have akT:w6.cell? ⟨A.mb,6,none⟩=some ov:=y6 w6 uH;have akJ:w6.frozen? ⟨A.mb,6,none⟩=false:=by simp[aP,afQ]
 have Kb:=cE (cD XS (cD rL nY));have H7:=cE (cD h7 (cD Oc (cD hba (cD oO hsw))));have HWH:=cE zZ;rw[←EE] at Wg;clear EE h7 Oc h6 af2 hown' hgrow zZ hall afQ h5 af3 hi h ok hr hl hn h1 h2 hd0 hX nY hca rL XS hsd hol i0 xF hz0 hz1 hz2 ap hS oW dU eM J9 hK4 Gi k2 k3 k4 d20 d31 d44 f20 f31 f44 y0 y5 ys;go_wp2_with fail
 refine(aY (n:=0)).1 (fB (S:=fun w'=>Kept (fun b=>A.ov.ownBlock=some b) w5 w') (c:=10) ?_);rw[←Kb.out.1];have hS:Kept (fun b=>A.ov.ownBlock=some b) w5 WD:=dm hd5;have QU:Kept (fun b=>A.ov.ownBlock=some b) w5 wa:=dm H7.out.2.2.1;refine fJ 0 hS ?_;simp only[cQ];refine fJ 1 hS ?_;simp only[cQ];refine fJ 2 hS ?_;simp only[cQ];refine fJ 3 hS ?_;simp only[cQ];refine fI 4 rfl hS (fun w' hS'=>by have:=y6 w' hS';go_simp<;>rfl) ?_;simp only[cQ];refine fI 5 rfl hS (fun w' hS'=>pJ 40 (.tmp 5) rfl w.heap.size 0 rfl _ _ (yi w' hS') underlying40 rfl eY.out) ?_;simp only[cQ];refine fK 6 rfl fun K' gp=>?_
 gi_wp2_with fail
 rw[←Kb.out.2.1];refine gp _ _ QU ?_;clear gp;refine fK 7 rfl fun K' gp=>?_
 refine mj (.tmp 33) (.tmp 35) 52 rfl ov _ _ w6 rfl rfl Wg (gp _ _ uH ?_);clear gp;simp only[cQ];refine fJ 8 uH ?_;simp only[cQ];refine fJ 9 uH ?_;simp only[cQ];refine fC 10 rfl fun K' gp=>?_
 gi_wp2_with fail
 rw[←Kb.out.2.2];refine fD ?_ cK _;clear akT akJ y6 yi hS QU uH Wg;obtain⟨h7,Oc,Gd,oO,QF⟩:=H7.out;obtain⟨abB,abw,abJ,abK⟩:=HV.out;have hc7:=h7.cells;have z0:∀w',cF w7 w'→w'.cell? ⟨A.mb,0,none⟩=some (.i ns):=fun w' hb=>(hb.cell (p:=⟨A.mb,0,none⟩) (af h7.blk)).trans (hc7.1.trans (by rw[abK]))
 have z5:∀w',cF w7 w'→w'.cell? ⟨A.mb,5,none⟩=some (.slice (some ⟨vb,vo,none⟩) nv A.vc):=fun w' hb=>(hb.cell (p:=⟨A.mb,5,none⟩) (af h7.blk)).trans (hc7.2.2.2.2.2.1.trans (by rw[abJ];show some (Value.slice A.va _ _)=_;rw[abw]))
 have Az:Hid (∀W,cF w7 W→aU prog 251 #[.slice (some ⟨vb,vo,none⟩) nv A.vc,.i ns] W (jI W (lE m.v m.site))):=cE (fun W hW=>by
  have ok:=HH.out.2.1;have e1:m.v.getD m.site 0=sv:=by simp[aH,abB]
  rw[abK,abJ,←abw];exact NU W A.va A.vc _ m.v m.site ok.site (by have:=ok.vl;omega) (by rw[e1];have:=ok.vN _ (ag abB);omega) (h7.data.v.below hW))
 have hS:cF w7 w7.drew:=(aJ _ w7).drew;clear hc7 h7 Oc Gd oO QF abB abw abJ abK;go_wp2_with fail
 refine(aY (n:=0)).1 (fB (S:=fun w'=>cF w7 w') (c:=12) ?_);refine fJ 0 hS ?_;simp only[cQ];refine fJ 1 hS ?_;simp only[cQ];refine fJ 2 hS ?_;simp only[cQ];refine fJ 3 hS ?_;simp only[cQ];refine fI 4 rfl hS (fun w' hS'=>by have:=z5 w' hS';go_simp<;>rfl) ?_;simp only[cQ];refine fJ 5 hS ?_;simp only[cQ];refine fJ 6 hS ?_;simp only[cQ];refine fJ 7 hS ?_;simp only[cQ];refine fI 8 rfl hS (fun w' hS'=>by have:=z0 w' hS';go_simp<;>rfl) ?_;simp only[cQ];refine fK 9 rfl fun K' gp=>?_
 gi_wp2_with fail
 refine⟨trivial,rfl,(bg.2 (Az.out w7.drew hS)).mono ?_⟩;rintro e w8 yt;obtain⟨a2,k2,rfl,_,yt,CI⟩:=yt.sl;have BN:(lE m.v m.site).length=nv:=by rw[cS.pM,HV.out.2.2.1]
 have jL:cF w7 w8:=hS.trans (CI.mono hS.size);have h9:=(H7.out.1.below jL).aej (a:=a2) (c:=k2) (V:=lE m.v m.site) (yt.mono (fun b _ hb=>H7.out.1.NI hb));rw[BN] at h9⊢;have Aa:=(H7.out.1.below jL).blk;have ab2:w8.cell? ⟨A.mb,5,none⟩=some (.slice (some ⟨vb,vo,none⟩) nv A.vc):=z5 w8 jL;have abW:w8.frozen? ⟨A.mb,5,none⟩=false:=by
  have Aa:w8.heap[A.mb]?=_:=Aa;simp[aP,Aa]
 obtain⟨w9,nL⟩:=cG (w8.setCell ⟨A.mb,5,none⟩ (.slice a2 nv k2));have Wn:Kept (·=A.mb) w8 w9:=by rw[nL];exact(Kept.refl (·=A.mb) w8).setCell (p:=⟨A.mb,5,none⟩) rfl _
 rw[←nL] at h9;have VB:=cE nL;have H9:=cE (cD h9 (cD Wn jL));refine gp _ _ jL ?_;clear gp nL h9 Wn Aa yt CI BN;refine fJ 10 jL ?_;simp only[cQ];refine fJ 11 jL ?_;simp only[cQ];refine fC 12 rfl fun K' gp=>?_
 gi_wp2_with fail
 rw[←VB.out];refine fD ?_ cK _;clear ab2 abW z0 z5 hS jL;obtain⟨h9,Wn,jL⟩:=H9.out;obtain⟨h7,Oc,Gd,oO,QF⟩:=H7.out;obtain⟨h,ok,hr,hl,hn,h1,h2,hd0,hX,_⟩:=HH.out;have hzm:A.Z A.mb:=A.zm;have hdb:=h.xz db hX;have qJ:Kept (fun b=>A.Z b∨b=db) w w9:=by
  have e1:Kept (fun b=>A.Z b∨b=db) w wa:=dm (oO.trans (Gd.mono oO.size));have e2:Kept (fun b=>A.Z b∨b=db) wa w7:=Oc.mono (fun b _ e=>by
   rcases e with e|e
   ·exact .inl (A.zo e)
   exact .inl (e▸A.zm))
  have e3:Kept (fun b=>A.Z b∨b=db) w7 w8:=dm jL;have e4:Kept (fun b=>A.Z b∨b=db) w8 w9:=Wn.mono (fun b _ e=>.inl (by have e:b=A.mb:=e;exact e▸A.zm));exact e1.trans (e2.trans (e3.trans e4))
 have abY:DB w9 db E R I:=by
  have e1:=hd0.below (oO.trans (Gd.mono oO.size));have e2:=e1.kept Oc (fun e=>by
   rcases e with e|e
   ·exact hdb.1 (A.zo e)
   exact hdb.1 (e▸A.zm))
  exact(e2.below jL).kept Wn (fun e=>hdb.1 (by have e:db=A.mb:=e;exact e▸A.zm))
 have hwal:w.heap.size<wa.heap.size:=aj QF Gd.size;have af5:wa.heap[w.heap.size]?=_:=(Gd.block _ QF).trans k5;have Yb:w7.heap[w.heap.size]?=_:=(Oc.block _ hwal (fun e=>by
   rcases e with e|e
   ·have:=(h.own.lt _ e).2
    omega
   have:=h.Dx A.zm;omega)).trans af5
 have Ya:w9.heap[w.heap.size]?=_:=(Wn.block _ (aj (af Yb) jL.size) (fun e=>by have e:w.heap.size=A.mb:=e;have:=h.Dx A.zm;omega)).trans ((jL.block _ (af Yb)).trans Yb);have afU:=af Ya;obtain⟨wb,ym⟩:=cG (w9.alloc (.cells #[.i (ns:Int),.v ((sv:Int)+1),.i x.dK,.v (x.ep:Int),.slice a1 nv k1,.slice r.ea x.dB.length r.ec,.u (x.cl:Int)] 40));have iQ:cF w9 wb:=by rw[ym];exact cR (aJ _ _) _
 have Up:wb.heap[w9.heap.size]?=some (.cells #[.i (ns:Int),.v ((sv:Int)+1),.i x.dK,.v (x.ep:Int),.slice a1 nv k1,.slice r.ea x.dB.length r.ec,.u (x.cl:Int)] 40 (0,0)):=by rw[ym];exact aG w9 _
 have hi:cT (m.item x) ⟨a1,k1,r.ea,r.ec⟩=[.i (ns:Int),.v ((sv:Int)+1),.i x.dK,.v (x.ep:Int),.slice a1 nv k1,.slice r.ea x.dB.length r.ec,.u (x.cl:Int)]:=by
  have e1:m.v.getD m.site 0=sv:=by simp[aH,HV.out.1]
  simp only[cT,cS.item,e1,HV.out.2.2.1,HV.out.2.2.2];rfl
 have hib:wb.rangeAt w.heap.size 0 [.i (ns:Int),.v ((sv:Int)+1),.i x.dK,.v (x.ep:Int),.slice a1 nv k1,.slice r.ea x.dB.length r.ec,.u (x.cl:Int)]:=dD ((iQ.block _ afU).trans Ya);have HIB:=cE (dD Ya);have af1:eu wb mR ⟨a1,k1,r.ea,r.ec⟩ L (m.item x):=by
  have hc:(A.C++[((⟨a1,k1,r.ea,r.ec⟩:dS),L)])[m.own.length]?=some (⟨a1,k1,r.ea,r.ec⟩,L):=by
   rw[au (by rw[h.cl];exact bJ _),h.cl,Nat.sub_self];rfl
  have ho:(m.own++[m.item x])[m.own.length]?=some (m.item x):=by
   rw[au (bJ _),Nat.sub_self];rfl
  exact((h9.below iQ).data.dY m.own.length (m.item x) (⟨a1,k1,r.ea,r.ec⟩,L) ho hc).at_
 have sL:=Iu wb w9.heap.size 0 1 0 [(m.item x,⟨a1,k1,r.ea,r.ec⟩)] [L] mR (fun k y hy=>by
  have hk:k=0:=by have:=(aa.1 hy).1;simp at this;exact this
  subst hk;simp at hy;subst hy;exact⟨w9.heap.size,0,rfl,af Up,by rw[hi];exact dD Up,L,rfl,af1⟩) cN (af Up) (fun y hy=>by
  simp at hy;subst hy;exact⟨by show m.v.length≤1000;have:=ok.vl;omega,h1,h2⟩)
 have hpk:(gZ id 0 [(m.item x,(⟨a1,k1,r.ea,r.ec⟩:dS))] 1).take 8=[(m.item x,⟨a1,k1,r.ea,r.ec⟩)]:=by
  unfold gZ;have:decide (0<(m.item x).seq)=true:=by simp[cS.item]
  simp[this]
 have hpl:[(m.item x,(⟨a1,k1,r.ea,r.ec⟩:dS))].length=1:=rfl;rw[hpl,hpk] at sL;have Ay:=cE sL;have HWB:=cE (cD ym (cD iQ (cD h9 (cD qJ (cD abY hdb)))));have asH:=cE Up;clear sL hpk hpl af1 hi ym iQ h9 qJ abY hdb Wn jL h7 Oc Gd oO QF h ok hr hl hn h1 h2 hd0 hX hwal af5 Yb Ya afU hib Up hzm;go_wp2_with (first
  |(refine aN rfl 40 (.tmp 5) rfl w.heap.size 0 rfl [.i (ns:Int),.v ((sv:Int)+1),.i x.dK,.v (x.ep:Int),.slice a1 nv k1,.slice r.ea x.dB.length r.ec,.u (x.cl:Int)] _ HIB.out underlying40 rfl eY.out ?_)
  |fail)
 rw[←HWB.out.1];refine Ay.out.mono ?_;rintro e kq ⟨v10,C10,rfl,ZV,Ub,ZL,s0⟩;obtain⟨⟨⟨sa',KI,ea',Mq⟩,L'⟩,aln⟩:∃c,C10=[c]:=by
  match C10,ZV with
  |[c],_=>exact⟨c,rfl⟩
 subst aln;have X9:=ZL 0 _ _ rfl rfl;obtain⟨gx,gc,rfl⟩:=cq (k:=0) Ub;have afF:=Ub.cells (g:=gx) rfl;obtain⟨s2,hs2⟩:∃n,n=(m.item x).stamp.length:=⟨_,rfl⟩;obtain⟨x2,hx2⟩:∃y,y=m.item x:=⟨_,rfl⟩;have eW:kq.rangeAt gx 0 (cT x2 ⟨sa',KI,ea',Mq⟩):=fun j u hu=>by
  have:=afF j u (by rw[←hx2];simpa using hu);rw[bT,aR] at this;rw[aR];exact this
 have QM:=(HWB.out.2.2.2.2.1.below HWB.out.2.1).below s0;have p9:kq.there db 36 7:=QM.there 36 7 cM;have mX:=cE eW;have zP:=cE p9;have gu:Hid ((cT x2 ⟨sa',KI,ea',Mq⟩).toArray.all (·.oneCell')=true):=cE (by simp[cT,bL]);obtain⟨p8,qN⟩:=cG (kq.setCells db 36 (cT x2 ⟨sa',KI,ea',Mq⟩));have JR:=cE qN;have JX:=cE (cD QM (cD X9 (cD s0 hx2)));clear eW p9 qN QM X9 s0 Ub afF ZL ZV hs2 hx2;unfold cT at mX gu JR;go_wp2_with (first
  |(refine aN rfl 40 (.tmp 55) rfl gx 0 rfl [.i x2.ew,.v (x2.seq:Int),.i x2.dK,.v (x2.ep:Int),.slice sa' x2.stamp.length KI,.slice ea' x2.dB.length Mq,.u (x2.cl:Int)] _ mX.out underlying40 rfl eY.out ?_)
  |(refine bM rfl 40 (.tmp 58) (.tmp 56) rfl db 36 #[.i x2.ew,.v (x2.seq:Int),.i x2.dK,.v (x2.ep:Int),.slice sa' x2.stamp.length KI,.slice ea' x2.dB.length Mq,.u (x2.cl:Int)] rfl rfl zP.out eY.out gu.out ?_)
  |fail)
 go_end0
 have qN:p8=kq.setCells db 36 _:=JR.out;rw[←qN];obtain⟨QM,X9,s0,hx2⟩:=JX.out;obtain⟨_,iQ,h9,qJ,abY,hdb⟩:=HWB.out;have hX:=HH.out.2.2.2.2.2.2.2.2.1;obtain⟨hD,hU⟩:=QM.ael (I':=cT x2 ⟨sa',KI,ea',Mq⟩) rfl (zf _ _);have h10:=((h9.below iQ).below s0).Nk (o:=36) (cs:=cT x2 ⟨sa',KI,ea',Mq⟩) QM hX hU;have agz:=ic kq db 36 (cT x2 ⟨sa',KI,ea',Mq⟩);have agn:cF w9 kq:=iQ.trans (s0.mono iQ.size);have qB:p8=kq.setCells db 36 (cT x2 ⟨sa',KI,ea',Mq⟩):=qN;refine⟨rfl,⟨a2,k2,.slice (some ⟨g',0,none⟩) (m.own.length+1) cap',A.C++[((⟨a1,k1,r.ea,r.ec⟩:dS),L)],?_,fun b e=>(HWH.out b e).imp id (fun e2=>?_)⟩,⟨⟨sa',KI,ea',Mq⟩,L',?_,?_⟩,?_⟩
 ·rw[qB]
  exact h10
 ·have h2:=H7.out.2.2.1.size
  have h3:=H7.out.2.2.2.1.size;omega
 ·rw[qB,←hx2]
  exact hD
 ·rw[qB]
  refine((X9.kept agz (fun b hb e=>?_))).mono (fun b hb=>?_)
  ·have hb:=hb.1
   have e:b=db:=e;have h1:=hdb.2.2;have h2:=qJ.size;have h3:=iQ.size;omega
  have hb:=hb.1;have h2:=qJ.size;have h3:=iQ.size;exact⟨by omega,h10.Bt (fun e=>by have:=(h9.own.lt b e).2;omega)⟩
 rw[qB];exact(qJ.trans (dm agn)).trans (agz.mono (fun b _ e=>.inr e))
def sX(site sites:Int)(L:List cP):Int:=if sites<1∨3<sites∨site<0∨sites≤site then 1 else mz L
def Hy(b:Nat):aA:=.p b
structure Fg(w0 w6:ay)(mb:Nat)(hd tl:List aA)(L:List cP)(k:Nat)(v:aA)(T:List Nat)(wr:ay):Prop where
 len:T.length=k
 blk:wr.heap[mb]?=some (.cells (hd++[v]++tl).toArray 107 (0,0))
 own:wr.ownsRow w6.heap.size 57 1 v k (T.map Hy)
 all:mA wr v (fun x=>J1 x=true)
 tr:∀(r:Nat) b p,T[r]?=some b→L[r]?=some p→w6.heap.size≤b∧TR w0 wr b p 0 [(p,iN)]
 nd:T.Nodup
 lt:∀b∈T,b<wr.heap.size
 kept:Kept (·=mb) w6 wr
theorem QC:(prog.info? 57).map (fun i=>(i.zero,i.size,i.bytes))=some (some (.pointer none),1,8):=by kernel_rfl
theorem Fg.next{w0 w6 wr w7 w8:ay}{mb b:Nat}{hd tl:List aA}{L:List cP}{k:Nat}{v v':aA}{T:List Nat}{p:cP}(h:Fg w0 w6 mb hd tl L k v T wr)(hh:hd.length=2)(hp:L[k]?=some p)(hq:∀x∈hd++tl,J1 x=true)(hmb:mb<w6.heap.size)(h0:w0.heap.size≤mb)
  (hb:wr.heap.size≤b) (hR:TR w0 w7 b p 0 [(p,iN)]) (b7:cF wr w7) {wa:ay} (ba:cF w7 wa)
  (hown:w8.ownsRow w6.heap.size 57 1 v' (k+1) (T.map Hy++[Hy b])) (hg:wa.grownBy w8 v.ownBlock) (hw:∀j,v'.ownBlock=some j→v.ownBlock=some j∨wa.heap.size≤j) (hall:mA w8 v' (fun x=>J1 x=true)):
  Fg w0 w6 mb hd tl L (k+1) v' (T++[b]) (w8.setCell ⟨mb,2,none⟩ v')∧w8.heap[mb]?=some (.cells (hd++[v]++tl).toArray 107 (0,0)):=by
 have b6:w6.heap.size≤wr.heap.size:=h.kept.size;have gM:b<w7.heap.size:=hR.lt;have hk1:Kept (fun j=>v.ownBlock=some j) wa w8:=fT hg;have LK:∀j,v.ownBlock=some j→w6.heap.size≤j∧j<wr.heap.size:=fun j e=>h.own.lt j e
 have b77:=b7.size;have baa:=ba.size;have X0:wa.heap[mb]?=some (.cells (hd++[v]++tl).toArray 107 (0,0)):=(ba.block _ cL).trans ((b7.block _ (af h.blk)).trans h.blk);have Aa:w8.heap[mb]?=some (.cells (hd++[v]++tl).toArray 107 (0,0)):=(hk1.block _ (af X0) (fun e=>by have:=(LK _ e).1;omega)).trans X0;have hk2:Kept (·=mb) w8 (w8.setCell ⟨mb,2,none⟩ v'):=(Kept.refl (·=mb) w8).setCell (p:=⟨mb,2,none⟩) rfl _;have hqv:J1 v=true:=by
  rcases h.own.2 with ⟨e,_⟩|⟨g,cap,cur,e,_⟩<;>rw[e]<;>rfl
 have hS:Kept (fun j=>v.ownBlock=some j∨j=mb) wa (w8.setCell ⟨mb,2,none⟩ v'):=(hk1.mono (fun j _ e=>.inl e)).trans (hk2.mono (fun j _ e=>.inr e));have agZ:mA wa v (fun x=>J1 x=true):=(h.all.kept (dm (S:=fun _=>False) b7) (fun _ _ e=>e)).kept (dm (S:=fun _=>False) ba) (fun _ _ e=>e);have hmq:JZ wa mb:=rS X0 (by
  rw[bG];intro x hx;have hx:x∈hd++[v]++tl:=by simpa using hx
  rcases aE.1 hx with h1|h1
  ·rcases aE.1 h1 with h2|h2
   ·exact hq x (List.mem_append_left _ h2)
   simp at h2;rw[h2];exact hqv
  exact hq x (List.mem_append_right _ h1))
 have hu:kj wa (w8.setCell ⟨mb,2,none⟩ v'):=hS.bytes (fun j e=>by
  rcases e with e|e
  ·exact(agZ.q e).Tn
  exact e▸hmq.Tn)
 have hna:∀j,(v.ownBlock=some j∨j=mb)→kR wa j∧w0.heap.size≤j:=fun j e=>by
  rcases e with e|e
  ·obtain⟨cur,t,fr,e1,_⟩:=agZ j e
   exact⟨gQ e1,by have:=(LK j e).1;omega⟩
  subst e;exact⟨gQ X0,h0⟩
 have hv8:∀j,v'.ownBlock=some j→j≠mb:=fun j e e2=>by
  subst e2;rcases hw _ e with h1|h1
  ·have:=(LK _ h1).1
   omega
  omega
 have hbt:∀c,c∈T∨c=b→c≠mb∧v.ownBlock≠some c:=fun c hc=>by
  refine⟨fun e=>?_,fun e=>?_⟩
  ·rcases hc with hc|hc
   ·obtain⟨r,hr⟩:=aI.1 hc
    have N0:r<k:=by rw[←h.len];exact(aa.1 hr).1
    obtain⟨q,hq⟩:∃q,L[r]?=some q:=⟨_,an (by have:=(aa.1 hp).1;omega)⟩;have:=(h.tr r c q hr hq).1;omega
   omega
  rcases hc with hc|hc
  ·obtain⟨r,hr⟩:=aI.1 hc
   have N0:r<k:=by rw[←h.len];exact(aa.1 hr).1
   obtain⟨q,hq⟩:∃q,L[r]?=some q:=⟨_,an (by have:=(aa.1 hp).1;omega)⟩;obtain⟨lo,mm,T1⟩:=(h.tr r c q hr hq).2.tree;exact iU h.own T1.blk cM e
  have:=(LK c e).2;omega
 refine⟨⟨by rw[ah,h.len];rfl,?_,?_,hall.kept hk2 (fun g hg e=>hv8 g hg (by have e:g=mb:=e;exact e)),fun r c q hr hq=>?_,?_,fun c hc=>?_,?_⟩,Aa⟩
 ·rw[aL w8 mb 2 _ 107 _ Aa]
  congr 2
  match hd,hh with
  |[x,y],_=>rfl
 ·have:=fm hown hk2 (fun g hg e=>hv8 g hg (by have e:g=mb:=e;exact e))
  simpa using this
 ·rcases aV r T.length with hlt|hge
  ·rw[aq hlt] at hr
   have h1:=h.tr r c q hr hq;have de:=hbt c (.inl (ag hr));exact⟨h1.1,((h1.2.below b7).below ba).iJ hS hu (fun e=>e.elim de.2 de.1) hna cN⟩
  rw[au hge] at hr;have h0':r - T.length=0:=by
   have:=(aa.1 hr).1;simp at this;omega
  rw[h0'] at hr;simp at hr;subst hr;have N0:r=k:=by rw[←h.len];omega
  subst N0;rw[hp] at hq;cases hq;have de:=hbt b (.inr rfl);exact⟨by omega,(hR.below ba).iJ hS hu (fun e=>e.elim de.2 de.1) hna cN⟩
 ·rw[List.nodup_append]
  refine⟨h.nd,by simp,fun x hx y hy=>?_⟩;simp at hy;subst hy;have:=h.lt x hx;omega
 ·have NY:=hS.size
  rcases aE.1 hc with hc|hc
  ·have:=h.lt c hc
   omega
  simp at hc;subst hc;omega
 have k1:Kept (fun j=>v.ownBlock=some j∨j=mb) w6 (w8.setCell ⟨mb,2,none⟩ v'):=(((h.kept.mono (fun j _ e=>.inr e)).trans (dm b7)).trans (dm ba)).trans hS;exact⟨k1.os,k1.tape,k1.output,k1.size,fun j hlt hnb=>k1.block j hlt (fun e=>by
  rcases e with e|e
  ·have:=(LK j e).1
   omega
  exact hnb e)⟩
theorem vA{P:Program}{w:ay}{ops:Array Oper}{rest:List Oper}{o:Oper}{a:Act}{Q:Exit→Act→ay→Prop}(hgd:o.guard=none)(s x:Operand)(t:TypeId)
  (ho:o.op=.call {callee:=.builtin .append,args:=#[s,x],argTypes:=#[t,t]}) (v u v':aA) (w':ay) (hs:a.eval s=v) (hx:a.eval x=u) (hr:(cm #[t,t] o.type #[v,u]).run P w=.ok v' w')
  (h:wpList P ops Q rest (a.put o.dst v') w'):wpList P ops Q (o::rest) a w:=
 wpList_plain hgd fun _ hK=>by
  unfold Oper.wp execOp;simp only[ho,resolve,invoke,builtin,Sem.run_bind,Sem.run_pure,Result.andThen_ok,List.map_toArray,bS,List.map_nil,hs,hx,hr];exact hK _ _ h
def acF(w0 w:ay)(s n:Int)(L:List cP)(e:Ending)(w':ay):Prop:=
 cF w w'∧((sX s n L≠0∧e=.returned (.tuple #[.pointer none,.i (sX s n L)]))∨
  (sX s n L=0∧∃A:MA,e=.returned (.tuple #[.p A.mb,.I])∧(∀Y:Nat→Prop,(∀b,Y b→w0.heap.size≤b∧b<w.heap.size)→cU w0 w' {A with X:=Y} (cS.new s.toNat n.toNat L))∧(∀b,¬A.F b)∧∀b,A.Z b→w.heap.size≤b))
structure OF(w0 w w6:ay)(s:Nat)(n:Nat)(L:List cP)(mb kb sb gb:Nat)(ra va:Option bW)(rc vc:Nat):Prop where
 mbl:mb<w6.heap.size∧w.heap.size≤mb
 blk:w6.heap[mb]?=some (.cells #[.i s,.slice ra L.length rc,.n,.p kb,.p sb,.slice va n vc,.n] 107 (0,0))
 dH:gG w6 (fun b=>w.heap.size≤b∧b<kb) ra L
 tok:jr w6 kb (fun _=>False) (aD L.length iL)
 yR:iM w6 sb gb s 0 []
 v:dr w6 (fun b=>sb<b∧b<mb) va (aD n 0)
 ord:w.heap.size≤kb∧kb<gb∧gb<sb∧sb<mb
 bl:cF w w6
theorem IE:∀L:List cP,L.map (fun _=>iL)=aD L.length iL
 |[]=>rfl
 |x::L=>by simp only[bS,List.length_cons,List.replicate_succ,IE L]
theorem Xq{w0 w w6 wr:ay}{s n mb kb sb gb:Nat}{L:List cP}{ra va:Option bW}{rc vc:Nat}{v:aA}{T:List Nat}(bl:cF w0 w)(mx:dG w0)(pow:gB w0)(h:OF w0 w w6 s n L mb kb sb gb ra va rc vc)
  (hs:Fg w0 w6 mb [.i s,.slice ra L.length rc] [.p kb,.p sb,.slice va n vc,.n] L L.length v T wr) (h0:0<L.length):
  ∃A:MA,A.mb=mb∧(∀Y:Nat→Prop,(∀b,Y b→w0.heap.size≤b∧b<w.heap.size)→cU w0 wr {A with X:=Y} (cS.new s n L))∧(∀b,¬A.F b)∧∀b,A.Z b→w.heap.size≤b:=by
 obtain⟨n1,Aq⟩:∃m,L.length=m+1:=⟨L.length - 1,by omega⟩;have hown:=hs.own;rw[Aq] at hown;obtain⟨g,cap,rfl⟩:=cq hown;rw[←Aq] at hown;have Uj:=hown.lt g rfl;have hTr:∀(r:Nat) b,T[r]?=some b→w6.heap.size≤b∧∃p,L[r]?=some p∧TR w0 wr b p 0 [(p,iN)]:=fun r b hr=>by
  have hrl:r<L.length:=by rw[←hs.len];exact(aa.1 hr).1
  have:=hs.tr r b _ hr (an hrl);exact⟨this.1,_,an hrl,this.2⟩
 have hTm:∀b∈T,w6.heap.size≤b∧b≠g:=fun b hb=>by
  obtain⟨r,hr⟩:=aI.1 hb;obtain⟨h1,p,_,R⟩:=hTr r b hr;refine⟨h1,fun e=>?_⟩;obtain⟨lo,mm,T1⟩:=R.tree;exact iU hown T1.blk cM (by rw[e];rfl)
 obtain⟨o1,o2,o3,o4⟩:=h.ord;have hmb:=h.mbl.1;have hkm:∀b,b<w6.heap.size→b≠mb→¬(b=mb):=fun b _ e=>e
 have hzz:∀(Y:Nat→Prop) b,(⟨mb,kb,sb,gb,T,ra,rc,some ⟨g,0,none⟩,cap,va,vc,.n,[],Y,fun _=>False⟩:MA).Z b→w.heap.size≤b:=fun Y b e=>by
  have:=h.mbl.2;have:=h.bl.size;rcases e with e|e|e|e|e|e
  ·have e:b=mb:=e;omega
  ·have e:b=kb:=e;omega
  ·have e:b=sb:=e;omega
  ·have e:b=gb:=e;omega
  ·have:=(hTm b e).1;omega
  cases e
 refine⟨⟨mb,kb,sb,gb,T,ra,rc,some ⟨g,0,none⟩,cap,va,vc,.n,[],fun _=>False,fun _=>False⟩,rfl,fun Y hY=>?_,fun _ e=>e,hzz _⟩;have hz:∀b,(⟨mb,kb,sb,gb,T,ra,rc,some ⟨g,0,none⟩,cap,va,vc,.n,[],Y,fun _=>False⟩:MA).Z b→b=mb∨b=kb∨b=sb∨b=gb∨b∈T:=fun b e=>by
  rcases e with e|e|e|e|e|e
  ·exact .inl e
  ·exact .inr (.inl e)
  ·exact .inr (.inr (.inl e))
  ·exact .inr (.inr (.inr (.inl e)))
  ·exact .inr (.inr (.inr (.inr e)))
  cases e
 have hlo:∀b,w.heap.size≤b→b≠mb→b≠kb→b≠sb→b≠gb→b∉T→(⟨mb,kb,sb,gb,T,ra,rc,some ⟨g,0,none⟩,cap,va,vc,.n,[],Y,fun _=>False⟩:MA).lo b:=fun b h0 h1 h2 h3 h4 h5=>⟨fun e=>by
  rcases hz b e with e|e|e|e|e
  ·exact h1 e
  ·exact h2 e
  ·exact h3 e
  ·exact h4 e
  exact h5 e,fun e=>by have:=(hY b e).2;omega⟩
 have hnT:∀b,b<w6.heap.size→b∉T:=fun b hb hT=>by have:=(hTm b hT).1;omega
 have afz:gG wr (fun b=>w.heap.size≤b∧b<kb) ra L:=h.dH.iJ hs.kept (fun b hb _ e=>by have e:b=mb:=e;have:=hb.2;omega);have hv:dr wr (fun b=>sb<b∧b<mb) va (aD n 0):=h.v.kept hs.kept (fun b hb _ e=>by have e:b=mb:=e;have:=hb.2;omega);have aj3:jr wr kb (fun _=>False) (aD L.length iL):=h.tok.kept hs.kept (fun e=>by have e:kb=mb:=e;omega) (fun _ e=>e.elim);have aj7:iM wr sb gb s 0 []:=h.yR.kept hs.kept (fun e=>by have e:sb=mb:=e;omega) (fun e=>by have e:gb=mb:=e;omega);have gM:cF w0 wr:=(bl.trans (h.bl.mono bl.size)).trans (hs.kept.below (by have:=bl.size;have:=h.bl.size;omega) (fun b e=>by have e:b=mb:=e;have:=bl.size;have:=h.mbl.2;omega));have bls:=bl.size;have hbs:=h.bl.size;have aqp:(aD n 0).length=n:=bU;have hroot:∀(r:Nat) p,L[r]?=some p→(cS.new s n L).root r=p∧(cS.new s n L).at_ r=0∧(cS.new s n L).nodes r=[(p,iN)]:=fun r p hp=>by
  have hrl:=(aa.1 hp).1;have e1:L.getD r []=p:=by simp[aH,hp]
  have e2:(L.map (fun r=>((0:Int),[(r,iN)]))).getD r (0,[])=(0,[(p,iN)]):=by simp[aH,hp]
  exact⟨e1,congrArg Prod.fst e2,congrArg Prod.snd e2⟩
 refine⟨?_,⟨afz.mono (fun b de dz=>hlo b cL cL cL cL cL (hnT b cL)),fun r b hr=>⟨g,0,rfl,hlo g cL cL cL cL cL (fun e=>(hTm g e).2 rfl),Uj.2,?_⟩,?_,fun i x c hx=>by simp[cS.new] at hx⟩,by rw[hs.len];simp[cS.new],fun r b hr=>?_,hs.nd,?_,?_,?_,?_,rfl,⟨by show kb≠mb;omega,by show kb≠sb;omega,hnT kb cL,fun e=>by cases e⟩,fun b e=>?_,fun b e=>⟨fun z=>by have:=hzz Y b z;have:=(hY b e).2;omega,(hY b e).1,by have:=(hY b e).2;have:=hs.kept.size;omega⟩,pow,mx,gM,⟨fun b e=>e.elim,fun r b hr=>?_,fun i x c hx=>by simp[cS.new] at hx⟩⟩
 ·have:=hs.blk
  rw[←Aq] at this;unfold MA.cells cS.new;simp only[List.length_map,bU];exact this
 ·have:=hown.cells (g:=g) rfl r (Hy b) (by rw[bC,hr];rfl)
  rw[bT,aR] at this;rw[aR];exact this
 ·show dr wr _ va (aD n 0)
  exact hv.mono (fun b _ hb=>hlo b cL cL cL cL cL (hnT b cL))
 ·obtain⟨h1,p,hp,R⟩:=hTr r b hr
  obtain⟨e1,e2,e3⟩:=hroot r p hp;rw[e1,e2,e3];exact⟨R,by simp⟩
 ·show jr wr kb _ (L.map (fun _=>iL))
  rw[IE];exact aj3.more (fun _ _ e=>e.elim)
 ·exact aj7
 ·exact World.ownsRow_nil wr w0.heap.size 40 7
 ·exact fun g hg=>by cases hg
 ·rcases hz b e with e|e|e|e|e
  ·have:=h.mbl.2;omega
  ·omega
  ·omega
  ·omega
  have:=(hTm b e).1;omega
 obtain⟨h1,p,hp,R⟩:=hTr r b hr;obtain⟨e1,e2,e3⟩:=hroot r p hp;rw[e1,e2,e3];exact jx.off R
end
def gO(k:Int)(p:cP):eC:=⟨k,p,[],0,false,false⟩
def gX(kind:Nat)(o:eC)(ep:Nat)(fr:List Nat):iS:=⟨kind,0,0,0,0,opHead o++(dI 8 0++[]),true,ko,0,0,ep,fr⟩
def Q4:iS:=gX 2 (gO 0 []) 0 []
def Mb:iS:=gX 1 (gO 1 PD) 0 []
def gXc:iS:=gX 5 (gO 0 []) 1 [0,0]
def gXf:iS:=gX 6 (gO 0 []) 1 []
def UF:cS:=cS.new 0 2 [pR]
def gM1:cS:=(UF.done Q4).1
def gM2:cS:=(gM1.done Mb).1
def gM3:cS:=(gM2.done gXc).1
def gM4:cS:=(gM3.done Mb).1
def gM5:cS:=(gM4.done gXf).1
def gM6:cS:=(gM5.done Mb).1
theorem fU:(UF.done Q4).2.e=0∧(UF.done Q4).2.a.path=[49]∧(gM1.done Mb).2.e=61∧(gM2.done gXc).2.e=0∧(gM3.done Mb).2.a.path=PD∧(gM3.done Mb).2.i.seq=1∧(gM3.done Mb).2.i.stamp=[0,0]∧
  (gM4.done gXf).2.e=0∧(gM5.done Mb).2.e=61∧gM6.v=[1,0]∧gM6.own.map (·.seq)=[1]∧sX 0 2 [pR]=0:=by decide+kernel
section
open Go.RowKit Go.Shelf Go.MapKept Go.ChangeMaps
def zR:List aA:=[.I,.z,.n,.U,.U,.U,.I,.U,.V,.V,.V,.n,.n]
def zI:List aA:=[.I,.V,.I,.V,.n,.n,.U]
def qQ:dS:=⟨none,0,none,0⟩
theorem Nb:cT ko qQ=zI:=rfl
theorem o5(w:ay)(lo:Nat→Prop):eu w lo qQ [] ko:=⟨fun k v hk=>by simp[ko] at hk,⟨rfl,fun k r e hk=>by simp at hk⟩,fun k q hq=>by simp at hq,fun ad e=>by cases e⟩
structure iq(B:Nat)(w0 w:ay)(A:MA)(db:Nat)(E:List aA)(x:cS×jt)(e:Ending)(w':ay):Prop where
 ret:∃(c e0:Int) (R:List aA) (r:dS) (L:List cZ),e=.returned (.i c)∧DB w' db E R (cT x.2.i r)∧fA w' (fQ B) (.agg R.toArray) e0 x.2.a x.2.r∧eu w' (fun b=>B≤b∧yL w' A.mb b) r L x.2.i∧x.2.e=(if c≠0∧e0=0 then c else e0)∧(c≠0→R=zR∧r=qQ∧L=[]∧x.2.i=ko∧x.2.a=l5∧x.2.r=[])
 st:∃va vc ov C,cU w0 w' (A.PL va vc ov C) x.1∧∀b,ov.ownBlock=some b→A.ov.ownBlock=some b∨w.heap.size≤b
 kept:Kept (fun b=>A.Z b∨b=db) w w'
section
variable{B:Nat}{w0 w w':World}{A:MA}{m:cS}{db:Nat}{E:List Value}
theorem gJ(h:cU w0 w' A m)(hd:DB w' db E zR zI)(c:Int)(hk:Kept (fun b=>A.Z b∨b=db) w w'):iq B w0 w A db E (m,nX c) (.returned (.i c)) w':=
 ⟨⟨c,0,zR,qQ,[],rfl,by rw[show(m,nX c).2.i=ko from rfl,Nb];exact hd,jP _ _ _,o5 _ _,by show c=_;by_cases hc:c=0<;>simp[hc],fun _=>⟨rfl,rfl,rfl,rfl,rfl,rfl⟩⟩,⟨A.va,A.vc,A.ov,A.C,h,fun b e=>.inl e⟩,hk⟩
theorem DB.aem{R I:List aA}(h:DB w db E R I){k:Nat}(hk:k<13){v:aA}(hv:∀n,v≠.b n):DB (w.setCell ⟨db,23+k,none⟩ v) db E (R.set k v) I∧kj w (w.setCell ⟨db,23+k,none⟩ v):=by
 refine⟨⟨?_,h.le,by rw[aW];exact h.lr,h.li,fun x hx=>?_,h.ni⟩,LA (fun n e=>?_)⟩
 ·rw[aL w db (23+k) _ 49 _ h.blk]
  congr 2
  rw[List.setIfInBounds_toArray,bF,bF,List.set_append_right _ _ (by rw[h.le];omega),h.le,show 23+k - 23=k by omega,List.set_append_left _ _ (by rw[h.lr];omega)]
 ·rcases aS hx with h1|h1
  ·exact h.nr x h1
  rw[h1];exact hv
 rw[h.rR k hk] at e;exact h.nr _ (ag e) n rfl
theorem cU.SK{R I:List aA}(h:cU w0 w A m){o:Nat}{v:aA}(hd:DB w db E R I)(hX:A.X db)(hu:kj w (w.setCell ⟨db,o,none⟩ v)):cU w0 (w.setCell ⟨db,o,none⟩ v) A m:=
 h.Ar ((Kept.refl (·=db) w).setCell (p:=⟨db,o,none⟩) rfl _) hu (fun b e=>by have e:b=db:=e;subst e;exact⟨hX,hd.mo⟩)
end
theorem fA.aeD{w:ay}{lo lo':Nat→Prop}{u:aA}{x:Int}{A:JY}{X:List xI}(h:fA w lo u x A X)(hl:∀k,lo k→k<w.heap.size→lo' k):fA w lo' u x A X:=by
 obtain⟨r,ka,kc,pa,pc,h1,h2,h3,h4⟩:=h;refine⟨r,ka,kc,pa,pc,h1,h2.monoB hl,h3.mono hl,fun k x hx=>?_⟩;obtain⟨g,off,r,e1,e2,e3,e4,e5⟩:=h4 k x hx;exact⟨g,off,r,e1,hl g e2 e3,e3,e4,e5.mono hl⟩
theorem fA.acB{w w':ay}{lo:Nat→Prop}{u:aA}{x:Int}{A:JY}{X:List xI}(h:fA w lo u x A X)(hb:cF w w'):fA w' lo u x A X:=h.dP (dm (S:=fun _=>False) hb) (fun _ _ _ h=>h)
theorem ae6(i:Nat)(h:i<100)(w:ay):aU prog 315 #[.i i,.i 10] w fun e w'=>e=.returned (.string (bs (aM i)))∧w'=w:=by
 have hs:=cE (Tryz.internal_strconv_small i h w);have t1:decide ((0:Int)≤(i:Int))=true:=by simp
 have t2:decide ((i:Int)<100)=true:=by simp;omega
 clear h;go_enter func315,ntmps315
 go_wp2_with fail
 refine hs.out.mono ?_;rintro e w1 ⟨rfl,rfl⟩;go_wp2
 go_ret
 exact⟨rfl,rfl⟩
theorem ae7(i:Nat)(h:i<100)(w:ay):aU prog 286 #[.i i] w fun e w'=>e=.returned (.string (bs (aM i)))∧w'=w:=by
 have hs:=cE (ae6 i h w);clear h;go_enter func286,ntmps286
 go_wp2_with fail
 refine hs.out.mono ?_;rintro e w1 ⟨rfl,rfl⟩;go_wp2
 go_ret
 exact⟨rfl,rfl⟩
theorem ae8(i:Nat)(h:i<100)(w:ay):aU prog 243 #[.i i] w fun e w'=>e=.returned (.string (bs (aM i)))∧w'=w:=by
 have hs:=cE (ae7 i h w);clear h;go_enter func243,ntmps243
 go_wp2_with fail
 refine hs.out.mono ?_;rintro e w1 ⟨rfl,rfl⟩;go_wp2
 go_ret
 exact⟨rfl,rfl⟩
theorem KC{w0 w:ay}{A:MA}{m:cS}{N B:Nat}(h:cU w0 w A m)(ok:m.Ok N){db:Nat}{E:List aA}(hd:DB w db E zR zI)(hX:A.X db)(hB:B≤w.heap.size):
  aU prog 169 #[.p A.mb,.p db] w (iq B w0 w A db E m.opens):=by
 have c4:=h.cells.2.2.2.2.1;have hl:=ok.last;by_cases h32:32≤m.last
 ·have HO:=cE (PF A.sb A.gb m.site m.last m.gone w h.yR cL)
  have ho:m.opens=(m,nX 4):=by unfold cS.opens;rw[if_pos h32]
  have HH:=cE (gJ (B:=B) (w:=w) h hd 4 (Kept.refl _ w));rw[ho];clear h ok hd hX hB hl h32 ho;go_enter func169,ntmps169
  go_wp2_with fail
  refine HO.out.mono ?_;rintro e w1 ⟨rfl,rfl⟩;go_wp2
  go_ret
  exact HH.out
 have HO:=cE (Xf A.sb A.gb m.site m.last m.gone w h.yR cL cL);have ho:m.opens=({m with last:=m.last+1},⟨0,⟨aM (m.last+1),iN,[]⟩,[],ko⟩):=by unfold cS.opens;rw[if_neg h32]
 rw[ho];obtain⟨n,hn⟩:=cG (m.last+1);have e1:(m.last:Int)+1=(n:Int):=by omega
 rw[e1] at HO;rw[←hn];have ZI:n<100:=by omega
 have HIT:=cE (fun w'=>ae8 n ZI w');have tw:∀_:True,IntKind.i64.wrap (n:Int)=(n:Int):=fun _=>IntWalk.i64_in _ cL
 have HH:=cE (cD h (cD hd (cD hX (cD hB hn))));clear h ok hd hX hB hl h32 ho e1 hn ZI;go_enter func169,ntmps169
 go_wp2_with fail
 refine HO.out.mono ?_;rintro e w1 ⟨rfl,hs1,hk1⟩;obtain⟨h,hd,hX,hB,hn⟩:=HH.out;have ap:=h.apart;have Ab:cU w0 w1 A {m with last:=n,gone:=m.gone}:=h.KE hk1 (fun b e=>.inl e) hs1;have hdb:db≠A.sb:=fun e=>(h.xz db hX).1 (e▸A.zs)
 have wK:=hd.kept hk1 hdb;have d24:w1.cell? ⟨db,24,none⟩=some (.z):=wK.rR 1 cM;have f24:w1.frozen? ⟨db,24,none⟩=false:=by simp[aP,wK.blk]
 obtain⟨hD,hU⟩:=wK.aem (k:=1) (v:=.string (bs (aM n))) cM (fun n e=>by cases e);have hm2:=Ab.SK wK hX hU;have qJ:Kept (fun b=>A.Z b∨b=db) w (w1.setCell ⟨db,24,none⟩ (.string (bs (aM n)))):=(hk1.mono (fun b _ e=>.inl (by have e:b=A.sb:=e;exact e▸A.zs))).trans ((Kept.refl _ w1).setCell (.inr rfl) _);obtain⟨w2,eS⟩:=cG (w1.setCell ⟨db,24,none⟩ (.string (bs (aM n))));rw[show 23+1=24 from rfl,←eS] at hD hm2;rw[←eS] at qJ;have HF:Hid (iq B w0 w A db E ({m with last:=n},⟨0,⟨aM n,iN,[]⟩,[],ko⟩) (.returned (.I)) w2):=cE ⟨⟨0,0,_,qQ,[],rfl,hD,⟨oZ,none,0,none,0,rfl,mY _ _,gG.nil _ _ _,jR.nil _ _ _⟩,o5 _ _,rfl,fun h=>absurd rfl h⟩,⟨A.va,A.vc,A.ov,A.C,hm2,fun b e=>.inl e⟩,qJ⟩;have lS:=cE eS;clear hs1 hk1 h hd hX hB hn ap Ab hdb wK hD hU hm2 qJ eS HH;go_wp2_with fail
 refine(HIT.out w1).mono ?_;rintro e w3 ⟨rfl,rfl⟩;go_wp2_with (rw[←lS.out])
 go_ret
 exact HF.out
section
variable{F:Fence}{n:Nat}{P:Program}{l:List Oper}{Q:Exit→Act→World→Prop}{md:Region.Mode}{S:World→Prop}{c:Nat}
theorem fN(i:Nat){oi:Oper}{r:List Oper}{fuel:Nat}{listed:Array Bool}{a:Act}{w:ay}(hi:l.drop i=oi::r)(hS:S w)
  (h:eO F n P md l.toArray Q S c fuel (listed.setIfInBounds i true) (a.put oi.dst undef) w)
  (hro:F.round=none∨vX l=true:=by first|exact .inl rfl|exact .inr cK) (hab:∀w,oi.about P w a.eval=none:=by intro w;rfl)
  (hs:Region.noSelect l.toArray=true:=by kernel_rfl) (hf:Region.free md l.toArray listed i=true:=by kernel_rfl) (hr:(bQ md l.toArray listed).contains i=true:=by kernel_rfl)
  (hw:bh oi (yielded l.toArray a.tmps)=false:=by kernel_rfl) (LZ:c≠i:=by decide) (LY:waits md l.toArray 20 c i=true:=by kernel_rfl) (hcl:Av md l.toArray listed=true:=by kernel_rfl)
  (hQ:∀c a w,Q (.panic c) (a.put oi.dst undef) w→Q (.panic c) a w:=by exact fun _ _ _ h=>h):eO F n P md l.toArray Q S c (fuel+1) listed a w:=
 tA LZ LY (hro.imp_right qv) (fV hi) (Region.noSelect_spec hs) hQ fuel listed a w (Region.free_spec (fV hi) hf) (by simpa using hr) (EX hcl) ⟨.inr ⟨hw,rfl⟩,hab⟩ hS h
theorem fM(i:Nat){oi:Oper}{r:List Oper}{fuel:Nat}{listed:Array Bool}{a:Act}{w:ay}(hi:l.drop i=oi::r)(hS:S w)
  (h:eO F n P md l.toArray Q S c fuel (listed.setIfInBounds i true) (a.put oi.dst undef) w) (hF:∀f,F.fn f:=by exact fun _=>trivial)
  (hr:bQ md l.toArray listed=[i]:=by kernel_rfl) (hw:bh oi (yielded l.toArray a.tmps)=false:=by kernel_rfl):eO F n P md l.toArray Q S c (fuel+1) listed a w:=by
 refine⟨fun h0=>absurd (hr▸h0) cN,fun j hj=>?_⟩;rw[hr] at hj;have hji:j=i:=by simpa using hj
 subst hji;unfold wpOpIn;rw[fV hi];dsimp only;simp only[hw,Bool.false_eq_true,if_false];exact⟨fun f _=>hF f,fun _=>hS,h⟩
end
structure Vx(E:List aA)(os:Int)(on:Nat):Prop where
 c3:E[3]?=some (.i os)
 c4:E[4]?=some (.u (on:Int))
theorem He{w0 w:ay}{A:MA}{m:cS}{N B:Nat}(h:cU w0 w A m)(ok:m.Ok N)(hN:N≤1000000){y:fR}(hy:mC y){db:Nat}{E:List aA}(hE:Vx E y.os y.on)(hd:DB w db E zR zI)(hX:A.X db)(hB:B≤w.heap.size):
  aU prog 170 #[.p A.mb,.p db] w (iq B w0 w A db E (m.kM y)):=by
 have c0:=h.cells.1;have c4:=h.cells.2.2.2.2.1;have d3:w.cell? ⟨db,3,none⟩=some (.i y.os):=(hd.tT 3 cM).trans hE.c3;have d4:w.cell? ⟨db,4,none⟩=some (.u (y.on:Int)):=(hd.tT 4 cM).trans hE.c4;have HR3:Hid (w.rangeAt db 3 [.i y.os,.u (y.on:Int)]):=cE (fun j u hu=>by
  match j,hu with
  |0,hu=>cases hu;exact d3
  |1,hu=>cases hu;exact d4)
 obtain⟨w2,eS⟩:=cG (w.alloc (.cells #[.i y.os,.u (y.on:Int)] 31));have dz:cF w w2:=by rw[eS];exact cR (aJ _ w) _
 have k2:w2.heap[w.heap.size]?=some (.cells #[.i y.os,.u (y.on:Int)] 31 (0,0)):=by rw[eS];exact aG w _
 have rX:Hid (cH 31 2):=cE cK;have h2:=h.below dz;have uY:=hd.below dz;obtain⟨ns,oV⟩:∃n,n=m.site:=⟨_,rfl⟩;have f0:∀w',Kept (·=A.gb) w2 w'→w'.cell? ⟨A.mb,0,none⟩=some (.i (ns:Int)):=fun w' hk=>(hk.cell (p:=⟨A.mb,0,none⟩) (af h2.blk) h2.apart.ms.2.1).trans (h2.cells.1.trans (by rw[oV]))
 have f4:∀w',Kept (·=A.gb) w2 w'→w'.cell? ⟨A.mb,4,none⟩=some (.p A.sb):=fun w' hk=>(hk.cell (p:=⟨A.mb,4,none⟩) (af h2.blk) h2.apart.ms.2.1).trans h2.cells.2.2.2.2.1
 have EF:w.heap.size≠A.gb:=fun e=>by have:=h.Dx A.zg;omega
 have g0:∀w',Kept (·=A.gb) w2 w'→w'.cell? ⟨w.heap.size,0,none⟩=some (.i y.os):=fun w' hk=>(hk.cell (p:=⟨w.heap.size,0,none⟩) (af k2) EF).trans (aB _ _ 0 _ 31 (0,0) k2)
 have g1:∀w',Kept (·=A.gb) w2 w'→w'.cell? ⟨w.heap.size,1,none⟩=some (.u (y.on:Int)):=fun w' hk=>(hk.cell (p:=⟨w.heap.size,1,none⟩) (af k2) EF).trans (aB _ _ 1 _ 31 (0,0) k2)
 have HW:=cE eS;have hon:=hy.on;have I9:mW (m.site:Int):=by have:=ok.site;have:=ok.vl;exact⟨by omega,by omega⟩
 have TS:zL (y.on:Int):=⟨by omega,by omega⟩;have hlt:w.heap.size<w2.heap.size:=af k2;have F9:Kept (fun b=>A.Z b∨b=db) w w2:=dm dz;have EI:B≤w2.heap.size:=aC hB dz.size;have HW:=cE eS;by_cases hs:y.os=m.site
 ·have t6:(y.os != (ns:Int))=false:=by rw[hs,oV];simp
  cases hv:m.live y.on with
  |false=>
   have hm:m.kM y=(m,nX 63):=by unfold cS.kM;rw[if_pos (.inr hv)]
   have pZ:Hid (∀W,cF w2 W→aU prog 244 #[.p A.sb,.u (y.on:Int)] W fun e w'=>e=.returned (.i 63)∧∃k,w'=W.drewN k):=cE (fun W hW=>U9 A.sb A.gb m.site m.last y.on m.gone W (h2.below hW).yR I9 TS hv);have HH:Hid (∀W,cF w2 W→iq B w0 w A db E (m,nX 63) (.returned (.i 63)) W):=cE (fun W hW=>gJ (h2.below hW) (uY.below hW) 63 (F9.trans (dm hW)));rw[hm];clear hs hv hm h ok hy hE hd hX hB c0 c4 d3 d4 eS dz h2 uY oV EF hon I9 TS F9 EI k2;go_enter func170,ntmps170
   go_wp2_with (first
    |(refine aN rfl 31 (.tmp 9) rfl db 3 rfl [.i y.os,.u (y.on:Int)] _ HR3.out underlying31 rfl rX.out ?_)
    |fail)
   rw[←HW.out];have hS:Kept (·=A.gb) w2 w2.drew:=(Kept.refl _ w2).drew;refine(aY (n:=0)).1 (fB (S:=fun w'=>Kept (·=A.gb) w2 w') (c:=16) ?_);refine fJ 0 hS ?_;simp only[cQ];refine fI 1 rfl hS (fun w' hS'=>by have:=g0 w' hS';go_simp<;>rfl) ?_;simp only[cQ];refine fJ 2 hS ?_;simp only[cQ];refine fJ 3 hS ?_;simp only[cQ];refine fJ 4 hS ?_;simp only[cQ];refine fI 5 rfl hS (fun w' hS'=>by have:=f0 w' hS';go_simp<;>rfl) ?_;simp only[cQ];refine fJ 6 hS ?_;simp only[cQ];refine fJ 7 hS ?_;simp only[cQ];refine fJ 8 hS ?_;simp only[cQ];refine fJ 9 hS ?_;simp only[cQ];refine fJ 10 hS ?_;simp only[cQ];refine fI 11 rfl hS (fun w' hS'=>by have:=f4 w' hS';go_simp<;>rfl) ?_;simp only[cQ];refine fJ 12 hS ?_;simp only[cQ];refine fI 13 rfl hS (fun w' hS'=>by have:=g1 w' hS';go_simp<;>rfl) ?_;simp only[cQ];refine fK 14 rfl fun K' gp=>?_
   gi_wp2_with fail
   refine⟨trivial,rfl,(bg.2 (pZ.out w2.drew (aJ _ w2).drew)).mono ?_⟩;rintro e w3 ⟨rfl,k,rfl⟩;have dU:Kept (·=A.gb) w2 (w2.drew.drewN k):=hS.drewN k;refine gp _ _ dU ?_;clear gp;refine fJ 15 dU ?_;simp only[cQ];refine fC 16 rfl fun K' gp=>?_
   gi_wp2
   refine fD ?_ cK _;go_wp2
   go_ret
   exact HH.out _ ((aJ _ w2).drew.trans ⟨rfl,rfl,rfl,bJ _,fun _ _=>rfl⟩)
  |true=>
  have hm:m.kM y=((m.jq (m.site,y.on)).make (cS.qD y.on),⟨0,l5,[],(m.jq (m.site,y.on)).item (cS.qD y.on)⟩):=by unfold cS.kM;rw[if_neg (fun e=>by rcases e with e|e;exact e hs;rw[hv] at e;cases e)];rfl
  have pZ:Hid (aU prog 244 #[.p A.sb,.u (y.on:Int)] w2.drew fun e w'=>e=.returned (.I)∧iM w' A.sb A.gb m.site m.last (yJ (m.site,y.on) m.gone)∧Kept (·=A.gb) w2.drew w'):=cE (Rn A.sb A.gb m.site m.last y.on m.gone w2.drew h2.drew.yR I9 TS hv);have HH:=cE (cD h2 (cD ok (cD uY (cD hX (cD F9 (cD EI (cD hN hy)))))));rw[hm];clear hs hv hm h ok hy hE hd hX hB c0 c4 d3 d4 eS dz h2 uY oV EF hon I9 TS F9 EI k2 hN;go_enter func170,ntmps170
  go_wp2_with (first
   |(refine aN rfl 31 (.tmp 9) rfl db 3 rfl [.i y.os,.u (y.on:Int)] _ HR3.out underlying31 rfl rX.out ?_)
   |fail)
  rw[←HW.out];have hS:Kept (·=A.gb) w2 w2.drew:=(Kept.refl _ w2).drew;refine(aY (n:=0)).1 (fB (S:=fun w'=>Kept (·=A.gb) w2 w') (c:=16) ?_);refine fJ 0 hS ?_;simp only[cQ];refine fI 1 rfl hS (fun w' hS'=>by have:=g0 w' hS';go_simp<;>rfl) ?_;simp only[cQ];refine fJ 2 hS ?_;simp only[cQ];refine fJ 3 hS ?_;simp only[cQ];refine fJ 4 hS ?_;simp only[cQ];refine fI 5 rfl hS (fun w' hS'=>by have:=f0 w' hS';go_simp<;>rfl) ?_;simp only[cQ];refine fJ 6 hS ?_;simp only[cQ];refine fJ 7 hS ?_;simp only[cQ];refine fJ 8 hS ?_;simp only[cQ];refine fJ 9 hS ?_;simp only[cQ];refine fJ 10 hS ?_;simp only[cQ];refine fI 11 rfl hS (fun w' hS'=>by have:=f4 w' hS';go_simp<;>rfl) ?_;simp only[cQ];refine fJ 12 hS ?_;simp only[cQ];refine fI 13 rfl hS (fun w' hS'=>by have:=g1 w' hS';go_simp<;>rfl) ?_;simp only[cQ];refine fK 14 rfl fun K' gp=>?_
  gi_wp2_with fail
  refine⟨trivial,rfl,(bg.2 pZ.out).mono ?_⟩;rintro e w3 ⟨rfl,hs3,Da⟩;have dU:Kept (·=A.gb) w2 w3:=hS.trans Da;have H3:=cE hs3;clear hs3 Da;have z1:=g1 w3 dU;refine gp _ _ dU ?_;clear gp;refine fJ 15 dU ?_;simp only[cQ];refine fC 16 rfl fun K' gp=>?_
  gi_wp2
  refine fD ?_ cK _;obtain⟨h2,ok,uY,hX,F9,EI,hN,hy⟩:=HH.out;have BM:=h2.KE dU (fun b e=>.inr e) H3.out;have hdb:db≠A.gb:=fun e=>(h2.xz db hX).1 (e▸A.zg)
  have ZT:=uY.kept dU hdb;have HMK:=cE (IG (x:=cS.qD y.on) (r:=qQ) (L:=[]) BM (ok.jq (m.site,y.on)) hN (fun k r h=>by simp at h) ⟨rfl,fun k r e h=>by simp at h⟩ (fun ad e=>by cases e) (by simp[cS.qD]) (fun e he=>by simp[cS.qD] at he) ZT hX);have uU:Hid (Kept (fun b=>A.Z b∨b=db) w w3):=cE (F9.trans (dU.mono (fun b _ e=>.inl (by have e:b=A.gb:=e;exact e▸A.zg))));have mQ:Hid (B≤w3.heap.size):=cE (aC EI dU.size);clear h2 ok uY hX F9 EI BM hdb ZT f0 f4 g0 g1 hS dU hN hy;go_wp2_with fail
  refine HMK.out.mono ?_;rintro e w4 ⟨rfl,hme⟩;have HME:=cE hme;clear hme;go_wp2
  go_ret
  obtain⟨⟨va,vc,ov,C,hst,EE⟩,⟨r,L,hD,hI⟩,hK⟩:=HME.out;exact⟨⟨0,0,_,r,L,rfl,hD,jP _ _ _,hI.mono (fun b hb=>⟨aC mQ.out hb.1,hb.2⟩),rfl,fun h=>absurd rfl h⟩,⟨va,vc,ov,C,hst,fun b e=>(EE b e).imp id (fun e2=>aC uU.out.size e2)⟩,uU.out.trans hK⟩
 have t6:(y.os != (ns:Int))=true:=by rw[oV];simpa using hs
 have hm:m.kM y=(m,nX 63):=by unfold cS.kM;rw[if_pos (.inl hs)]
 have HH:Hid (∀W,cF w2 W→iq B w0 w A db E (m,nX 63) (.returned (.i 63)) W):=cE (fun W hW=>gJ (h2.below hW) (uY.below hW) 63 (F9.trans (dm hW)));rw[hm];clear hs hm h ok hy hE hd hX hB c0 c4 d3 d4 eS dz h2 uY oV EF hon I9 TS F9 EI k2;go_enter func170,ntmps170
 go_wp2_with (first
  |(refine aN rfl 31 (.tmp 9) rfl db 3 rfl [.i y.os,.u (y.on:Int)] _ HR3.out underlying31 rfl rX.out ?_)
  |fail)
 rw[←HW.out];have hS:Kept (·=A.gb) w2 w2.drew:=(Kept.refl _ w2).drew;refine(aY (n:=0)).1 (fB (S:=fun w'=>Kept (·=A.gb) w2 w') (c:=16) ?_);refine fJ 0 hS ?_;simp only[cQ];refine fI 1 rfl hS (fun w' hS'=>by have:=g0 w' hS';go_simp<;>rfl) ?_;simp only[cQ];refine fJ 2 hS ?_;simp only[cQ];refine fJ 3 hS ?_;simp only[cQ];refine fJ 4 hS ?_;simp only[cQ];refine fI 5 rfl hS (fun w' hS'=>by have:=f0 w' hS';go_simp<;>rfl) ?_;simp only[cQ];refine fJ 6 hS ?_;simp only[cQ];refine fJ 7 hS ?_;simp only[cQ];refine fN 8 rfl hS ?_;simp only[cQ];refine fN 9 rfl hS ?_;simp only[cQ];refine fN 10 rfl hS ?_;simp only[cQ];refine fN 11 rfl hS ?_;simp only[cQ];refine fN 12 rfl hS ?_;simp only[cQ];refine fN 13 rfl hS ?_;simp only[cQ];refine fM 14 rfl hS ?_;simp only[cQ];refine fN 15 rfl hS ?_;simp only[cQ];refine fC 16 rfl fun K' gp=>?_
 gi_wp2
 refine fD ?_ cK _;go_wp2
 go_ret
 exact HH.out _ (aJ _ w2).drew
structure CD(B:Nat)(w0 w:ay)(A:MA)(m:cS)(N:Nat)(db:Nat)(y:fR)(E:List aA):Prop where
 fS:cU w0 w A m
 ok:m.Ok N
 hN:N≤1000000
 US:mC y
 cells:∃o L i Ei fa fc,E=y.cells o i fa fc∧yM w (fun b=>B≤b∧(b<db∨y.dY.dB=[])) y o L i Ei fa
 nO:∀o i fa fc,E=y.cells o i fa fc→dr w (fun b=>B≤b∧b<db) i.sa y.dY.stamp
 Ch:DB w db E zR zI
 X:A.X db
 hB:B≤w.heap.size
 zB:∀b,A.Z b→b<B
 fB:∀b,A.F b→b<B
theorem CD.owner{B:Nat}{w0 w:ay}{A:MA}{m:cS}{N db:Nat}{y:fR}{E:List aA}(h:CD B w0 w A m N db y E):Vx E y.os y.on:=by
 obtain⟨o,L,i,Ei,fa,fc,rfl,_⟩:=h.cells;exact⟨rfl,rfl⟩
theorem aaO{m:cS}{N:Nat}(ok:m.Ok N)(y:fR):m.VZ y=({m with toks:=(V9 m.toks y.dK y.ep y.fr m.v).2},nX (V9 m.toks y.dK y.ep y.fr m.v).1):=by
 unfold cS.VZ V9 TP cS.tok;rw[ok.kl];by_cases h1:cS.out y.dK m.dH.length
 ·simp only[if_pos h1]
 simp only[if_neg h1];by_cases h2:(m.toks.getD y.dK.toNat iL).held=true∨y.ep≤(m.toks.getD y.dK.toNat iL).ep
 ·simp only[if_pos h2]
  rfl
 simp only[if_neg h2];by_cases h3:gq y.fr m.v=false
 ·simp only[if_pos h3]
  rfl
 simp only[if_neg h3];rfl
theorem WI{m:cS}{N:Nat}(ok:m.Ok N)(y:fR):m.CU y=({m with toks:=(CZ m.toks y.dK y.ep m.v).2},nX (CZ m.toks y.dK y.ep m.v).1):=by
 unfold cS.CU CZ Bo cS.tok;rw[ok.kl];by_cases h1:cS.out y.dK m.dH.length
 ·simp only[if_pos h1]
 simp only[if_neg h1];by_cases h2:(m.toks.getD y.dK.toNat iL).held=false∨(m.toks.getD y.dK.toNat iL).ep≠y.ep
 ·simp only[if_pos h2]
  rfl
 simp only[if_neg h2];rfl
section
variable{B:Nat}{w0 w:World}{A:MA}{m:cS}{N db:Nat}{y:fR}{E:List Value}
theorem CD.toks(h:CD B w0 w A m N db y E){w1 w2:ay}(hb:cF w w1){T:List jw}{c:Int}(hk:Kept (·=A.kb) w1 w2)(ht:jr w2 A.kb (fun b=>A.lo b∨w1.heap.size≤b) T):iq B w0 w A db E ({m with toks:=T},nX c) (.returned (.i c)) w2:=by
 have h2:=(h.fS.below hb).WN hk ht;have hdb:db≠A.kb:=fun e=>(h.fS.xz db h.X).1 (e▸A.zk)
 have uY:=(h.Ch.below hb).kept hk hdb;have:=gJ (B:=B) (w:=w) h2 uY c ((dm hb).trans (hk.mono (fun b _ e=>.inl (by have e:b=A.kb:=e;exact e▸A.zk))));exact this
theorem SG(h:CD B w0 w A m N db y E):aU prog 173 #[.p A.mb,.p db] w (iq B w0 w A db E (m.VZ y)):=by
 obtain⟨o,L,i,Ei,fa,fc,hE,hD⟩:=h.cells;have hm:=h.fS;rw[aaO h.ok];obtain⟨nv,uA⟩:∃n,n=m.v.length:=⟨_,rfl⟩;obtain⟨nf,hnf⟩:∃n,n=y.fr.length:=⟨_,rfl⟩;have y3:∀w',cF w w'→w'.cell? ⟨A.mb,3,none⟩=some (.p A.kb):=fun w' hb=>(hm.below hb).cells.2.2.2.1
 have y5:∀w',cF w w'→w'.cell? ⟨A.mb,5,none⟩=some (.slice A.va nv A.vc):=fun w' hb=>(hm.below hb).cells.2.2.2.2.2.1.trans (by rw[uA])
 have z20:∀w',cF w w'→w'.cell? ⟨db,20,none⟩=some (.i y.dK):=fun w' hb=>((h.Ch.below hb).tT 20 cM).trans (by rw[hE];rfl)
 have z21:∀w',cF w w'→w'.cell? ⟨db,21,none⟩=some (.v (y.ep:Int)):=fun w' hb=>((h.Ch.below hb).tT 21 cM).trans (by rw[hE];rfl)
 have z22:∀w',cF w w'→w'.cell? ⟨db,22,none⟩=some (.slice fa nf fc):=fun w' hb=>((h.Ch.below hb).tT 22 cM).trans (by rw[hE,hnf];rfl)
 have HC:Hid (∀W,cF w W→aU prog 252 #[.p A.kb,.i y.dK,.v y.ep,.slice fa nf fc,.slice A.va nv A.vc] W fun e w'=>∃v,e=.returned v∧yK W A.kb A.lo (V9 m.toks y.dK y.ep y.fr m.v) v w'):=cE (fun W hW=>by
  rw[hnf,uA];exact abp W A.kb A.lo m.toks (hm.below hW).tok y.dK (fun e=>e.1 A.zk) y.ep y.fr m.v fa A.va fc A.vc _ _ (hD.fr.below hW) (hm.below hW).data.v (by have:=h.US.fr.1;omega) (by have:=h.ok.vl;omega))
 have HH:=cE h;obtain⟨x,hx⟩:=cG (V9 m.toks y.dK y.ep y.fr m.v);rw[←hx] at HC⊢;have hS:cF w w.drew:=(aJ _ w).drew;clear hm hE hD hx uA hnf;go_enter func173,ntmps173
 go_wp2_with fail
 refine(aY (n:=0)).1 (fB (S:=fun w'=>cF w w') (c:=23) ?_);refine fJ 0 hS ?_;simp only[cQ];refine fJ 1 hS ?_;simp only[cQ];refine fJ 2 hS ?_;simp only[cQ];refine fI 3 rfl hS (fun w' hS'=>by have:=y3 w' hS';go_simp<;>rfl) ?_;simp only[cQ];refine fJ 4 hS ?_;simp only[cQ];refine fJ 5 hS ?_;simp only[cQ];refine fJ 6 hS ?_;simp only[cQ];refine fJ 7 hS ?_;simp only[cQ];refine fI 8 rfl hS (fun w' hS'=>by have:=z20 w' hS';go_simp<;>rfl) ?_;simp only[cQ];refine fJ 9 hS ?_;simp only[cQ];refine fJ 10 hS ?_;simp only[cQ];refine fJ 11 hS ?_;simp only[cQ];refine fJ 12 hS ?_;simp only[cQ];refine fI 13 rfl hS (fun w' hS'=>by have:=z21 w' hS';go_simp<;>rfl) ?_;simp only[cQ];refine fJ 14 hS ?_;simp only[cQ];refine fJ 15 hS ?_;simp only[cQ];refine fJ 16 hS ?_;simp only[cQ];refine fJ 17 hS ?_;simp only[cQ];refine fI 18 rfl hS (fun w' hS'=>by have:=z22 w' hS';go_simp<;>rfl) ?_;simp only[cQ];refine fJ 19 hS ?_;simp only[cQ];refine fJ 20 hS ?_;simp only[cQ];refine fJ 21 hS ?_;simp only[cQ];refine fI 22 rfl hS (fun w' hS'=>by have:=y5 w' hS';go_simp<;>rfl) ?_;simp only[cQ];refine fC 23 rfl fun K' gp=>?_
 gi_wp2_with fail
 refine⟨trivial,rfl,(bg.2 (HC.out w.drew hS)).mono ?_⟩;rintro e w2 ⟨v,rfl,rfl,hk,ht⟩;have HF:=cE (HH.out.toks (c:=x.1) hS hk ht);clear hk ht;refine gp _ _ ?_;clear gp;refine fC 24 rfl fun K' gp=>?_
 gi_wp2
 refine fD ?_ cK _;clear hS y3 y5 z20 z21 z22;go_wp2
 go_ret
 exact HF.out
theorem Pc(h:CD B w0 w A m N db y E):aU prog 174 #[.p A.mb,.p db] w (iq B w0 w A db E (m.CU y)):=by
 obtain⟨o,L,i,Ei,fa,fc,hE,hD⟩:=h.cells;have hm:=h.fS;rw[WI h.ok];obtain⟨nv,uA⟩:∃n,n=m.v.length:=⟨_,rfl⟩;have y3:∀w',cF w w'→w'.cell? ⟨A.mb,3,none⟩=some (.p A.kb):=fun w' hb=>(hm.below hb).cells.2.2.2.1
 have y5:∀w',cF w w'→w'.cell? ⟨A.mb,5,none⟩=some (.slice A.va nv A.vc):=fun w' hb=>(hm.below hb).cells.2.2.2.2.2.1.trans (by rw[uA])
 have z20:∀w',cF w w'→w'.cell? ⟨db,20,none⟩=some (.i y.dK):=fun w' hb=>((h.Ch.below hb).tT 20 cM).trans (by rw[hE];rfl)
 have z21:∀w',cF w w'→w'.cell? ⟨db,21,none⟩=some (.v (y.ep:Int)):=fun w' hb=>((h.Ch.below hb).tT 21 cM).trans (by rw[hE];rfl)
 have HC:Hid (∀W,cF w W→aU prog 253 #[.p A.kb,.i y.dK,.v y.ep,.slice A.va nv A.vc] W fun e w'=>∃v,e=.returned v∧yK W A.kb A.lo (CZ m.toks y.dK y.ep m.v) v w'):=cE (fun W hW=>by
  rw[uA];exact Xe W A.kb A.lo m.toks (hm.below hW).tok y.dK (fun e=>e.1 A.zk) y.ep m.v A.va A.vc _ (hm.below hW).data.v (by have:=h.ok.vl;omega))
 have HH:=cE h;obtain⟨x,hx⟩:=cG (CZ m.toks y.dK y.ep m.v);rw[←hx] at HC⊢;have hS:cF w w.drew:=(aJ _ w).drew;clear hm hE hD hx uA;go_enter func174,ntmps174
 go_wp2_with fail
 refine(aY (n:=0)).1 (fB (S:=fun w'=>cF w w') (c:=18) ?_);refine fJ 0 hS ?_;simp only[cQ];refine fJ 1 hS ?_;simp only[cQ];refine fJ 2 hS ?_;simp only[cQ];refine fI 3 rfl hS (fun w' hS'=>by have:=y3 w' hS';go_simp<;>rfl) ?_;simp only[cQ];refine fJ 4 hS ?_;simp only[cQ];refine fJ 5 hS ?_;simp only[cQ];refine fJ 6 hS ?_;simp only[cQ];refine fJ 7 hS ?_;simp only[cQ];refine fI 8 rfl hS (fun w' hS'=>by have:=z20 w' hS';go_simp<;>rfl) ?_;simp only[cQ];refine fJ 9 hS ?_;simp only[cQ];refine fJ 10 hS ?_;simp only[cQ];refine fJ 11 hS ?_;simp only[cQ];refine fJ 12 hS ?_;simp only[cQ];refine fI 13 rfl hS (fun w' hS'=>by have:=z21 w' hS';go_simp<;>rfl) ?_;simp only[cQ];refine fJ 14 hS ?_;simp only[cQ];refine fJ 15 hS ?_;simp only[cQ];refine fJ 16 hS ?_;simp only[cQ];refine fI 17 rfl hS (fun w' hS'=>by have:=y5 w' hS';go_simp<;>rfl) ?_;simp only[cQ];refine fC 18 rfl fun K' gp=>?_
 gi_wp2_with fail
 refine⟨trivial,rfl,(bg.2 (HC.out w.drew hS)).mono ?_⟩;rintro e w2 ⟨v,rfl,rfl,hk,ht⟩;have HF:=cE (HH.out.toks (c:=x.1) hS hk ht);clear hk ht;refine gp _ _ ?_;clear gp;refine fC 19 rfl fun K' gp=>?_
 gi_wp2
 refine fD ?_ cK _;clear hS y3 y5 z20 z21;go_wp2
 go_ret
 exact HF.out
end
section
variable{F:Fence}{n:Nat}{P:Program}{l:List Oper}{Q:Exit→Act→World→Prop}{md:Region.Mode}{S:World→Prop}{c:Nat}
theorem fE(i j:Nat){oi oj:Oper}{r r':List Oper}{fuel:Nat}{listed:Array Bool}{a:Act}{w:ay}(hi:l.drop i=oi::r)(hj:l.drop j=oj::r')
  (h1:∀K':Act→ay→Prop,(∀a w,S w→eO F n P md l.toArray Q S c fuel (listed.setIfInBounds i true) a w→K' a w)→Oper.wpIn F n P oi a w K' Q)
  (h2:∀K':Act→ay→Prop,(∀a w,S w→eO F n P md l.toArray Q S c fuel (listed.setIfInBounds j true) a w→K' a w)→Oper.wpIn F n P oj a w K' Q)
  (hr:bQ md l.toArray listed=[i,j]:=by kernel_rfl) (hwi:bh oi (yielded l.toArray a.tmps)=true:=by kernel_rfl) (hwj:bh oj (yielded l.toArray a.tmps)=true:=by kernel_rfl):eO F n P md l.toArray Q S c (fuel+1) listed a w:=by
 refine⟨fun h0=>absurd (hr▸h0) cN,fun k hk=>?_⟩;rw[hr] at hk;have hk:k=i∨k=j:=by simpa using hk
 rcases hk with rfl|rfl
 ·unfold wpOpIn
  rw[fV hi];dsimp only;rw[if_pos hwi];exact h1 _ fun _ _ h1 h2=>⟨fun _=>h1,h2⟩
 unfold wpOpIn;rw[fV hj];dsimp only;rw[if_pos hwj];exact h2 _ fun _ _ h1 h2=>⟨fun _=>h1,h2⟩
end
section
variable{B:Nat}{w0 w:World}{A:MA}{m:cS}{N db:Nat}
theorem Fp(ok:m.Ok N){r:Nat}(hr:r<m.dH.length):qL m.toks r=m.tok r:=by
 unfold qL cS.tok;rw[if_pos ⟨by omega,by rw[ok.kl];omega⟩];rfl
theorem cU.st(h:cU w0 w A m)(ok:m.Ok N){r b:Nat}(hr:A.tb[r]?=some b):St w0 w b (m.root r) (m.at_ r) (m.nodes r):=by
 have hl:r<m.dH.length:=by rw[←ok.tl,←h.tl];exact(aa.1 hr).1
 exact⟨(h.tr r b hr).1,(ok.tree r hl).inv,(ok.tree r hl).nice,h.pow,(ok.ats r hl).1⟩
def VW(F:Nat→Prop)(w3:ay)(X:List gh)(x:Int)(a:JY)(rs:List xI)(v13 v14:aA)(wc:ay):Prop:=
 ∃(bx:Nat) (cs:List aA),v14=.p bx∧w3.heap.size≤bx∧wc.heap[bx]?=some (.cells cs.toArray 47 (0,0))∧ij F wc v13 X∧(∀b,v13.ownBlock=some b→w3.heap.size≤b)∧fA wc (fQ w3.heap.size) (.agg cs.toArray) x a rs∧cF w3 wc
theorem Ou{F:Nat→Prop}{w3 w6:ay}{bx:Nat}{u1:aA}{cs:List aA}{X:List gh}{x:Int}{a:JY}{rs:List xI}{lo:Nat→Prop}(hb:cF w3 w6)(hB:w3.heap.size≤bx)
  (k6:w6.heap[bx]?=some (.cells #[.I,.z,.n,.U,.U,.U,.I,.U,.V,.V,.V,.n,.n] 47 (0,0))) (hl:cs.length=13) (hE:ij F w6 u1 X) (hn:∀b,u1.ownBlock=some b→w3.heap.size≤b) (hR:fA w6 lo (.agg cs.toArray) x a rs) (hlo:∀k,lo k→w3.heap.size≤k∧k≠bx):VW F w3 X x a rs u1 (.p bx) (w6.setCells bx 0 cs):=by
 have hK:=ic w6 bx 0 cs;have hE2:ij F (w6.setCells bx 0 cs) u1 X:=by
  obtain⟨ea,ec,L,e1,e2,e3⟩:=hE;refine⟨ea,ec,L,e1,fun k r hk=>?_,e3.ou k6 kC hK⟩;obtain⟨b,off,g1,g2,g3⟩:=e2 k r hk;refine⟨b,off,g1,aj g2 hK.size,fun j v hv=>(hK.cell (p:=⟨b,off+k*11+j,none⟩) g2 (fun e=>?_)).trans (g3 j v hv)⟩;have e:b=bx:=e;subst e;have q0:=g3 0 _ rfl;have q1:=g3 1 _ rfl;rw[aB _ _ _ _ 47 (0,0) k6] at q0 q1;have h0:∀k:Nat,(#[.I,.z,.n,.U,.U,.U,.I,.U,.V,.V,.V,.n,.n]:Array aA)[k]?=some (.s r.path)→k=1:=fun k hk=>by
   match k,hk with
   |0,hk=>cases hk
   |1,_=>rfl
   |2,hk=>cases hk
   |3,hk=>cases hk
   |4,hk=>cases hk
   |5,hk=>cases hk
   |6,hk=>cases hk
   |7,hk=>cases hk
   |8,hk=>cases hk
   |9,hk=>cases hk
   |10,hk=>cases hk
   |11,hk=>cases hk
   |12,hk=>cases hk
   |k+13,hk=>simp at hk
  have h1:=h0 _ q0;rw[show off+k*11+1=2 by omega] at q1;cases q1
 exact⟨bx,cs,rfl,hB,fG k6 hl,hE2,hn,(hR.dP hK (fun k hk _ e=>(hlo k hk).2 e)).mono (fun k hk=>(hlo k hk).1),hb.trans (hK.below hb.size (fun k e=>by have e:k=bx:=e;omega))⟩
def VX(B:Nat)(w0 w:ay)(A:MA)(db:Nat)(E:List aA)(x:cS×jt)(held:Bool)(e:Ending)(w':ay):Prop:=iq B w0 w A db E x e w'∧e=.returned (.i (if held=false then 61 else 0))
theorem Fb(h:cU w0 w A m)(ok:m.Ok N)(hN:N≤80000){r:Nat}(hr:r<m.dH.length){q:cV}{o:kV}(hin:Af A.F w q o 0)(ho:cS.OpS o){who:dW}(hw:JK who){E:List aA}(hd:DB w db E zR zI)(hX:A.X db)(hB:B≤w.heap.size):
  aU prog 247 #[.p A.mb,.p db,.i r,q.val,CQ who] w (VX B w0 w A db E (m.asked r o who) (m.tok r).held):=by
 obtain⟨tb,htb⟩:∃b,A.tb[r]?=some b:=⟨_,an (by rw[h.tl,ok.tl];exact hr)⟩;obtain⟨tg,nh,CG,htl,htlt,htc⟩:=h.data.row r tb htb;obtain⟨V6,op,oa,on,oc,ov,os,oe,qa,qn,qc⟩:=q;obtain⟨s,n⟩:=who;obtain⟨w1,hw1⟩:=cG (w.alloc (.cells #[.b V6,.s op,.slice oa on oc,.i ov,.bool os,.bool oe,.slice qa qn qc] 35));obtain⟨w2,eS⟩:=cG (w1.alloc (.cells #[.i s,.u n] 31));have dz:cF w w2:=by rw[eS,hw1];exact cR (cR (aJ _ w) _) _
 have hs1:w1.heap.size=w.heap.size+1:=by rw[hw1];simp
 have hk1:w2.heap[w.heap.size]?=some (.cells #[.b V6,.s op,.slice oa on oc,.i ov,.bool os,.bool oe,.slice qa qn qc] 35 (0,0)):=by rw[eS];exact(heap_alloc_old _ _ (by rw[hs1];omega)).trans (by rw[hw1];exact aG w _)
 have hk2:w2.heap[w1.heap.size]?=some (.cells #[.i s,.u n] 31 (0,0)):=by rw[eS];exact aG w1 _
 have h2:=h.below dz;have c3:=h2.cells.2.2.2.1;have Dt:=cE (BP w2 A.kb A.lo m.toks h2.tok r);rw[Fp ok hr] at Dt;have qP:Hid (cH 35 7):=cE cK;have rX:Hid (cH 31 2):=cE cK;have mg:Hid (cH 47 13):=cE iD;have HW:=cE (cD hw1 (cD eS (cD dz (cD hk1 (cD hk2 hs1)))));obtain⟨t,ht⟩:=cG (m.tok r);have HH:=cE (cD h2 (cD ok (cD hN (cD hr (cD (hin.below dz) (cD ho (cD hw (cD (hd.below dz) (cD hX (cD (aC hB dz.size) (cD htb (cD CG ht))))))))))));have HTC:Hid (w2.cell? ⟨tg,nh+r,none⟩=some (.p tb)∧tg<w2.heap.size):=cE ⟨(dz.cell (p:=⟨tg,nh+r,none⟩) htlt).trans htc,aj htlt dz.size⟩;rw[←ht] at Dt;obtain⟨ZS,tP⟩:∃b,b=t.held:=⟨_,rfl⟩;obtain⟨ep,uE⟩:∃b,b=t.ep:=⟨_,rfl⟩;rw[←tP,←uE] at Dt;have RD:=cE (cD tP uE);have HEQ:Hid (m.asked r o ⟨s,n⟩=if ZS=false then (m,nX 61) else (m.oT r o ⟨s,n⟩,⟨Au (m.root r) (m.nodes r) (m.at_ r) ⟨s,n⟩ 0 o,Ri (m.root r) (m.nodes r) (m.at_ r) ⟨s,n⟩ 0 o,Rg (m.root r) (m.nodes r) (m.at_ r) ⟨s,n⟩ 0 o,m.Gw r o ⟨s,n⟩⟩)):=cE (by unfold cS.asked;rw[←ht,tP]);rw[←ht,←tP];clear h ok hN hr hin ho hw hd hX hB htb CG htl htlt htc hw1 eS dz hs1 hk1 hk2 h2 ht tP uE;unfold cV.val cV.cells CQ;dsimp only;cases ZS with
 |false=>
  rw[HEQ.out,if_pos rfl];go_enter func247,ntmps247
  go_wp2_with (first|rw[←HW.out.2.1]|rw[←HW.out.1])
  refine Dt.out.mono ?_;rintro e w3 ⟨rfl,eE⟩;have mQ:=cE eE;clear eE;go_wp2
  go_ret
  obtain⟨h2,ok,hN,hr,hin,ho,hw,hd,hX,hB,htb,CG,ht⟩:=HH.out;exact⟨gJ (h2.below mQ.out) (hd.below mQ.out) 61 (dm (HW.out.2.2.1.trans (mQ.out.mono HW.out.2.2.1.size))),rfl⟩
 |true=>
 rw[HEQ.out,if_neg cN];go_enter func247,ntmps247
 go_wp2_with (first|rw[←HW.out.2.1]|rw[←HW.out.1])
 refine Dt.out.mono ?_;rintro e w3 ⟨rfl,eE⟩;rw[if_pos trivial];obtain⟨h2,ok,hN,hr,hin,ho,hw,hd,hX,hB,htb,CG,ht⟩:=HH.out;have h3:=h2.below eE;have hs2:w1.heap.size<w2.heap.size:=af HW.out.2.2.2.2.1;have hs1:=HW.out.2.2.2.2.2;obtain⟨nt,hnt⟩:∃n,n=m.trees.length:=⟨_,rfl⟩;have hrt:(r:Int)<nt:=by rw[hnt,ok.tl];omega
 have Jb:(0:Int)≤r:=by omega
 have ap6:r<nt:=by omega
 have y2:∀w',cF w3 w'→w'.cell? ⟨A.mb,2,none⟩=some (.slice (some ⟨tg,nh,none⟩) nt A.tc):=fun w' hb=>(h3.below hb).cells.2.2.1.trans (by rw[CG,hnt])
 have yr:∀w',cF w3 w'→w'.cell? ⟨tg,nh+r,none⟩=some (.p tb):=fun w' hb=>((eE.trans (hb.mono eE.size)).cell (p:=⟨tg,nh+r,none⟩) HTC.out.2).trans HTC.out.1
 have yo:∀w',cF w3 w'→w'.rangeAt w.heap.size 0 [.b V6,.s op,.slice oa on oc,.i ov,.bool os,.bool oe,.slice qa qn qc]:=fun w' hb=>dD (((eE.trans (hb.mono eE.size)).block _ cL).trans HW.out.2.2.2.1)
 have ys:∀w',cF w3 w'→w'.rangeAt w1.heap.size 0 [.i s,.u n]:=fun w' hb=>dD (((eE.trans (hb.mono eE.size)).block _ hs2).trans HW.out.2.2.2.2.1)
 obtain⟨X,GM⟩:=cG (m.xl r o ⟨s,n⟩);have HDO:Hid (∀W,cF w3 W→aU prog 30 #[.p tb,.agg #[.b V6,.s op,.slice oa on oc,.i ov,.bool os,.bool oe,.slice qa qn qc],.agg #[.i s,.u n]] W (fun e w'=>∃u1 cs,e=.returned (.tuple #[u1,.agg cs.toArray])∧(cs:List aA).length=13∧(cs.toArray:Array aA).all (·.oneCell')=true∧ij A.F w' u1 X∧fA w' (fQ W.heap.size) (.agg cs.toArray) (Au (m.root r) (m.nodes r) (m.at_ r) ⟨s,n⟩ 0 o) (Ri (m.root r) (m.nodes r) (m.at_ r) ⟨s,n⟩ 0 o) (Rg (m.root r) (m.nodes r) (m.at_ r) ⟨s,n⟩ 0 o)∧cF W w'∧∀b,u1.ownBlock=some b→W.heap.size≤b)):=cE (fun W hW=>by
  refine(((h3.below hW).st ok htb).agO (h3.below hW).nO.lt ((h3.below hW).nO.tr r tb htb) (by have:=ok.ats r hr;omega) ((hin.below eE).below hW) ⟨s,n⟩).mono ?_;rintro e w' ⟨u1,u2,rfl,q1,q2,q3,q4⟩;obtain⟨rr,ka,kc,pa,pc,rfl,_⟩:=id q2;exact⟨u1,_,rfl,by simp[ez,Raw.cells,eL.cells],by simp[ez,Raw.cells,eL.cells,bL],by rw[GM];exact q1,q2,q3,q4⟩)
 have H3:=cE (cD h3 (cD eE (cD hs2 (cD hnt GM))));obtain⟨xe,Wb⟩:∃x,x=Au (m.root r) (m.nodes r) (m.at_ r) ⟨s,n⟩ 0 o:=⟨_,rfl⟩;obtain⟨xa,hxa⟩:∃x,x=Ri (m.root r) (m.nodes r) (m.at_ r) ⟨s,n⟩ 0 o:=⟨_,rfl⟩;obtain⟨xr,hxr⟩:∃x,x=Rg (m.root r) (m.nodes r) (m.at_ r) ⟨s,n⟩ 0 o:=⟨_,rfl⟩;rw[←Wb,←hxa,←hxr] at HDO;have xA:=cE (cD Wb (cD hxa hxr));clear Wb hxa hxr h2 ok hN hr hin ho hw hd hX hB htb CG ht h3 eE hs2 hnt GM hs1;go_wp2_with fail
 go_cut [13,14] (fun v13 v14 wc=>VW A.F w3 X xe xa xr v13 v14 wc)
 case first=>
  refine rB fun wd hS=>?_
  refine tI 0 rfl hS ?_;refine tI 1 rfl hS ?_;refine tI 2 rfl hS ?_;refine tJ 3 rfl hS y2 ?_;simp only[cQ];refine tI 4 rfl hS ?_;refine tI 5 rfl hS ?_;refine tJ 6 rfl hS yr ?_;refine tL 7 rfl hS 35 (.tmp 8) w.heap.size 0 [.b V6,.s op,.slice oa on oc,.i ov,.bool os,.bool oe,.slice qa qn qc] (fun w' h=>yo w' h) underlying35 qP.out ?_;simp only[cQ];refine tL 8 rfl hS 31 (.tmp 9) w1.heap.size 0 [.i s,.u n] (fun w' h=>ys w' h) underlying31 rX.out ?_;simp only[cQ];refine jN 9 13 rfl rfl cK cO cO _ _ (by go_simp<;>first|rfl|exact⟨rfl,rfl⟩) (.p wd.heap.size) (wd.alloc (.cells #[.I,.z,.n,.U,.U,.U,.I,.U,.V,.V,.V,.n,.n] 47)) (by go_simp<;>first|rfl|exact⟨rfl,rfl⟩) ?_ (hS.alloc hS.size _) ?_
  ·refine(HDO.out _ hS).mono ?_
   rintro e w6 ⟨u1,cs,rfl,hcl,hco,hE,hR,bd,hn⟩;have B6:=hS.trans (bd.mono hS.size);refine⟨B6,?_⟩
   try dsimp only
   simp only[cQ];refine tI 10 rfl B6 ?_;refine tI 11 rfl B6 ?_;refine tI 12 rfl B6 ?_;simp only[cQ];have B7:=B6.alloc B6.size (.cells #[.I,.z,.n,.U,.U,.U,.I,.U,.V,.V,.V,.n,.n] 47);refine gI 13 rfl (.p w6.heap.size) (w6.alloc (.cells #[.I,.z,.n,.U,.U,.U,.I,.U,.V,.V,.V,.n,.n] 47)) B7 ?_;simp only[cQ];refine tI 14 rfl B7 ?_;simp only[cQ];have k7:=aG w6 (.cells #[.I,.z,.n,.U,.U,.U,.I,.U,.V,.V,.V,.n,.n] 47);have ht:(w6.alloc (.cells #[.I,.z,.n,.U,.U,.U,.I,.U,.V,.V,.V,.n,.n] 47)).there w6.heap.size 0 13:=ei k7 cN;have hal:=cR (aJ _ w6) (.cells #[.I,.z,.n,.U,.U,.U,.I,.U,.V,.V,.V,.n,.n] 47);have hpb:=Ou B7 B6.size k7 hcl (hE.below hal) (fun b e=>aC hS.size (hn b e)) ((hR.aeD (lo':=fun k=>wd.heap.size≤k∧k<w6.heap.size) (fun k h1 h2=>⟨h1,h2⟩)).acB hal) (fun k hk=>⟨aC hS.size hk.1,by omega⟩);obtain⟨_,_,_,_,_,_,_,_,gM⟩:=id hpb;have hsz:cs.toArray.size=13:=by simpa using hcl
   refine sI 15 rfl 47 (.tmp 14) (.tmp 38) w6.heap.size 0 cs.toArray (by rw[hsz];exact ht) (by rw[hsz];exact mg.out) hco (by simpa using gM) ?_;simp only[cQ];refine wpAnyH_done cK ?_ _;go_wp2_with fail
   go_meet
   case rel=>simpa using hpb
  skip
  simp only[cQ];have b0:=hS.alloc hS.size (.cells #[.I,.z,.n,.U,.U,.U,.I,.U,.V,.V,.V,.n,.n] 47);refine cI 9 rfl ?_;refine(HDO.out _ b0).mono ?_;rintro e w6 ⟨u1,cs,rfl,hcl,hco,hE,hR,bd,hn⟩;have B6:=b0.trans (bd.mono b0.size);refine⟨B6,?_⟩
  try dsimp only
  simp only[cQ];refine tI 10 rfl B6 ?_;refine tI 11 rfl B6 ?_;refine tI 12 rfl B6 ?_;refine tI 14 rfl B6 ?_;simp only[cQ];have k7:=(bd.block wd.heap.size cN).trans (aG wd (.cells #[.I,.z,.n,.U,.U,.U,.I,.U,.V,.V,.V,.n,.n] 47));have ht:w6.there wd.heap.size 0 13:=ei k7 cN;have hpb:=Ou B6 hS.size k7 hcl hE (fun b e=>by have:=hn b e;rw[cu] at this;have:=hS.size;omega) hR (fun k hk=>by
   have hk:(wd.alloc (.cells #[.I,.z,.n,.U,.U,.U,.I,.U,.V,.V,.V,.n,.n] 47)).heap.size≤k:=hk;rw[cu] at hk;have:=hS.size;exact⟨by omega,by omega⟩)
  obtain⟨_,_,_,_,_,_,_,_,gM⟩:=id hpb;have hsz:cs.toArray.size=13:=by simpa using hcl
  refine sI 15 rfl 47 (.tmp 14) (.tmp 38) wd.heap.size 0 cs.toArray (by rw[hsz];exact ht) (by rw[hsz];exact mg.out) hco (by simpa using gM) ?_;simp only[cQ];refine wpAnyH_done cK ?_ _;go_wp2_with fail
  go_meet
  case rel=>simpa using hpb
 case rest=>
 obtain⟨bx,cs,rfl,nN,kbx,⟨ea,ec,L,rfl,Z1,Z0⟩,hn,hR,gM⟩:=hcut;obtain⟨rr,ka,kc,pa,pc,afy,_⟩:=id hR;have hcs:cs=ez xe xa.path rr ka xa.kids.length kc pa xr.length pc:=by simpa using afy
 have hcl:cs.length=13:=by rw[hcs];simp[ez,Raw.cells,eL.cells]
 have hone:(cs.toArray:Array aA).all (·.oneCell')=true:=by rw[hcs];simp[ez,Raw.cells,eL.cells,bL]
 have hnu:∀x∈cs,∀n,x≠.b n:=by
  rw[hcs];intro x hx n;simp only[ez,Raw.cells,eL.cells,List.cons_append,List.nil_append,aK,aF,or_false] at hx;rcases hx with rfl|rfl|rfl|rfl|rfl|rfl|rfl|rfl|rfl|rfl|rfl|rfl|rfl<;>(intro e;cases e)
 obtain⟨h3,eE,hs2,hnt,GM⟩:=H3.out;obtain⟨h2,ok,hN,hr,hin,ho,hw,hd,hX,hB,htb,CG,ht⟩:=HH.out;have hdc:=(hd.below eE).below gM;have hc:=h3.below gM;obtain⟨RZ,hU1⟩:=hdc.aek hcl hnu;have h5:=hc.Nk (o:=23) (cs:=cs) hdc hX hU1;obtain⟨w5,nM⟩:=cG (wc.setCells db 23 cs);have Gi:Kept (·=db) wc w5:=by rw[nM];exact ic wc db 23 cs
 rw[←nM] at RZ hU1 h5;have akM:db<w3.heap.size:=aj hd.lt eE.size;have l7:gC w5 w5.heap.size ea L:=fun k q hk=>by
  obtain⟨b,off,e1,e2,e3⟩:=Z1 k q hk;refine⟨b,off,e1,aj e2 Gi.size,fun j v hv=>(Gi.cell (p:=⟨b,off+k*11+j,none⟩) e2 (fun e=>?_)).trans (e3 j v hv)⟩;have e:b=db:=e;have:=hn b (by rw[e1];rfl);omega
 have ju:=Z0.stay hU1 Gi.size;have GN:=hR.dP Gi (fun k hk _ e=>by have hk:w3.heap.size≤k:=hk;have e:k=db:=e;omega);have X6:Kept (fun b=>A.Z b∨b=db) w w5:=by
  have e1:Kept (fun b=>A.Z b∨b=db) w wc:=dm ((HW.out.2.2.1.trans (eE.mono HW.out.2.2.1.size)).trans (gM.mono (aC HW.out.2.2.1.size eE.size)));exact e1.trans (Gi.mono (fun b _ e=>.inr e))
 have z2:w5.cell? ⟨A.mb,2,none⟩=some (.slice (some ⟨tg,nh,none⟩) nt A.tc):=h5.cells.2.2.1.trans (by rw[CG,hnt]);have zr:w5.cell? ⟨tg,nh+r,none⟩=some (.p tb):=by
  obtain⟨g',off',e1,_,_,e4⟩:=h5.data.row r tb htb;rw[CG] at e1;cases e1;exact e4
 have HRB:=cE (dD kbx);have zP:Hid (wc.there db 23 13):=cE (hdc.there 23 13 cM);have YQ:=cE nM;have gu:=cE hone;have hsz:cs.toArray.size=13:=by simpa using hcl
 have eY:=cE (cD hcl hsz);obtain⟨nx,sL⟩:∃n,n=X.length:=⟨_,rfl⟩;rw[←sL];have H5:=cE (cD h5 (cD RZ (cD l7 (cD ju (cD GN (cD X6 (cD hn (cD hcs sL))))))));have akY:w3.heap.size≤wc.heap.size:=gM.size;clear hR afy hcs hcl hone hnu h3 eE hs2 hnt GM h2 ok hN hr hin ho hw hd hX hB htb CG ht hdc hc RZ hU1 h5 nM Gi akM l7 ju GN X6 Z1 Z0 kbx gM hsz hn sL;by_cases hx0:X=[]
 ·have aks:decide (0<nx)=false:=by
   have:=H5.out.2.2.2.2.2.2.2.2;rw[hx0] at this;simp at this;simp[this]
  have GF:=cE hx0;clear hx0;go_wp2_with (first
   |(refine aN rfl 47 (.tmp 14) rfl bx 0 rfl cs _ HRB.out underlying47 rfl (by rw[eY.out.1];exact mg.out) ?_)
   |(refine bM rfl 47 (.tmp 42) (.tmp 40) rfl db 23 cs.toArray rfl rfl (by rw[eY.out.2];exact zP.out) (by rw[eY.out.2];exact mg.out) gu.out ?_;rw[bu,←YQ.out])
   |fail)
  go_ret
  obtain⟨h5,RZ,_,_,GN,X6,_,_,_⟩:=H5.out;obtain⟨Wb,hxa,hxr⟩:=xA.out;have N9:m.xl r o ⟨s,n⟩=[]:=by rw[←H3.out.2.2.2.2];exact GF.out
  have e1:m.oT r o ⟨s,n⟩=m:=by unfold cS.oT;rw[if_pos N9]
  have e2:m.Gw r o ⟨s,n⟩=ko:=by unfold cS.Gw;rw[if_pos N9]
  rw[e1,e2,←Wb,←hxa,←hxr];have hB:=HH.out.2.2.2.2.2.2.2.2.2.1;have eE:=H3.out.2.1.size;exact⟨⟨⟨0,xe,cs,qQ,[],rfl,RZ,GN.mono (fun k hk=>by have hk:w3.heap.size≤k:=hk;show B≤k;omega),o5 _ _,rfl,fun h=>absurd rfl h⟩,⟨A.va,A.vc,A.ov,A.C,h5,fun b e=>.inl e⟩,X6⟩,rfl⟩
 have aks:decide (0<nx)=true:=by
  have:=cj.2 hx0;have:=H5.out.2.2.2.2.2.2.2.2;simp;omega
 have GF:=cE hx0;obtain⟨h5,RZ,l7,ju,GN,X6,hn,hcs,sL⟩:=H5.out;obtain⟨h2,ok,hN,hr,hin,ho,hw,hd,hX,hB,htb,CG,ht⟩:=HH.out;obtain⟨h3,eE,hs2,hnt,GM⟩:=H3.out;have ajW:w3.heap.size≤w5.heap.size:=by rw[YQ.out];exact aC akY (ic wc db 23 cs).size
 have Sd:=cE ((h5.st ok htb).Vt h5.nO.lt (h5.nO.tr r tb htb) (by have:=ok.ats r hr;omega) (hin) (who:=⟨s,n⟩) (a:=ea) (n:=nx) (c:=ec) (X3:=A.F) ⟨ea,ec,L,by rw[sL,GM];rfl,l7,by rw[GM] at ju;exact ju⟩ (by rw[GM] at hx0;exact hx0));clear h5 RZ l7 ju GN X6 hn hcs sL h2 ok hN hr hin ho hw hd hX hB htb CG ht h3 eE hs2 hnt GM hx0;go_wp2_with (first
  |(refine aN rfl 47 (.tmp 14) rfl bx 0 rfl cs _ HRB.out underlying47 rfl (by rw[eY.out.1];exact mg.out) ?_)
  |(refine bM rfl 47 (.tmp 42) (.tmp 40) rfl db 23 cs.toArray rfl rfl (by rw[eY.out.2];exact zP.out) (by rw[eY.out.2];exact mg.out) gu.out ?_;rw[bu,←YQ.out])
  |fail)
 refine Sd.out.mono ?_;rintro e w6 ⟨rfl,⟨S6,F6⟩,K6⟩;obtain⟨h5,RZ,l7,ju,GN,X6,hn,hcs,sL⟩:=H5.out;obtain⟨h2,ok,hN,hr,hin,ho,hw,hd,hX,hB,htb,CG,ht⟩:=HH.out;obtain⟨h3,eE,hs2,hnt,GM⟩:=H3.out;obtain⟨nd,hnd⟩:∃x,x=Mt (m.root r) (m.nodes r) (m.at_ r) ⟨s,n⟩ 0 o:=⟨_,rfl⟩;rw[←hnd] at S6 F6;have hne:nd≠[]:=fun e=>by
  have:=S6.inv.has;rw[e] at this;simp at this
 have h6:=h5.dV (t:=(m.at_ r+1,nd)) htb K6 S6.tr F6 hne;have htm:=ag htb;have hdt:db≠tb:=fun e=>(h5.xz db hX).1 (e▸A.zt htm)
 have hd6:=RZ.kept K6 hdt;have htlt:tb<w3.heap.size:=h3.Dx (A.zt htm);have hU6:=h5.ku K6 (fun b e=>by have e:b=tb:=e;exact e▸A.zt htm);have EC:gC w6 w6.heap.size ea L:=fun k q hk=>by
  obtain⟨b,off,e1,e2,e3⟩:=l7 k q hk;refine⟨b,off,e1,aj e2 K6.size,fun j v hv=>(K6.cell (p:=⟨b,off+k*11+j,none⟩) e2 (fun e=>?_)).trans (e3 j v hv)⟩;have e:b=tb:=e;have:=hn b (by rw[e1];rfl);omega
 have Uh:=ju.stay hU6 K6.size;have Uk:=(ok.tree r hr).Rf (at_:=m.at_ r) (ce:=0) (o:=o) hw (by have:=ok.ats r hr;exact⟨by omega,by omega⟩) ho.data;have ok6:(m.dV r (m.at_ r+1,nd)).Ok (N+1):=(ok.mono (by omega:N≤N+1)).dV r (fun _=>by rw[hnd];exact Uk.1) (by have:=ok.ats r hr;exact⟨by show 0≤m.at_ r+1;omega,by show m.at_ r+1≤_;omega⟩);have hXs:∀e∈X,rY e:=by rw[GM];exact Uk.2
 have hXl:X.length≤12:=by rw[GM];exact Ol ho.len
 have afL:∀ad,ea=some ad→A.lo ad.block∧ad.block<w6.heap.size:=fun ad e=>by
  have h0:=hn ad.block (by rw[e];rfl);refine⟨⟨fun z=>?_,fun z=>?_⟩,?_⟩
  ·have:=h3.Dx z
   omega
  ·have:=(h3.xz _ z).2.2
   omega
  obtain⟨y0,hy0⟩:∃y0,L[0]?=some y0:=by
   have h1:L.length=X.length:=ju.1;have:=cj.2 GF.out;exact⟨_,an cL⟩
  obtain⟨b,off,e1,e2,_⟩:=EC 0 y0 hy0;rw[e1] at e;cases e;exact e2
 have hval:eN (cS.oS m r X) ⟨none,0,ea,ec⟩=.agg #[.I,.V,.i r,.v ep,.n,.slice ea nx ec,.U]:=by
  simp only[eN,cT,cS.oS,←ht,←RD.out.2,sL];rfl
 have HMK:=cE (IG (x:=cS.oS m r X) (r:=⟨none,0,ea,ec⟩) (L:=L) h6 ok6 cL EC Uh afL (by show X.length≤1000;omega) (fun e he=>by have:=(hXs e he).node.data;omega) hd6 hX);rw[hval] at HMK;have Ws:Hid (fA w6 (fQ w3.heap.size) (.agg cs.toArray) xe xa xr∧Kept (fun b=>A.Z b∨b=db) w w6∧w3.heap.size≤w6.heap.size):=cE ⟨GN.dP K6 (fun k hk _ e=>by have hk:w3.heap.size≤k:=hk;have e:k=tb:=e;omega),X6.trans (K6.mono (fun b _ e=>.inl (by have e:b=tb:=e;exact e▸A.zt htm))),aC ajW K6.size⟩;have Kf:=cE hnd;clear h5 RZ l7 ju GN X6 hn hcs sL h2 ok hN hr hin ho hw hd hX hB htb CG ht h3 eE hs2 hnt GM S6 F6 K6 h6 htm hdt hd6 htlt hU6 EC Uh Uk ok6 hXs hXl afL hnd hne z2 zr;go_wp2_with fail
 refine HMK.out.mono ?_;rintro e w7 ⟨rfl,hme⟩;have HME:=cE hme;clear hme hval;go_wp2
 go_ret
 obtain⟨⟨va,vc,ov,C,hst,EE⟩,⟨rI,LI,hD,hI⟩,hK⟩:=HME.out;obtain⟨hR6,hK6,apU⟩:=Ws.out;obtain⟨Wb,hxa,hxr⟩:=xA.out;obtain⟨h3,eE,hs2,hnt,GM⟩:=H3.out;have hB:=HH.out.2.2.2.2.2.2.2.2.2.1;have hX:=HH.out.2.2.2.2.2.2.2.2.1;have hne:m.xl r o ⟨s,n⟩≠[]:=by rw[←GM];exact GF.out
 have e1:m.oT r o ⟨s,n⟩=(m.dV r (m.at_ r+1,nd)).make (cS.oS m r X):=by unfold cS.oT;rw[if_neg hne,GM,Kf.out]
 have e2:m.Gw r o ⟨s,n⟩=(m.dV r (m.at_ r+1,nd)).item (cS.oS m r X):=by unfold cS.Gw;rw[if_neg hne,GM];rfl
 rw[e1,e2,←Wb,←hxa,←hxr];have aqE:=eE.size;refine⟨⟨⟨0,xe,cs,rI,LI,rfl,hD,((hR6.dP hK (fun k hk _ e=>?_)).mono (fun k hk=>by have hk:w3.heap.size≤k:=hk;show B≤k;omega)),hI.mono (fun b hb=>⟨by have hb:w6.heap.size≤b:=hb.1;omega,hb.2⟩),rfl,fun h=>absurd rfl h⟩,⟨va,vc,ov,C,hst,fun b e=>(EE b e).imp id (fun e2=>aC hK6.size e2)⟩,hK6.trans hK⟩,rfl⟩;have hk:w3.heap.size≤k:=hk;rcases e with e|e
 ·have:=h3.Dx e
  omega
 have:=(h3.xz _ hX).2.2;omega
end
end
