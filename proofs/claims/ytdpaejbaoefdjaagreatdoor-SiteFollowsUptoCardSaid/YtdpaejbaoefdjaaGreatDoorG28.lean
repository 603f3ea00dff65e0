/- Part 28. -/
import Derived.Test.YtdpaejbaoefdjaaGreatDoorG27
open Go renaming World → aa,Value → an
open List renaming getElem?_append_right → af,getElem?_eq_some_iff → ag,getElem?_append_left → ah,length_append → aj,flatMap_cons → aq
namespace Go.Proofs.YtdpaejbaoefdjaaGreatDoor
open Go.Proofs.Tryz
set_option maxRecDepth 100000
set_option maxHeartbeats 64000000
set_option linter.unusedVariables false
set_option linter.unusedSimpArgs false
section
open Go.RowKit Go.Shelf Go.MapKept Go.ChangeMaps Go.Maps Go.Sort
section
variable{X:Nat→Prop}{w0 w:World}{d b:Nat}{cP:cO}{cS cnt:Int}{M:List (cO×Nd)}{dh:eF}{v:Value}{L:List dr}{E:List gm}
theorem xo{o:fh}(hu:eB o.cW cP=true):mj cP M dh o=if o.kind=1 then gB cP M dh o else if o.kind=2 then js cP M o else if o.kind=3∨o.kind=4 then mI M o else if (dL o.cW M).isSome=false then 31 else 0:=by
 unfold mj;rw[if_neg (by rw[hu];simp)]
theorem xA{o:fh}{A:I7}{e:Ending}{w':aa}(h0:mj cP M dh o=0)(hk:4≤o.kind)(hA:Co cP M cS dh o=A)(h:kV X w0 w d b cP cS cnt M M dh v E A e w'):lQ X w0 w d b cP cS cnt M dh v E o e w':=by
 refine .inl ⟨h0,cnt,Int.le_refl _,by omega,?_⟩;have e1:oP cP M cS dh o=M:=by
  unfold oP;rw[if_neg (by simpa using h0),if_neg cK,if_neg cK,if_neg cK]
 have e2:jW cP M cS dh o=[]:=by
  unfold jW VD;rw[if_neg (by simpa using h0),if_neg cK,if_neg cK,if_neg cK]
 rw[e1,e2,List.append_nil,hA];exact h
theorem pz{o:fh}{x:Int}{e:Ending}{w':aa}(h:mj cP M dh o=x)(hx:x≠0)(hf:mD w x e w'):lQ X w0 w d b cP cS cnt M dh v E o e w':=.inr ⟨by rw[h];exact hx,by rw[h];exact hf⟩
theorem EO{p:cO}{nd:Nd}(h:dL p M=some nd):nodeAt M p=nd:=by unfold nodeAt;rw[h];rfl
theorem dx.RT(D:dx X w0 w d b cP cS cnt M dh v L E)(r:di)(o:fh){lo:Nat→Prop}(hr:fo w lo r o)(hp:o.cW.length≤1000)(hu:eB o.cW cP=true)(hk:o.kind=5):
  Calls prog 259 #[.p d,r.val] w (lQ X w0 w d b cP cS cnt M dh v E o):=by
 have hE:=xo (M:=M) (dh:=dh) hu;rw[if_neg cK,if_neg cK,if_neg cK] at hE;cases hg:dL o.cW M with
 |none=>exact(D.get_none r o hr hp hg).mono fun e w' h=>pz (by rw[hE,hg];rfl) cL h
 |some nd=>
 refine(D.aaM r o hr hp hg).mono fun e w' h=>xA (by rw[hE,hg];rfl) cK ?_ h
 unfold Co;rw[if_neg cK,if_neg cK,if_neg cK,if_neg cK,EO hg]
theorem dx.OE(D:dx X w0 w d b cP cS cnt M dh v L E)(r:di)(o:fh){lo:Nat→Prop}(hr:fo w lo r o)(hp:o.cW.length≤1000)(hu:eB o.cW cP=true)(hk:o.kind=6):
  Calls prog 260 #[.p d,r.val] w (lQ X w0 w d b cP cS cnt M dh v E o):=by
 have hE:=xo (M:=M) (dh:=dh) hu;rw[if_neg cK,if_neg cK,if_neg cK] at hE;cases hg:dL o.cW M with
 |none=>exact(D.OU r o hr hp hg).mono fun e w' h=>pz (by rw[hE,hg];rfl) cL h
 |some nd=>
 refine(D.V6 r o hr hp hg).mono fun e w' h=>xA (by rw[hE,hg];rfl) cK ?_ h
 unfold Co;rw[if_neg cK,if_neg cK,if_neg cK,if_pos hk,EO hg]
theorem dx.Ka(D:dx X w0 w d b cP cS cnt M dh v L E)(r:di)(o:fh){lo:Nat→Prop}(hr:fo w lo r o)(hp:o.cW.length≤1000)(hu:eB o.cW cP=true)(hk:o.kind=4):
  Calls prog 258 #[.p d,r.val] w (lQ X w0 w d b cP cS cnt M dh v E o):=by
 have hE:=xo (M:=M) (dh:=dh) hu;rw[if_neg cK,if_neg cK,if_pos cK] at hE;by_cases hv:mI M o=0
 ·obtain⟨nd,hg,hn⟩:=ko hv
  refine(D.TC r o hr hp hg hn).mono fun e w' h=>xA (by rw[hE,hv]) cK ?_ h
  unfold Co;rw[if_neg cK,if_neg cK,if_neg cK,if_neg cK,EO hg]
 exact(D.PM r o hr hp rfl hv).mono fun e w' h=>pz hE hv h
theorem dx.RS(D:dx X w0 w d b cP cS cnt M dh v L E)(h0:0≤cnt)(h1:cnt≤100000)(hsz:E.length≤900)(r:di)(o:fh){lo:Nat→Prop}(hr:fo w lo r o)(hlo:∀k,lo k→v.ownBlock≠some k∧¬X k)(hp:o.cW.length≤1000)(hdl:o.data.length≤1000000)(hu:eB o.cW cP=true)(hk:o.kind=3):
  Calls prog 257 #[.p d,r.val] w (lQ X w0 w d b cP cS cnt M dh v E o):=by
 have hE:=xo (M:=M) (dh:=dh) hu;rw[if_neg cK,if_neg cK,if_pos cK] at hE;by_cases hv:mI M o=0
 ·have h0':mj cP M dh o=0:=by rw[hE,hv]
  have e1:oP cP M cS dh o=JM M cS o:=by
   unfold oP;rw[if_neg (by simpa using h0'),if_neg cK,if_neg cK,if_pos hk]
  have e2:jW cP M cS dh o=zi M cS o:=by
   unfold jW VD;rw[if_neg (by simpa using h0'),if_neg cK,if_neg cK,if_pos hk]
  have e3:Co cP M cS dh o=⟨o.cW,Ck (nodeAt M o.cW) o.data cS,[]⟩:=by
   unfold Co;rw[if_neg cK,if_neg cK,if_pos hk]
  refine(D.Ze h0 h1 hsz r o hr hlo hp hdl hv).mono fun e w' h=>.inl ⟨h0',cnt+1,by omega,by omega,?_⟩
  rw[e1,e2,e3];exact h
 exact(D.Ve r o hr hp rfl hv).mono fun e w' h=>pz hE hv h
theorem dx.GV(D:dx X w0 w d b cP cS cnt M dh v L E)(h0:0≤cnt)(h1:cnt≤100000)(hsz:E.length≤900)(r:di)(o:fh){lo:Nat→Prop}(hr:fo w lo r o)(hp:o.cW.length≤1000)(hu:eB o.cW cP=true)(hk:o.kind=2):
  Calls prog 256 #[.p d,r.val] w (lQ X w0 w d b cP cS cnt M dh v E o):=by
 have hE:=xo (M:=M) (dh:=dh) hu;rw[if_neg cK,if_pos hk] at hE;refine(D.JT h0 h1 hsz r o hr hp rfl).mono fun e w' h=>?_
 rcases h with ⟨hx,h⟩|⟨hx,h⟩
 ·have h0':mj cP M dh o=0:=by rw[hE,hx]
  have e1:oP cP M cS dh o=vt M cS o:=by
   unfold oP;rw[if_neg (by simpa using h0'),if_neg cK,if_pos hk]
  have e2:jW cP M cS dh o=jO M cS o:=by
   unfold jW VD;rw[if_neg (by simpa using h0'),if_neg cK,if_pos hk]
  have e3:Co cP M cS dh o=⟨o.cW,iQ,[]⟩:=by
   unfold Co;rw[if_neg cK,if_pos hk]
  refine .inl ⟨h0',cnt+1,by omega,by omega,?_⟩;rw[e1,e2,e3];exact h
 exact pz hE hx h
end
theorem O2:(prog.info? 47).map (fun i=>(i.zero,i.size,i.bytes))=some (some (.agg #[.I,.z,.n,.U,.U,.U,.I,.U,.V,.V,.V,.n,.n]),13,152):=by kernel_rfl
structure kg where
 e:Int
 cW:cO
 node:Raw
 ka:Option Addr
 kn:Nat
 kc:Nat
def kg.cells(r:kg):List an:=eL r.e r.cW r.node r.ka r.kn r.kc none 0 0
theorem Gs(r:kg):r.cells.length=13:=rfl
structure kT(w:aa)(lo:Nat→Prop)(r:kg)(x:wU):Prop where
 e:r.e=x.e
 cW:r.cW=x.a.cW
 node:Reads w lo r.node x.a.node
 kn:r.kn=x.a.kids.length
 kids:gK w lo r.ka x.a.kids
theorem kT.dZ{w w':aa}{lo S:Nat→Prop}{r:kg}{x:wU}(h:kT w lo r x)(hk:cQ S w w')(hn:∀k,lo k→k<w.heap.size→¬S k):kT w' lo r x:=
 ⟨h.e,h.cW,h.node.dZ hk hn,h.kn,h.kids.dZ hk hn⟩
theorem kT.mono{w:aa}{lo lo':Nat→Prop}{r:kg}{x:wU}(h:kT w lo r x)(hl:∀k,lo k→k<w.heap.size→lo' k):kT w lo' r x:=
 ⟨h.e,h.cW,h.node.monoB hl,h.kn,h.kids.mono hl⟩
theorem Ir:∀(L:List kg) (k:Nat) (r:kg),L[k]?=some r→∀j u,r.cells[j]?=some u→(L.flatMap kg.cells)[k*13+j]?=some u
 |[],k,r,h,j,u,hu=>by simp at h
 |x::L,0,r,h,j,u,hu=>by
  simp at h;subst h;rw[aq,Nat.zero_mul,Nat.zero_add,ah (ag.1 hu).1];exact hu
 |x::L,k+1,r,h,j,u,hu=>by
  have h':L[k]?=some r:=by simpa using h
  rw[aq,af (by rw[Gs];omega),Gs,show(k+1)*13+j - 13=k*13+j by omega];exact Ir L k r h' j u hu
structure jD(w:aa)(base:Nat)(lo:Nat→Prop)(v:an)(L:List kg)(X:List wU):Prop where
 own:w.ownsRow base 47 13 v L.length (L.flatMap kg.cells)
 len:L.length=X.length
 like:∀(k:Nat) r x,L[k]?=some r→X[k]?=some x→kT w (fun k=>lo k∧v.ownBlock≠some k) r x
theorem JS(w:aa)(base:Nat)(lo:Nat→Prop):jD w base lo (.n) [] []:=⟨World.ownsRow_nil w base 47 13,rfl,fun k r e h=>by simp at h⟩
theorem jD.dZ{w w':aa}{base:Nat}{lo S:Nat→Prop}{v:an}{L:List kg}{X:List wU}(h:jD w base lo v L X)(hk:cQ S w w')(hn:∀k,lo k→k<w.heap.size→¬S k)(hv:∀k,v.ownBlock=some k→¬S k):jD w' base lo v L X:=
 ⟨fA h.own hk hv,h.len,fun k r x h1 h2=>(h.like k r x h1 h2).dZ hk (fun k hl hlt=>hn k hl.1 hlt)⟩
theorem jD.mono{w:aa}{base:Nat}{lo lo':Nat→Prop}{v:an}{L:List kg}{X:List wU}(h:jD w base lo v L X)(hl:∀k,lo k→k<w.heap.size→lo' k):jD w base lo' v L X:=
 ⟨h.own,h.len,fun k r x h1 h2=>(h.like k r x h1 h2).mono (fun k hk hlt=>⟨hl k hk.1 hlt,hk.2⟩)⟩
theorem jD.more{w wa w':aa}{base:Nat}{lo:Nat→Prop}{v v':an}{L:List kg}{X:List wU}{r:kg}{x:wU}(h:jD w base lo v L X)(hb:cE w wa)(hr:kT w (fun k=>lo k∧v.ownBlock≠some k) r x)
  (hown:w'.ownsRow base 47 13 v' (L.length+1) (L.flatMap kg.cells++r.cells)) (hg:wa.grownBy w' v.ownBlock) (hw:∀k,v'.ownBlock=some k→v.ownBlock=some k∨wa.heap.size≤k):jD w' base lo v' (L++[r]) (X++[x]):=by
 have hk:cQ (fun k=>v.ownBlock=some k) w w':=(cQ.eT hb).trans (gz hg);have hone:∀{r:kg} {x:wU},kT w (fun k=>lo k∧v.ownBlock≠some k) r x→kT w' (fun k=>lo k∧v'.ownBlock≠some k) r x:=fun {r x} hx=>by
  have h1:=hx.mono (lo':=fun k=>(lo k∧v.ownBlock≠some k)∧k<w.heap.size) (fun k h1 h2=>⟨h1,h2⟩);have h2:=h1.dZ hk (fun k h1 _=>h1.1.2);exact h2.mono (fun k h1 _=>⟨h1.1.1,fun e=>by
   rcases hw k e with h|h
   ·exact h1.1.2 h
   have:=hb.size;have:=h1.2;omega⟩)
 refine⟨by rw[aj,List.length_singleton,List.flatMap_append];simpa using hown,by rw[aj,aj,h.len];rfl,fun k r' x' h1 h2=>?_⟩;by_cases hlt:k<L.length
 ·rw[ah hlt] at h1
  rw[ah (by rw[←h.len];exact hlt)] at h2;exact hone (h.like k r' x' h1 h2)
 have hk0:k=L.length:=by have:=(ag.1 h1).1;simp at this;omega
 subst hk0;have hl:=h.len;rw[af (Nat.le_refl _),Nat.sub_self] at h1;rw[af cK,←hl,Nat.sub_self] at h2;simp at h1 h2;subst h1 h2;exact hone hr
def jZ(w:aa)(lo:Nat→Prop)(pa:Option Addr)(X:List wU):Prop:=∀(k:Nat) x,X[k]?=some x→∃g off,∃r:kg,pa=some ⟨g,off,none⟩∧lo g∧g<w.heap.size∧w.rangeAt g (off+k*13) r.cells∧kT w lo r x
theorem jZ.nil(w:aa)(lo:Nat→Prop)(pa:Option Addr):jZ w lo pa []:=fun k x h=>by simp at h
theorem jZ.dZ{w w':aa}{lo S:Nat→Prop}{pa:Option Addr}{X:List wU}(h:jZ w lo pa X)(hk:cQ S w w')(hn:∀k,lo k→k<w.heap.size→¬S k):jZ w' lo pa X:=fun k x hx=>by
 obtain⟨g,off,r,h1,h2,h3,h4,h5⟩:=h k x hx;exact⟨g,off,r,h1,h2,Nat.lt_of_lt_of_le h3 hk.size,fun j u hu=>(hk.cell (p:=⟨g,off+k*13+j,none⟩) h3 (hn g h2 h3)).trans (h4 j u hu),h5.dZ hk hn⟩
theorem jD.VU{w:aa}{base:Nat}{lo:Nat→Prop}{v:an}{L:List kg}{X:List wU}(h:jD w base lo v L X){lo':Nat→Prop}(hl:∀k,lo k→k<w.heap.size→lo' k)(hb:∀k,base≤k→lo' k):∃pa pc,v=.slice pa X.length pc∧jZ w lo' pa X:=by
 obtain⟨a,c,hv⟩:=iE h.own;rw[h.len] at hv;refine⟨a,c,hv,fun k x hx=>?_⟩;have hkx:=(ag.1 hx).1;obtain⟨r,hr⟩:∃r,L[k]?=some r:=⟨_,List.getElem?_eq_getElem (by rw[h.len];exact hkx)⟩;rcases h.own.2 with ⟨h1,h0⟩|⟨g,cap,cur,h1,yG,hg,_⟩
 ·have:=h.len;omega
 obtain rfl:a=some ⟨g,0,none⟩:=(Value.slice.inj (hv.symm.trans h1)).1;have UL:v.ownBlock=some g:=by rw[h1];rfl
 refine⟨g,0,r,rfl,hb g yG,(h.own.lt g UL).2,fun j u hu=>?_,(h.like k r x hr hx).mono (fun k hk hlt=>hl k hk.1 hlt)⟩;have:=h.own.cells (g:=g) UL (k*13+j) u (Ir L k r hr j u hu);rw[Addr.add_lit,Nat.zero_add] at this;rw[show 0+k*13+j=k*13+j by omega];exact this
def fQ(w:aa)(lo:Nat→Prop)(u:an)(x:Int)(A:I7)(X:List wU):Prop:=
 ∃(r:Raw) (ka:Option Addr) (kc:Nat) (pa:Option Addr) (pc:Nat),u=.agg (eL x A.cW r ka A.kids.length kc pa X.length pc).toArray∧Reads w lo r A.node∧gK w lo ka A.kids∧jZ w lo pa X
theorem fQ.dZ{w w':aa}{lo S:Nat→Prop}{u:an}{x:Int}{A:I7}{X:List wU}(h:fQ w lo u x A X)(hk:cQ S w w')(hn:∀k,lo k→k<w.heap.size→¬S k):fQ w' lo u x A X:=by
 obtain⟨r,ka,kc,pa,pc,h1,h2,h3,h4⟩:=h;exact⟨r,ka,kc,pa,pc,h1,h2.dZ hk hn,h3.dZ hk hn,h4.dZ hk hn⟩
theorem jZ.mono{w:aa}{lo lo':Nat→Prop}{pa:Option Addr}{X:List wU}(h:jZ w lo pa X)(hl:∀k,lo k→lo' k):jZ w lo' pa X:=fun k x hx=>by
 obtain⟨g,off,r,h1,h2,h3,h4,h5⟩:=h k x hx;exact⟨g,off,r,h1,hl g h2,h3,h4,h5.mono (fun k h _=>hl k h)⟩
theorem fQ.mono{w:aa}{lo lo':Nat→Prop}{u:an}{x:Int}{A:I7}{X:List wU}(h:fQ w lo u x A X)(hl:∀k,lo k→lo' k):fQ w lo' u x A X:=by
 obtain⟨r,ka,kc,pa,pc,h1,h2,h3,h4⟩:=h;exact⟨r,ka,kc,pa,pc,h1,h2.mono hl,h3.mono (fun k h _=>hl k h),h4.mono hl⟩
def iB(X:Nat→Prop)(w:aa)(u:an)(E:List gm):Prop:=∃a c L,u=.slice a E.length c∧gH w w.heap.size a L∧ff w (fun k=>¬X k) L E
theorem iB.nil(X:Nat→Prop)(w:aa):iB X w (.n) []:=⟨none,0,[],rfl,fun k r h=>by simp at h,rfl,fun k r e h=>by simp at h⟩
theorem iB.below{X:Nat→Prop}{w w':aa}{u:an}{E:List gm}(h:iB X w u E)(hb:cE w w'):iB X w' u E:=by
 obtain⟨a,c,L,h1,h2,h3⟩:=h;exact⟨a,c,L,h1,(h2.below hb).mono hb.size,h3.below hb⟩
theorem iB.weak{X X':Nat→Prop}{w:aa}{u:an}{E:List gm}(h:iB X w u E)(hX:∀k,X' k→X k):iB X' w u E:=by
 obtain⟨a,c,L,h1,h2,h3⟩:=h;exact⟨a,c,L,h1,h2,h3.1,fun k r e g1 g2=>⟨(h3.2 k r e g1 g2).cW,(h3.2 k r e g1 g2).gone,(h3.2 k r e g1 g2).node.mono (fun k h e=>h (hX k e))⟩⟩
theorem yf.out{w:aa}{base:Nat}{v:an}{L:List dr}{E:List gm}(h:yf w base v L E){X:Nat→Prop}(hr:ff w (fun k=>v.ownBlock≠some k∧¬X k) L E):iB X w v E:=by
 obtain⟨a,c,hv⟩:=iE h.own;have hl:ff w (fun k=>¬X k) L E:=⟨hr.1,fun k r e h1 h2=>⟨(hr.2 k r e h1 h2).cW,(hr.2 k r e h1 h2).gone,(hr.2 k r e h1 h2).node.mono (fun _ h=>h.2)⟩⟩;refine⟨a,c,L,by rw[hv,h.like.1],?_,hl⟩;by_cases h0:0<L.length
 ·obtain⟨g,c',h1,_,_,h4⟩:=h.VU h0
  rw[hv] at h1;cases h1;exact h4
 have:L=[]:=List.eq_nil_of_length_eq_zero cK;subst this;exact fun k r h=>by simp at h
end
