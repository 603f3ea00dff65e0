/- Part 28. -/
import Derived.Test.YtdpaejbaoefdjaaGreatDoorQ27
open Go renaming World → aa,Value → an
open List renaming getElem?_append_right → af,getElem?_eq_some_iff → ag,getElem?_append_left → ah,length_append → aj,flatMap_cons → aq
namespace Go.Proofs.YtdpaejbaoefdjaaGreatDoor
open Go.Proofs.Tryz
set_option maxRecDepth 100000
set_option maxHeartbeats 64000000
set_option linter.unusedVariables false
set_option linter.unusedSimpArgs false
section
open Go.RowKit Go.Shelf Go.MapKept Go.ChangeMaps Go.Maps Go.Sort
section
variable{X:Nat→Prop}{w0 w:World}{d b:Nat}{root:cP}{at_ cnt:Int}{M:List (cP×Nd)}{who:dW}{v:Value}{L:List cZ}{E:List gh}
theorem xW{o:eC}(hu:dX o.path root=true):lN root M who o=if o.kind=1 then fW root M who o else if o.kind=2 then iO root M o else if o.kind=3∨o.kind=4 then mF M o else if (dF o.path M).isSome=false then 31 else 0:=by
 unfold lN;rw[if_neg (by rw[hu];simp)]
theorem yc{o:eC}{A:JY}{e:Ending}{w':aa}(h0:lN root M who o=0)(hk:4≤o.kind)(hA:C3 root M at_ who o=A)(h:kQ X w0 w d b root at_ cnt M M who v E A e w'):lR X w0 w d b root at_ cnt M who v E o e w':=by
 refine .inl ⟨h0,cnt,Int.le_refl _,by omega,?_⟩;have e1:od root M at_ who o=M:=by
  unfold od;rw[if_neg (by simpa using h0),if_neg cL,if_neg cL,if_neg cL]
 have e2:jA root M at_ who o=[]:=by
  unfold jA V4;rw[if_neg (by simpa using h0),if_neg cL,if_neg cL,if_neg cL]
 rw[e1,e2,List.append_nil,hA];exact h
theorem pI{o:eC}{x:Int}{e:Ending}{w':aa}(h:lN root M who o=x)(hx:x≠0)(hf:mB w x e w'):lR X w0 w d b root at_ cnt M who v E o e w':=.inr ⟨by rw[h];exact hx,by rw[h];exact hf⟩
theorem FN{p:cP}{nd:Nd}(h:dF p M=some nd):nodeAt M p=nd:=by unfold nodeAt;rw[h];rfl
theorem dh.Tw(D:dh X w0 w d b root at_ cnt M who v L E)(r:cV)(o:eC){lo:Nat→Prop}(hr:eZ w lo r o)(hp:o.path.length≤1000)(hu:dX o.path root=true)(hk:o.kind=5):
  Calls prog 259 #[.p d,r.val] w (lR X w0 w d b root at_ cnt M who v E o):=by
 have hE:=xW (M:=M) (who:=who) hu;rw[if_neg cL,if_neg cL,if_neg cL] at hE;cases hg:dF o.path M with
 |none=>exact(D.get_none r o hr hp hg).mono fun e w' h=>pI (by rw[hE,hg];rfl) cM h
 |some nd=>
 refine(D.acn r o hr hp hg).mono fun e w' h=>yc (by rw[hE,hg];rfl) cL ?_ h
 unfold C3;rw[if_neg cL,if_neg cL,if_neg cL,if_neg cL,FN hg]
theorem dh.Qc(D:dh X w0 w d b root at_ cnt M who v L E)(r:cV)(o:eC){lo:Nat→Prop}(hr:eZ w lo r o)(hp:o.path.length≤1000)(hu:dX o.path root=true)(hk:o.kind=6):
  Calls prog 260 #[.p d,r.val] w (lR X w0 w d b root at_ cnt M who v E o):=by
 have hE:=xW (M:=M) (who:=who) hu;rw[if_neg cL,if_neg cL,if_neg cL] at hE;cases hg:dF o.path M with
 |none=>exact(D.Qp r o hr hp hg).mono fun e w' h=>pI (by rw[hE,hg];rfl) cM h
 |some nd=>
 refine(D.XH r o hr hp hg).mono fun e w' h=>yc (by rw[hE,hg];rfl) cL ?_ h
 unfold C3;rw[if_neg cL,if_neg cL,if_neg cL,if_pos hk,FN hg]
theorem dh.Lp(D:dh X w0 w d b root at_ cnt M who v L E)(r:cV)(o:eC){lo:Nat→Prop}(hr:eZ w lo r o)(hp:o.path.length≤1000)(hu:dX o.path root=true)(hk:o.kind=4):
  Calls prog 258 #[.p d,r.val] w (lR X w0 w d b root at_ cnt M who v E o):=by
 have hE:=xW (M:=M) (who:=who) hu;rw[if_neg cL,if_neg cL,if_pos cL] at hE;by_cases hv:mF M o=0
 ·obtain⟨nd,hg,hn⟩:=jT hv
  refine(D.Va r o hr hp hg hn).mono fun e w' h=>yc (by rw[hE,hv]) cL ?_ h
  unfold C3;rw[if_neg cL,if_neg cL,if_neg cL,if_neg cL,FN hg]
 exact(D.Ro r o hr hp rfl hv).mono fun e w' h=>pI hE hv h
theorem dh.Tv(D:dh X w0 w d b root at_ cnt M who v L E)(h0:0≤cnt)(h1:cnt≤100000)(hsz:E.length≤900)(r:cV)(o:eC){lo:Nat→Prop}(hr:eZ w lo r o)(hlo:∀k,lo k→v.ownBlock≠some k∧¬X k)(hp:o.path.length≤1000)(hdl:o.data.length≤1000000)(hu:dX o.path root=true)(hk:o.kind=3):
  Calls prog 257 #[.p d,r.val] w (lR X w0 w d b root at_ cnt M who v E o):=by
 have hE:=xW (M:=M) (who:=who) hu;rw[if_neg cL,if_neg cL,if_pos cL] at hE;by_cases hv:mF M o=0
 ·have h0':lN root M who o=0:=by rw[hE,hv]
  have e1:od root M at_ who o=KF M at_ o:=by
   unfold od;rw[if_neg (by simpa using h0'),if_neg cL,if_neg cL,if_pos hk]
  have e2:jA root M at_ who o=zV M at_ o:=by
   unfold jA V4;rw[if_neg (by simpa using h0'),if_neg cL,if_neg cL,if_pos hk]
  have e3:C3 root M at_ who o=⟨o.path,CY (nodeAt M o.path) o.data at_,[]⟩:=by
   unfold C3;rw[if_neg cL,if_neg cL,if_pos hk]
  refine(D.aaR h0 h1 hsz r o hr hlo hp hdl hv).mono fun e w' h=>.inl ⟨h0',cnt+1,by omega,by omega,?_⟩
  rw[e1,e2,e3];exact h
 exact(D.WM r o hr hp rfl hv).mono fun e w' h=>pI hE hv h
theorem dh.IB(D:dh X w0 w d b root at_ cnt M who v L E)(h0:0≤cnt)(h1:cnt≤100000)(hsz:E.length≤900)(r:cV)(o:eC){lo:Nat→Prop}(hr:eZ w lo r o)(hp:o.path.length≤1000)(hu:dX o.path root=true)(hk:o.kind=2):
  Calls prog 256 #[.p d,r.val] w (lR X w0 w d b root at_ cnt M who v E o):=by
 have hE:=xW (M:=M) (who:=who) hu;rw[if_neg cL,if_pos hk] at hE;refine(D.KS h0 h1 hsz r o hr hp rfl).mono fun e w' h=>?_
 rcases h with ⟨hx,h⟩|⟨hx,h⟩
 ·have h0':lN root M who o=0:=by rw[hE,hx]
  have e1:od root M at_ who o=sD M at_ o:=by
   unfold od;rw[if_neg (by simpa using h0'),if_neg cL,if_pos hk]
  have e2:jA root M at_ who o=jK M at_ o:=by
   unfold jA V4;rw[if_neg (by simpa using h0'),if_neg cL,if_pos hk]
  have e3:C3 root M at_ who o=⟨o.path,iN,[]⟩:=by
   unfold C3;rw[if_neg cL,if_pos hk]
  refine .inl ⟨h0',cnt+1,by omega,by omega,?_⟩;rw[e1,e2,e3];exact h
 exact pI hE hx h
end
theorem QD:(prog.info? 47).map (fun i=>(i.zero,i.size,i.bytes))=some (some (.agg #[.I,.z,.n,.U,.U,.U,.I,.U,.V,.V,.V,.n,.n]),13,152):=by kernel_rfl
structure jS where
 e:Int
 path:cP
 node:Raw
 ka:Option Addr
 kn:Nat
 kc:Nat
def jS.cells(r:jS):List an:=ez r.e r.path r.node r.ka r.kn r.kc none 0 0
theorem Hu(r:jS):r.cells.length=13:=rfl
structure kO(w:aa)(lo:Nat→Prop)(r:jS)(x:xI):Prop where
 e:r.e=x.e
 path:r.path=x.a.path
 node:Reads w lo r.node x.a.node
 kn:r.kn=x.a.kids.length
 kids:gG w lo r.ka x.a.kids
theorem kO.dP{w w':aa}{lo S:Nat→Prop}{r:jS}{x:xI}(h:kO w lo r x)(hk:Kept S w w')(hn:∀k,lo k→k<w.heap.size→¬S k):kO w' lo r x:=
 ⟨h.e,h.path,h.node.dP hk hn,h.kn,h.kids.dP hk hn⟩
theorem kO.mono{w:aa}{lo lo':Nat→Prop}{r:jS}{x:xI}(h:kO w lo r x)(hl:∀k,lo k→k<w.heap.size→lo' k):kO w lo' r x:=
 ⟨h.e,h.path,h.node.monoB hl,h.kn,h.kids.mono hl⟩
theorem Jj:∀(L:List jS) (k:Nat) (r:jS),L[k]?=some r→∀j u,r.cells[j]?=some u→(L.flatMap jS.cells)[k*13+j]?=some u
 |[],k,r,h,j,u,hu=>by simp at h
 |x::L,0,r,h,j,u,hu=>by
  simp at h;subst h;rw[aq,Nat.zero_mul,Nat.zero_add,ah (ag.1 hu).1];exact hu
 |x::L,k+1,r,h,j,u,hu=>by
  have h':L[k]?=some r:=by simpa using h
  rw[aq,af (by rw[Hu];omega),Hu,show(k+1)*13+j - 13=k*13+j by omega];exact Jj L k r h' j u hu
structure jy(w:aa)(base:Nat)(lo:Nat→Prop)(v:an)(L:List jS)(X:List xI):Prop where
 own:w.ownsRow base 47 13 v L.length (L.flatMap jS.cells)
 len:L.length=X.length
 like:∀(k:Nat) r x,L[k]?=some r→X[k]?=some x→kO w (fun k=>lo k∧v.ownBlock≠some k) r x
theorem KR(w:aa)(base:Nat)(lo:Nat→Prop):jy w base lo (.n) [] []:=⟨World.ownsRow_nil w base 47 13,rfl,fun k r e h=>by simp at h⟩
theorem jy.dP{w w':aa}{base:Nat}{lo S:Nat→Prop}{v:an}{L:List jS}{X:List xI}(h:jy w base lo v L X)(hk:Kept S w w')(hn:∀k,lo k→k<w.heap.size→¬S k)(hv:∀k,v.ownBlock=some k→¬S k):jy w' base lo v L X:=
 ⟨fm h.own hk hv,h.len,fun k r x h1 h2=>(h.like k r x h1 h2).dP hk (fun k hl hlt=>hn k hl.1 hlt)⟩
theorem jy.mono{w:aa}{base:Nat}{lo lo':Nat→Prop}{v:an}{L:List jS}{X:List xI}(h:jy w base lo v L X)(hl:∀k,lo k→k<w.heap.size→lo' k):jy w base lo' v L X:=
 ⟨h.own,h.len,fun k r x h1 h2=>(h.like k r x h1 h2).mono (fun k hk hlt=>⟨hl k hk.1 hlt,hk.2⟩)⟩
theorem jy.more{w wa w':aa}{base:Nat}{lo:Nat→Prop}{v v':an}{L:List jS}{X:List xI}{r:jS}{x:xI}(h:jy w base lo v L X)(hb:cF w wa)(hr:kO w (fun k=>lo k∧v.ownBlock≠some k) r x)
  (hown:w'.ownsRow base 47 13 v' (L.length+1) (L.flatMap jS.cells++r.cells)) (hg:wa.grownBy w' v.ownBlock) (hw:∀k,v'.ownBlock=some k→v.ownBlock=some k∨wa.heap.size≤k):jy w' base lo v' (L++[r]) (X++[x]):=by
 have hk:Kept (fun k=>v.ownBlock=some k) w w':=(Kept.eH hb).trans (fT hg);have hone:∀{r:jS} {x:xI},kO w (fun k=>lo k∧v.ownBlock≠some k) r x→kO w' (fun k=>lo k∧v'.ownBlock≠some k) r x:=fun {r x} hx=>by
  have h1:=hx.mono (lo':=fun k=>(lo k∧v.ownBlock≠some k)∧k<w.heap.size) (fun k h1 h2=>⟨h1,h2⟩);have h2:=h1.dP hk (fun k h1 _=>h1.1.2);exact h2.mono (fun k h1 _=>⟨h1.1.1,fun e=>by
   rcases hw k e with h|h
   ·exact h1.1.2 h
   have:=hb.size;have:=h1.2;omega⟩)
 refine⟨by rw[aj,List.length_singleton,List.flatMap_append];simpa using hown,by rw[aj,aj,h.len];rfl,fun k r' x' h1 h2=>?_⟩;by_cases hlt:k<L.length
 ·rw[ah hlt] at h1
  rw[ah (by rw[←h.len];exact hlt)] at h2;exact hone (h.like k r' x' h1 h2)
 have hk0:k=L.length:=by have:=(ag.1 h1).1;simp at this;omega
 subst hk0;have hl:=h.len;rw[af (Nat.le_refl _),Nat.sub_self] at h1;rw[af cL,←hl,Nat.sub_self] at h2;simp at h1 h2;subst h1 h2;exact hone hr
def jR(w:aa)(lo:Nat→Prop)(pa:Option Addr)(X:List xI):Prop:=∀(k:Nat) x,X[k]?=some x→∃g off,∃r:jS,pa=some ⟨g,off,none⟩∧lo g∧g<w.heap.size∧w.rangeAt g (off+k*13) r.cells∧kO w lo r x
theorem jR.nil(w:aa)(lo:Nat→Prop)(pa:Option Addr):jR w lo pa []:=fun k x h=>by simp at h
theorem jR.dP{w w':aa}{lo S:Nat→Prop}{pa:Option Addr}{X:List xI}(h:jR w lo pa X)(hk:Kept S w w')(hn:∀k,lo k→k<w.heap.size→¬S k):jR w' lo pa X:=fun k x hx=>by
 obtain⟨g,off,r,h1,h2,h3,h4,h5⟩:=h k x hx;exact⟨g,off,r,h1,h2,Nat.lt_of_lt_of_le h3 hk.size,fun j u hu=>(hk.cell (p:=⟨g,off+k*13+j,none⟩) h3 (hn g h2 h3)).trans (h4 j u hu),h5.dP hk hn⟩
theorem jy.Xw{w:aa}{base:Nat}{lo:Nat→Prop}{v:an}{L:List jS}{X:List xI}(h:jy w base lo v L X){lo':Nat→Prop}(hl:∀k,lo k→k<w.heap.size→lo' k)(hb:∀k,base≤k→lo' k):∃pa pc,v=.slice pa X.length pc∧jR w lo' pa X:=by
 obtain⟨a,c,hv⟩:=iA h.own;rw[h.len] at hv;refine⟨a,c,hv,fun k x hx=>?_⟩;have hkx:=(ag.1 hx).1;obtain⟨r,hr⟩:∃r,L[k]?=some r:=⟨_,List.getElem?_eq_getElem (by rw[h.len];exact hkx)⟩;rcases h.own.2 with ⟨h1,h0⟩|⟨g,cap,cur,h1,zn,hg,_⟩
 ·have:=h.len;omega
 obtain rfl:a=some ⟨g,0,none⟩:=(Value.slice.inj (hv.symm.trans h1)).1;have Wi:v.ownBlock=some g:=by rw[h1];rfl
 refine⟨g,0,r,rfl,hb g zn,(h.own.lt g Wi).2,fun j u hu=>?_,(h.like k r x hr hx).mono (fun k hk hlt=>hl k hk.1 hlt)⟩;have:=h.own.cells (g:=g) Wi (k*13+j) u (Jj L k r hr j u hu);rw[Addr.add_lit,Nat.zero_add] at this;rw[show 0+k*13+j=k*13+j by omega];exact this
def fA(w:aa)(lo:Nat→Prop)(u:an)(x:Int)(A:JY)(X:List xI):Prop:=
 ∃(r:Raw) (ka:Option Addr) (kc:Nat) (pa:Option Addr) (pc:Nat),u=.agg (ez x A.path r ka A.kids.length kc pa X.length pc).toArray∧Reads w lo r A.node∧gG w lo ka A.kids∧jR w lo pa X
theorem fA.dP{w w':aa}{lo S:Nat→Prop}{u:an}{x:Int}{A:JY}{X:List xI}(h:fA w lo u x A X)(hk:Kept S w w')(hn:∀k,lo k→k<w.heap.size→¬S k):fA w' lo u x A X:=by
 obtain⟨r,ka,kc,pa,pc,h1,h2,h3,h4⟩:=h;exact⟨r,ka,kc,pa,pc,h1,h2.dP hk hn,h3.dP hk hn,h4.dP hk hn⟩
theorem jR.mono{w:aa}{lo lo':Nat→Prop}{pa:Option Addr}{X:List xI}(h:jR w lo pa X)(hl:∀k,lo k→lo' k):jR w lo' pa X:=fun k x hx=>by
 obtain⟨g,off,r,h1,h2,h3,h4,h5⟩:=h k x hx;exact⟨g,off,r,h1,hl g h2,h3,h4,h5.mono (fun k h _=>hl k h)⟩
theorem fA.mono{w:aa}{lo lo':Nat→Prop}{u:an}{x:Int}{A:JY}{X:List xI}(h:fA w lo u x A X)(hl:∀k,lo k→lo' k):fA w lo' u x A X:=by
 obtain⟨r,ka,kc,pa,pc,h1,h2,h3,h4⟩:=h;exact⟨r,ka,kc,pa,pc,h1,h2.mono hl,h3.mono (fun k h _=>hl k h),h4.mono hl⟩
def ij(X:Nat→Prop)(w:aa)(u:an)(E:List gh):Prop:=∃a c L,u=.slice a E.length c∧gC w w.heap.size a L∧eV w (fun k=>¬X k) L E
theorem ij.nil(X:Nat→Prop)(w:aa):ij X w (.n) []:=⟨none,0,[],rfl,fun k r h=>by simp at h,rfl,fun k r e h=>by simp at h⟩
theorem ij.below{X:Nat→Prop}{w w':aa}{u:an}{E:List gh}(h:ij X w u E)(hb:cF w w'):ij X w' u E:=by
 obtain⟨a,c,L,h1,h2,h3⟩:=h;exact⟨a,c,L,h1,(h2.below hb).mono hb.size,h3.below hb⟩
theorem ij.weak{X X':Nat→Prop}{w:aa}{u:an}{E:List gh}(h:ij X w u E)(hX:∀k,X' k→X k):ij X' w u E:=by
 obtain⟨a,c,L,h1,h2,h3⟩:=h;exact⟨a,c,L,h1,h2,h3.1,fun k r e g1 g2=>⟨(h3.2 k r e g1 g2).path,(h3.2 k r e g1 g2).gone,(h3.2 k r e g1 g2).node.mono (fun k h e=>h (hX k e))⟩⟩
theorem yO.out{w:aa}{base:Nat}{v:an}{L:List cZ}{E:List gh}(h:yO w base v L E){X:Nat→Prop}(hr:eV w (fun k=>v.ownBlock≠some k∧¬X k) L E):ij X w v E:=by
 obtain⟨a,c,hv⟩:=iA h.own;have hl:eV w (fun k=>¬X k) L E:=⟨hr.1,fun k r e h1 h2=>⟨(hr.2 k r e h1 h2).path,(hr.2 k r e h1 h2).gone,(hr.2 k r e h1 h2).node.mono (fun _ h=>h.2)⟩⟩;refine⟨a,c,L,by rw[hv,h.like.1],?_,hl⟩;by_cases h0:0<L.length
 ·obtain⟨g,c',h1,_,_,h4⟩:=h.Xw h0
  rw[hv] at h1;cases h1;exact h4
 have:L=[]:=List.eq_nil_of_length_eq_zero cL;subst this;exact fun k r h=>by simp at h
end
