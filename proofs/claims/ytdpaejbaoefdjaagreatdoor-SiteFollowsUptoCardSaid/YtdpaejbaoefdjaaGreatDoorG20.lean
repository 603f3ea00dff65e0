/- Part 20. -/
import Derived.Test.YtdpaejbaoefdjaaGreatDoorG16
import Derived.Test.YtdpaejbaoefdjaaGreatDoorG9
import Derived.Deep.RegionHeld3
import Derived.Test.YtdpaejbaoefdjaaGreatDoorG15
open Nat renaming le_refl → aa
open Go.RowKit.Below renaming refl → af
open Go renaming World → ag,heap_alloc_new → ah,Value → aq,Calls → aA,heap_alloc_old → aB
open Go.World renaming block_lt_of_cell? → aj
open Go.ChangeMaps renaming setBlock → an
open Go.WideElems renaming rg → au,rd → aD
open List renaming getElem?_eq_getElem → ay,mem_of_getElem? → aC,take_add_one → aE
namespace Go.Proofs.YtdpaejbaoefdjaaGreatDoor
open Go.Proofs.Tryz
set_option maxRecDepth 100000
set_option maxHeartbeats 64000000
set_option linter.unusedVariables false
set_option linter.unusedSimpArgs false
section
open Go.RowKit Go.Shelf Go.MapKept Go.ChangeMaps
open Go.Maps (Keyed)
theorem aaZ{w:ag}{mb:Nat}{m:List (cO×Raw)}(hm:dS prog 9 sv Raw.val w mb m):
  aA prog 114 #[.map (some mb)] w fun e w'=>e=.returned (.map (some w.heap.size))∧dS prog 9 sv Raw.val w' w.heap.size m∧cE w w'∧w'.heap.size=w.heap.size+1:=by
 obtain⟨es,c,h1,h2,h3,h4⟩:=hm;exact(AnyW.maps_Clone Tryz.ZF mb es c w h1).mono fun e w' ⟨he,hw⟩=>⟨he,⟨es,c,by rw[hw];exact ah w _,h2,h3,h4⟩,by rw[hw];exact cT (af _ w) _,by rw[hw];simp⟩
theorem dN.mW{w:ag}{lo:Nat→Prop}{b mb:Nat}{cP:cO}{cS:Int}{M:List (cO×Nd)}(T:dN w lo b mb cP cS M):
  aA prog 51 #[.p b] w fun e w'=>∃b' s9,e=.returned (.p b')∧dN w' lo b' s9 cP cS M∧w.heap.size≤b'∧w.heap.size≤s9∧b'≠s9∧cE w w':=by
 obtain⟨m,hm,hl⟩:=T.map;have HM:=cD hm;have HL:=cD hl;have gQ:b<w.heap.size:=lt_of_block T.blk;obtain⟨c0,c1,c2⟩:=T.cells;have HC:=cD T.cells;have HCM:=cD (aaZ (hm.of_block (w':=w.drew) rfl));clear T hm hl;go_enter func51,ntmps51
 go_wp2_with fail
 go_region_held3 (fun w'=>w'.cell? ⟨b,0,none⟩=some (.s cP)∧w'.cell? ⟨b,1,none⟩=some (.v cS)∧w'.cell? ⟨b,2,none⟩=some (.map (some mb))) (first|assumption|exact HC.out|go_keep) (first|(go_at_call 114;refine HCM.out.mono ?_;rintro e w5 ⟨rfl,H5,B5,Z5⟩;have ct:w5.cell? ⟨b,0,none⟩=some (.s cP)∧w5.cell? ⟨b,1,none⟩=some (.v cS)∧w5.cell? ⟨b,2,none⟩=some (.map (some mb)):=⟨(B5.cell (p:=⟨b,0,none⟩) gQ).trans HC.out.1,(B5.cell (p:=⟨b,1,none⟩) gQ).trans HC.out.2.1,(B5.cell (p:=⟨b,2,none⟩) gQ).trans HC.out.2.2⟩))
 have Z5':w5.heap.size=w.heap.size+1:=Z5;have YV:cE w w5:=⟨B5.os,B5.tape,B5.output,B5.size,B5.block⟩;have HX:=cD (cC H5 (cC YV Z5'));clear H5 B5 YV Z5 Z5' ct c0 c1 c2;go_wp2
 go_ret
 obtain⟨H5,B5,Z5⟩:=HX.out;have uE:cE w (w5.alloc (.cells #[.s cP,.v cS,.map (some w.heap.size)] 122)):=cT B5 _;refine⟨w.heap.size+1,w.heap.size,rfl,⟨?_,m,?_,?_⟩,Nat.le_succ _,aa _,by omega,uE⟩
 ·have:=ah w5 (.cells #[.s cP,.v cS,.map (some w.heap.size)] 122)
  rw[Z5] at this;exact this
 ·exact dS.of_block H5 (aB _ _ H5.lt)
 exact HL.out.imp fun _ _ h=>h.below uE
end
section
open Go.RowKit Go.Shelf Go.MapKept Go.ChangeMaps Go.Maps Go.Sort Go.WideElems
theorem EW{p:cO}{l:Lit}(h:keyOf prog 9 (sv p)=some l):p.length≤maxLen∧l=.string p:=by
 by_cases hp:(bs p).size≤maxLen
 ·have h2:=WideMaps.keyOf_string_mk underlying9 hp
  have:some l=some (Lit.string (bs p).data.toList):=h.symm.trans h2;cases this;exact⟨by rw[←fL];exact hp,by rw[gU]⟩
 exfalso
 rw[keyOf_string underlying9] at h;unfold sv mapKey at h;simp[underlying9,hp] at h
def TV:aq→Option (DataW Unit×List MemPlace):=fun _=>some (.nil,[])
theorem Vy{ν:Type}{fv:ν→aq}{w:ag}{mb:Nat}{m:List (cO×ν)}(hm:dS prog 9 sv fv w mb m)(hl:m.length≤1000):
  ∃D0:DataW Unit,w.ownsMap prog 9 TV mb m.length D0∧(strKeys D0).Perm (m.map (·.1)):=by
 obtain⟨es,c,h1,h2,h3,h4⟩:=hm;have hs:es.size=m.length:=by
  have:=congrArg List.length h4;simpa using this
 have hrd:∀x∈es.toList,∀l,keyOf prog 9 x.key=some l→aD prog 9 TV x=some (l,.nil):=fun x hx l hk=>by
  unfold aD;rw[hk];rfl
 refine⟨_,⟨es,c,h1,⟨by rw[hs];unfold maxLen;omega,h2,fun x hx=>?_⟩,by omega,rfl⟩,?_⟩
 ·obtain⟨l,hk⟩:=h3 x hx
  exact⟨_,hrd x hx l hk⟩
 have hp:=WideShapes.sorted_perm (es.toList.map (au prog 9 TV));have hk:(es.toList.map (au prog 9 TV)).map (fun p=>strOf p.1)=m.map (·.1):=by
  rw[List.map_map];have h5:es.toList.map (·.key)=m.map (fun p=>sv p.1):=by
   have:=congrArg (List.map Prod.fst) h4;simpa [List.map_map,Function.comp_def] using this
  apply List.ext_getElem?;intro i;have h6:=congrArg (fun l=>l[i]?) h5;simp only[List.getElem?_map] at h6⊢;cases hx:es.toList[i]? with
  |none=>
   rw[hx] at h6;cases hy:m[i]? with
   |none=>rfl
   |some y=>rw[hy] at h6;simp at h6
  |some x=>
  rw[hx] at h6;cases hy:m[i]? with
  |none=>rw[hy] at h6;simp at h6
  |some y=>
  rw[hy] at h6;simp only[Option.map_some,Option.some.injEq] at h6;obtain⟨l,hk⟩:=h3 x (aC hx);have hr:=hrd x (aC hx) l hk;rw[h6] at hk;obtain⟨_,rfl⟩:=EW hk;simp[au,hr,strOf]
 have:=hp.map (fun p:Lit×DataW Unit=>strOf p.1);rw[hk] at this;exact this
end
section
open Go.RowKit Go.Shelf Go.MapKept Go.ChangeMaps
theorem Bp(a b:cO):((bs a).toList==(bs b).toList)=decide (a=b):=by
 rw[oU,oU];by_cases h:a=b
 ·subst h;simp
 simp[h]
def rX(w:ag)(n:Nat)(args:Array aq)(r:aq):Prop:=∀W,cE w W→aA prog n args W fun e w'=>e=.returned r∧cE W w'
theorem rX.ext{w w2:ag}{n:Nat}{args:Array aq}{r:aq}(h:rX w n args r)(h2:cE w w2):∀o,aA prog n args (gR w2 o) fun e w'=>e=.returned r∧∃o',w'=gR w2 o':=
 fun o=>(h _ (h2.trans ((gR.below w2 o).mono h2.size))).mono fun _ _ ⟨he,hb⟩=>⟨he,xW ((gR.below w2 o).trans (hb.mono (gR.below w2 o).size))⟩
theorem tG{w:ag}(hm:dM w)(l:cO)(hl:l.length≤1000):rX w 54 #[.s l] (.string (bs (dm l))):=fun W hW=>mM W (hm.kept hW) l hl W (af _ _)
theorem FD{w:ag}(hm:dM w)(p q:cO)(hp:p.length≤1000)(hq:q.length≤1000):rX w 180 #[.s p,.s q] (.bool (eB p q)):=fun W hW=>ry W (hm.kept hW) p q hp hq W (af _ _)
theorem IS{w:ag}(hm:dM w)(l:cO)(hl:l.length≤1000):rX w 55 #[.s l] (.string (bs (jI l))):=fun W hW=>Kg W (hm.kept hW) l hl W (af _ _)
theorem FE{w:ag}(hm:dM w)(l:cO)(hl:l.length≤1000):rX w 104 #[.s l] (.i (uo l)):=fun W hW=>rz W (hm.kept hW) l hl W (af _ _)
theorem Nc(t v:aq)(w:ag)(ht:t.oneCell'=true)(hv:v.oneCell'=true):aA prog 52 #[t,v] w fun e w'=>e=.returned (.func (.func 115) #[] #[.p w.heap.size,.p (w.heap.size+1)])∧w'=(w.alloc (.cells #[t] 57)).alloc (.cells #[v] 124):=by
 go_enter func52,ntmps52
 go_wp2
 go_ret
 exact⟨rfl,rfl⟩
theorem U3(q:cO)(w:ag):aA prog 204 #[.s q] w fun e w'=>e=.returned (.T)∧w'=w:=by
 go_enter func204,ntmps204
 go_wp2
 go_ret
 exact⟨rfl,rfl⟩
def vH(cP p q:cO):Bool:=!decide (q=p)&&!decide (q=cP)&&decide (dm q=p)
theorem V8(cP p q:cO)(bp bt b:Nat)(w:ag)(hm:dM w)(hq:q.length≤1000)(h1:w.cell? ⟨bp,0,none⟩=some (.s p))(h2:w.cell? ⟨bt,0,none⟩=some (.p b))(h3:w.cell? ⟨b,0,none⟩=some (.s cP)):
  aA prog 53 #[.s q,.p bp,.p bt] w fun e w'=>e=.returned (.bool (vH cP p q))∧cE w w':=by
 have f1:∀o,(gR w o).cell? ⟨bp,0,none⟩=some (.s p):=fun o=>((gR.below w o).cell (p:=⟨bp,0,none⟩) (aj _ _ h1)).trans h1
 have f2:∀o,(gR w o).cell? ⟨bt,0,none⟩=some (.p b):=fun o=>((gR.below w o).cell (p:=⟨bt,0,none⟩) (aj _ _ h2)).trans h2
 have f3:∀o,(gR w o).cell? ⟨b,0,none⟩=some (.s cP):=fun o=>((gR.below w o).cell (p:=⟨b,0,none⟩) (aj _ _ h3)).trans h3
 have KP:=cD ((tG hm q hq).ext (af _ w));have t1:=Bp q p;have t2:=Bp q cP;have t3:=Bp (dm q) p;have s1:(!((bs q).toList==(bs p).toList))=!decide (q=p):=by rw[t1]
 have s2:(!((bs q).toList==(bs cP).toList))=!decide (q=cP):=by rw[t2]
 unfold vH;clear h1 h2 h3 hm hq;generalize bs (dm q)=u at*;cases b1:decide (q=p)<;>cases b2:decide (q=cP)<;>cases b3:decide (dm q=p)
 all_goals
  rw[b1] at t1 s1;rw[b2] at t2 s2;rw[b3] at t3;simp only[Bool.not_true,Bool.not_false] at s1 s2⊢;clear b1 b2 b3;go_enter func53,ntmps53
  go_wp2_with fail
  refine lM cJ cJ ?_
  repeat (go_big_quiet_step (first|(go_at_call 54;exact KP.out _)))
  refine wpQuiet_nil ?_;intro w' hw';obtain⟨oq,Ko⟩:=hw';subst Ko;go_wp2
  go_ret
  exact⟨rfl,gR.below w oq⟩
theorem VM(cP:cO)(w:ag)(hm:dM w)(hl:cP.length≤1000)(h:(dG cP).isSome=true):aA prog 45 #[.s cP] w fun e w'=>∃b mb,e=.returned (.tuple #[.p b,.I])∧dN w' (fU w.heap.size) b mb cP 0 [(cP,iQ)]∧w.heap.size≤b∧w.heap.size≤mb∧b≠mb∧cE w w':=by
 have ck:=FE hm cP hl w (af _ _);unfold uo at ck;rw[h] at ck;have CK:=cD ck;have UM:=@run_makeMap prog;clear ck h;go_enter func45,ntmps45
 go_wp2_with fail
 refine CK.out.mono ?_;rintro e w1 ⟨rfl,B1⟩;have HB:=cD B1;clear B1;have hm0:=dS.made (κ:=cO) (ν:=Raw) prog 9 sv Raw.val w1;obtain⟨lk,hlk⟩:=zY (p:=cP) (by unfold maxLen;omega);obtain⟨o,ho⟩:=hm0.update oJ tS underlying120 oS hlk;obtain⟨g1,g2⟩:=ho (w1.alloc (.map #[] 0)) rfl;have g1:(Instr.mapUpdate 120 (.map (some w1.heap.size)) (.s cP) (.agg #[.n,.U,.U,.U,.I,.U,.V,.V,.V])).run prog (w1.alloc (.map #[] 0))=.ok () (an (w1.alloc (.map #[] 0)) w1.heap.size o):=g1;have hs:(an (w1.alloc (.map #[] 0)) w1.heap.size o).heap.size=w1.heap.size+1:=by simp[an]
 have hk:cQ (·=w1.heap.size) (w1.alloc (.map #[] 0)) (an (w1.alloc (.map #[] 0)) w1.heap.size o):=jE cM o;have dI:cE w1 (an (w1.alloc (.map #[] 0)) w1.heap.size o):=by
  have h1:cE w1 (w1.alloc (.map #[] 0)):=cT (af _ w1) _;exact h1.trans (hk.below cM (fun k h=>by omega))
 have HG:=cD (cC g2 (cC hs dI));clear ho g2 hs dI hk hm0 hlk;go_wp2
 refine bodyPost_ret (results_tmp2 rfl _ _ _) rfl ?_;obtain⟨g2,hs,dI⟩:=HG.out;have eO:cE w ((an (w1.alloc (.map #[] 0)) w1.heap.size o).alloc (.cells #[.s cP,.V,.map (some w1.heap.size)] 122)):=(HB.out.trans (dI.mono HB.out.size)).trans ((cT (af _ _) _).mono (by have:=HB.out.size;rw[hs];omega));have hw1:=HB.out.size;refine⟨(an (w1.alloc (.map #[] 0)) w1.heap.size o).heap.size,w1.heap.size,rfl,⟨ah _ _,_,g2.of_block (aB _ _ cK),?_⟩,by omega,hw1,by omega,eO⟩;exact⟨⟨rfl,mX _ _⟩,trivial⟩
structure dr where
 cW:cO
 gone:Bool
 node:Raw
def dr.cells(e:dr):List aq:=.s e.cW::.bool e.gone::e.node.cells
def dr.val(e:dr):aq:=.agg e.cells.toArray
end
section
open Go.RowKit Go.Shelf
theorem Jy(L M:cO)(k:Nat)(x y:UInt8)(hx:L[k]?=some x)(hy:M[k]?=some y)(hk:L.take k=M.take k):(L.take (k+1)=M.take (k+1))↔x=y:=by
 rw[aE,aE,hx,hy,hk];simp
theorem KQ(a b:Option Addr)(c d B1 B2:Nat)(lo1 OK:Nat→Prop)(L M:cO)(w:ag)(hl:L.length≤1000000)(hm:M.length≤1000000)(S1:eP w lo1 B1 a L)(S2:eP w OK B2 b M):
  aA prog 122 #[.slice a L.length c,.slice b M.length d] w fun e w'=>e=.returned (.bool (decide (L=M)))∧∃q,w'=w.drewN q:=by
 obtain⟨R,hR⟩:=cF (decide (L=M));rw[←hR];have HR:=cD hR;have X1:=cD S1;have X2:=cD S2;clear hR S1 S2;obtain⟨n,hn⟩:=cF L.length;obtain⟨k,hk⟩:=cF M.length;have HN:=cD hn;have HK:=cD hk;rw[←hn] at hl⊢;rw[←hk] at hm⊢;clear hn hk;by_cases hle:n=k
 ·have HE:=cD hle
  have t0:((n:Int) != (k:Int))=false:=by rw[hle];simp
  clear hle;go_enter func122,ntmps122
  go_wp2
  go_loopw [5,13] (fun _ i wr=>∃m:Nat,m≤n∧i=.i m∧Hid (L.take m=M.take m)∧∃q,wr=w.drewN q) (fun _ i _=>n - (intOf i).toNat)
  case atStart=>exact⟨0,by omega,rfl,cD rfl,0,rfl⟩
  obtain⟨m,hm,rfl,Xl,q,rfl⟩:=hrel;by_cases hlt:m<n
  ·have hlt2:m<k:=by rw[←HE.out];exact hlt
   obtain⟨x,hx⟩:∃x,L[m]?=some x:=⟨_,ay (by rw[←HN.out];exact hlt)⟩;obtain⟨y,hy⟩:∃y,M[m]?=some y:=⟨_,ay (by rw[←HK.out];exact hlt2)⟩;obtain⟨g,off,rfl,_,_,hc1⟩:=X1.out m x hx;obtain⟨g2,off2,rfl,_,_,hc2⟩:=X2.out m y hy;have HT:=cD (Jy L M m x y hx hy Xl.out);by_cases hxy:x=y
   ·subst hxy
    have YT:=cD (HT.out.2 rfl);have ht:(((x.toNat:Nat):Int) != ((x.toNat:Nat):Int))=false:=by simp
    clear hx hy HT;go_wp2
    go_quiet (fail)
    go_wp2
    go_roundw
    case rel=>exact⟨m+1,by omega,by go_num,YT,_,rfl⟩
    case measure=>simp[intOf];omega
   have ht:(((x.toNat:Nat):Int) != ((y.toNat:Nat):Int))=true:=by
    have:x.toNat≠y.toNat:=fun e=>hxy (UInt8.toNat_inj.1 e)
    simp;omega
   have hrf:R=false:=by
    rw[HR.out];have:¬L=M:=fun e=>by
     apply hxy;rw[e,hy] at hx;exact(Option.some.inj hx).symm
    simp[this]
   subst hrf;clear hx hy HT hxy;go_wp2
   go_quiet (fail)
   go_wp2
   go_ret
   exact⟨rfl,_,World.drewN_drewN _ _ _⟩
  obtain rfl:m=n:=by omega
  have hrt:R=true:=by
   rw[HR.out];have h1:=Xl.out;rw[HN.out,List.take_length,←HN.out,HE.out,HK.out,List.take_length] at h1;simp[h1]
  subst hrt;go_wp2
  go_ret
  exact⟨rfl,_,rfl⟩
 have t0:((n:Int) != (k:Int))=true:=by
  rw[bne_iff_ne];omega
 have hrf:R=false:=by
  rw[HR.out];have:¬L=M:=fun e=>hle (by rw[HN.out,HK.out,e])
  simp[this]
 subst hrf;clear hle;go_enter func122,ntmps122
 go_wp2
 go_ret
 exact⟨rfl,0,rfl⟩
end
section
open Go.RowKit Go.Shelf Go.MapKept Go.ChangeMaps
theorem WO:(prog.fieldsOf 31).toList=[⟨"Site",3,0,false, "", "",0⟩,⟨"N",29,1,false, "", "",8⟩]:=by kernel_rfl
theorem aaS(s n s' n':Int)(w:ag):(_root_.Go.binOp BinOp.eql 31 (.agg #[.i s,.u n]) (.agg #[.i s',.u n']):Sem aq).run prog w=Result.ok (Value.bool (decide (s=s'∧n=n'))) w:=by
 rw[run_eql_struct,run_equalIn_agg _ _ _ _ _ cJ cJ,WO];have e3:=fun w:ag=>run_equalIn_int (P:=prog) w 9998 3 .i64 .i64 s s' underlying3
 have e4:=fun w:ag=>run_equalIn_int (P:=prog) w 9998 29 .u32 .u32 n n' underlying29
 simp[Op.eqFields,Sem.run_bind,part,e3,e4];by_cases h1:s=s'<;>by_cases h2:n=n'<;>simp[h1,h2]
theorem R5(w:ag)(lo1 OK:Nat→Prop)(r s:Raw)(d e:Nd)(h1:Reads w lo1 r d)(h2:Reads w OK s e)(hl1:d.data.length≤1000000)(hl2:e.data.length≤1000000):
  aA prog 58 #[r.val,s.val] w fun en w'=>en=.returned (.bool (decide (d=e)))∧cE w w':=by
 obtain⟨a,n,c,u⟩:=r;obtain⟨D,u'⟩:=d;obtain⟨p1,p2,p3,p4⟩:=h1;obtain⟨a2,n2,cx,y⟩:=s;obtain⟨E,y'⟩:=e;obtain⟨q1,q2,q3,q4⟩:=h2;dsimp only at p1 p2 p3 p4 q1 q2 q3 q4 hl1 hl2;subst p1 q1;obtain⟨v1,v2,v3,v4,v5,v6,v7,v8⟩:=u;obtain⟨x1,x2,x3,x4,x5,x6,x7,x8⟩:=y;unfold Raw.val Raw.cells eU.cells;dsimp only;subst p2 q2;obtain⟨R,hR⟩:=cF (decide ((⟨D,⟨v1,v2,v3,v4,v5,v6,v7,v8⟩⟩:Nd)=⟨E,⟨x1,x2,x3,x4,x5,x6,x7,x8⟩⟩));rw[←hR];have HR:=cD hR;clear hR;obtain⟨w2,fH⟩:=cF ((w.alloc (.cells #[.slice a D.length c,.u v1,.u v2,.u v3,.i v4,.u v5,.v v6,.v v7,.v v8] 44)).alloc (.cells #[.slice a2 E.length cx,.u x1,.u x2,.u x3,.i x4,.u x5,.v x6,.v x7,.v x8] 44));have dI:cE w w2:=by rw[fH];exact cT (cT (af _ w) _) _
 have hc:=KQ a a2 c cx w2.heap.size w2.heap.size lo1 OK D E w2 hl1 hl2 ((p3.below dI).mono (fun _ h=>h) dI.size) ((q3.below dI).mono (fun _ h=>h) dI.size);have hs:=aaS v4 v5 x4 x5;have iK:=cD dI;obtain⟨N,hN⟩:=cF D.length;obtain⟨M,hM⟩:=cF E.length;rw[←hN,←hM] at hc fH⊢;clear p3 p4 q3 q4 dI hN hM hl1 hl2;have k1:∀i v,(#[.slice a N c,.u v1,.u v2,.u v3,.i v4,.u v5,.v v6,.v v7,.v v8]:Array aq)[i]?=some v→w2.cell? ⟨w.heap.size,i,none⟩=some v:=fun i v hv=>by
  rw[fH];exact(cell_of_row _ _ i _ 44 (0,0) ((aB _ _ cM).trans (ah w _))).trans hv
 have k2:∀i v,(#[.slice a2 M cx,.u x1,.u x2,.u x3,.i x4,.u x5,.v x6,.v x7,.v x8]:Array aq)[i]?=some v→w2.cell? ⟨w.heap.size+1,i,none⟩=some v:=fun i v hv=>by
  have h:=ah (w.alloc (.cells #[.slice a N c,.u v1,.u v2,.u v3,.i v4,.u v5,.v v6,.v v7,.v v8] 44)) (.cells #[.slice a2 M cx,.u x1,.u x2,.u x3,.i x4,.u x5,.v x6,.v x7,.v x8] 44);rw[World.size_alloc] at h;rw[fH];exact(cell_of_row _ _ i _ 44 (0,0) h).trans hv
 have fa1:∀q,(w2.drewN q).cell? ⟨w.heap.size,1,none⟩=some (.u v1):=fun q=>k1 1 _ rfl
 have fb1:∀q,(w2.drewN q).cell? ⟨w.heap.size+1,1,none⟩=some (.u x1):=fun q=>k2 1 _ rfl
 have fa2:∀q,(w2.drewN q).cell? ⟨w.heap.size,2,none⟩=some (.u v2):=fun q=>k1 2 _ rfl
 have fb2:∀q,(w2.drewN q).cell? ⟨w.heap.size+1,2,none⟩=some (.u x2):=fun q=>k2 2 _ rfl
 have fa3:∀q,(w2.drewN q).cell? ⟨w.heap.size,3,none⟩=some (.u v3):=fun q=>k1 3 _ rfl
 have fb3:∀q,(w2.drewN q).cell? ⟨w.heap.size+1,3,none⟩=some (.u x3):=fun q=>k2 3 _ rfl
 have fa4:∀q,(w2.drewN q).cell? ⟨w.heap.size,4,none⟩=some (.i v4):=fun q=>k1 4 _ rfl
 have fb4:∀q,(w2.drewN q).cell? ⟨w.heap.size+1,4,none⟩=some (.i x4):=fun q=>k2 4 _ rfl
 have fa5:∀q,(w2.drewN q).cell? ⟨w.heap.size,5,none⟩=some (.u v5):=fun q=>k1 5 _ rfl
 have fb5:∀q,(w2.drewN q).cell? ⟨w.heap.size+1,5,none⟩=some (.u x5):=fun q=>k2 5 _ rfl
 have fa6:∀q,(w2.drewN q).cell? ⟨w.heap.size,6,none⟩=some (.v v6):=fun q=>k1 6 _ rfl
 have fb6:∀q,(w2.drewN q).cell? ⟨w.heap.size+1,6,none⟩=some (.v x6):=fun q=>k2 6 _ rfl
 have fa7:∀q,(w2.drewN q).cell? ⟨w.heap.size,7,none⟩=some (.v v7):=fun q=>k1 7 _ rfl
 have fb7:∀q,(w2.drewN q).cell? ⟨w.heap.size+1,7,none⟩=some (.v x7):=fun q=>k2 7 _ rfl
 have fa8:∀q,(w2.drewN q).cell? ⟨w.heap.size,8,none⟩=some (.v v8):=fun q=>k1 8 _ rfl
 have fb8:∀q,(w2.drewN q).cell? ⟨w.heap.size+1,8,none⟩=some (.v x8):=fun q=>k2 8 _ rfl
 have nW:=cD fH;clear k1 k2 fH;by_cases gD:D=E
 ·rw[decide_eq_true gD] at hc
  by_cases g1:v1=x1
  ·have f1:(v1==x1)=true:=by simpa using g1
   by_cases g2:v2=x2
   ·have f2:(v2==x2)=true:=by simpa using g2
    by_cases g3:v3=x3
    ·have f3:(v3==x3)=true:=by simpa using g3
     by_cases g4:v4=x4∧v5=x5
     ·rw[show(decide (v4=x4∧v5=x5))=true from decide_eq_true g4] at hs
      by_cases g5:v6=x6
      ·have f5:(v6==x6)=true:=by simpa using g5
       by_cases g6:v7=x7
       ·have f6:(v7==x7)=true:=by simpa using g6
        by_cases g7:v8=x8
        ·have f7:(v8==x8)=true:=by simpa using g7
         have hv:R=true:=by rw[HR.out];simp[gD,g1,g2,g3,g4,g5,g6,g7]
         subst hv;have HC:=cD hc;clear hc;clear gD g1 g2 g3 g4 g5 g6 g7;go_enter func58,ntmps58
         go_wp2_with fail
         rw[←nW.out];refine HC.out.mono ?_;rintro en w3 ⟨rfl,qn,rfl⟩;go_wp2
         go_ret
         exact⟨rfl,iK.out.trans ⟨rfl,rfl,rfl,aa _,fun _ _=>rfl⟩⟩
        have f7:(v8==x8)=false:=by simpa using g7
        have hv:R=false:=by
         rw[HR.out];refine decide_eq_false (fun h=>?_);simp only[Nd.mk.injEq,eU.mk.injEq] at h;obtain⟨h0,h1,h2,h3,Yp,Yo,h5,h6,h7⟩:=h;exact g7 h7
        subst hv;have HC:=cD hc;clear hc;clear gD g1 g2 g3 g4 g5 g6 g7;go_enter func58,ntmps58
        go_wp2_with fail
        rw[←nW.out];refine HC.out.mono ?_;rintro en w3 ⟨rfl,qn,rfl⟩;go_wp2
        go_ret
        exact⟨rfl,iK.out.trans ⟨rfl,rfl,rfl,aa _,fun _ _=>rfl⟩⟩
       have f6:(v7==x7)=false:=by simpa using g6
       have hv:R=false:=by
        rw[HR.out];refine decide_eq_false (fun h=>?_);simp only[Nd.mk.injEq,eU.mk.injEq] at h;obtain⟨h0,h1,h2,h3,Yp,Yo,h5,h6,h7⟩:=h;exact g6 h6
       subst hv;have HC:=cD hc;clear hc;clear gD g1 g2 g3 g4 g5 g6;go_enter func58,ntmps58
       go_wp2_with fail
       rw[←nW.out];refine HC.out.mono ?_;rintro en w3 ⟨rfl,qn,rfl⟩;go_wp2
       go_ret
       exact⟨rfl,iK.out.trans ⟨rfl,rfl,rfl,aa _,fun _ _=>rfl⟩⟩
      have f5:(v6==x6)=false:=by simpa using g5
      have hv:R=false:=by
       rw[HR.out];refine decide_eq_false (fun h=>?_);simp only[Nd.mk.injEq,eU.mk.injEq] at h;obtain⟨h0,h1,h2,h3,Yp,Yo,h5,h6,h7⟩:=h;exact g5 h5
      subst hv;have HC:=cD hc;clear hc;clear gD g1 g2 g3 g4 g5;go_enter func58,ntmps58
      go_wp2_with fail
      rw[←nW.out];refine HC.out.mono ?_;rintro en w3 ⟨rfl,qn,rfl⟩;go_wp2
      go_ret
      exact⟨rfl,iK.out.trans ⟨rfl,rfl,rfl,aa _,fun _ _=>rfl⟩⟩
     rw[show(decide (v4=x4∧v5=x5))=false from decide_eq_false g4] at hs;have hv:R=false:=by
      rw[HR.out];refine decide_eq_false (fun h=>?_);simp only[Nd.mk.injEq,eU.mk.injEq] at h;obtain⟨h0,h1,h2,h3,Yp,Yo,h5,h6,h7⟩:=h;exact g4 ⟨Yp,Yo⟩
     subst hv;have HC:=cD hc;clear hc;clear gD g1 g2 g3 g4;go_enter func58,ntmps58
     go_wp2_with fail
     rw[←nW.out];refine HC.out.mono ?_;rintro en w3 ⟨rfl,qn,rfl⟩;go_wp2
     go_ret
     exact⟨rfl,iK.out.trans ⟨rfl,rfl,rfl,aa _,fun _ _=>rfl⟩⟩
    have f3:(v3==x3)=false:=by simpa using g3
    have hv:R=false:=by
     rw[HR.out];refine decide_eq_false (fun h=>?_);simp only[Nd.mk.injEq,eU.mk.injEq] at h;obtain⟨h0,h1,h2,h3,Yp,Yo,h5,h6,h7⟩:=h;exact g3 h3
    subst hv;have HC:=cD hc;clear hc;clear gD g1 g2 g3;go_enter func58,ntmps58
    go_wp2_with fail
    rw[←nW.out];refine HC.out.mono ?_;rintro en w3 ⟨rfl,qn,rfl⟩;go_wp2
    go_ret
    exact⟨rfl,iK.out.trans ⟨rfl,rfl,rfl,aa _,fun _ _=>rfl⟩⟩
   have f2:(v2==x2)=false:=by simpa using g2
   have hv:R=false:=by
    rw[HR.out];refine decide_eq_false (fun h=>?_);simp only[Nd.mk.injEq,eU.mk.injEq] at h;obtain⟨h0,h1,h2,h3,Yp,Yo,h5,h6,h7⟩:=h;exact g2 h2
   subst hv;have HC:=cD hc;clear hc;clear gD g1 g2;go_enter func58,ntmps58
   go_wp2_with fail
   rw[←nW.out];refine HC.out.mono ?_;rintro en w3 ⟨rfl,qn,rfl⟩;go_wp2
   go_ret
   exact⟨rfl,iK.out.trans ⟨rfl,rfl,rfl,aa _,fun _ _=>rfl⟩⟩
  have f1:(v1==x1)=false:=by simpa using g1
  have hv:R=false:=by
   rw[HR.out];refine decide_eq_false (fun h=>?_);simp only[Nd.mk.injEq,eU.mk.injEq] at h;obtain⟨h0,h1,h2,h3,Yp,Yo,h5,h6,h7⟩:=h;exact g1 h1
  subst hv;have HC:=cD hc;clear hc;clear gD g1;go_enter func58,ntmps58
  go_wp2_with fail
  rw[←nW.out];refine HC.out.mono ?_;rintro en w3 ⟨rfl,qn,rfl⟩;go_wp2
  go_ret
  exact⟨rfl,iK.out.trans ⟨rfl,rfl,rfl,aa _,fun _ _=>rfl⟩⟩
 rw[decide_eq_false gD] at hc;have hv:R=false:=by
  rw[HR.out];refine decide_eq_false (fun h=>?_);simp only[Nd.mk.injEq,eU.mk.injEq] at h;obtain⟨h0,h1,h2,h3,Yp,Yo,h5,h6,h7⟩:=h;exact gD h0
 subst hv;have HC:=cD hc;clear hc;clear gD;go_enter func58,ntmps58
 go_wp2_with fail
 rw[←nW.out];refine HC.out.mono ?_;rintro en w3 ⟨rfl,qn,rfl⟩;go_wp2
 go_ret
 exact⟨rfl,iK.out.trans ⟨rfl,rfl,rfl,aa _,fun _ _=>rfl⟩⟩
end
section
open Go.RowKit
theorem below_drewN{B:Nat}{a w:ag}(h:Below B a w)(q:Nat):Below B a (w.drewN q):=⟨h.os,h.tape,h.output,h.size,h.block⟩
end
