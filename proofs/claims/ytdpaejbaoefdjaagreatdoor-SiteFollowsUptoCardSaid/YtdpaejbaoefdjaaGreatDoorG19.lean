/- Part 19. -/
import Derived.Test.YtdpaejbaoefdjaaGreatDoorG17
import Derived.RangeFuncNested
open Go.RowKit.Below renaming refl → aa
open Go.World renaming size_alloc → af
open Go.KeepsOthers renaming setCell → ag
open Go renaming undef → ah,Boxed → aj
open Array renaming replicate_zero → an,replicate_succ → aq
open Nat renaming le_refl → au
open List renaming append_toArray → ay,size_toArray → aA,push_toArray → aB
open Go.Boxed renaming new → aC
namespace Go.Proofs.YtdpaejbaoefdjaaGreatDoor
open Go.Proofs.Tryz
set_option maxRecDepth 100000
set_option maxHeartbeats 64000000
set_option linter.unusedVariables false
set_option linter.unusedSimpArgs false
section
open Go.RowKit Go.Shelf Go.MapKept Go.ChangeMaps
attribute [local go_sem] Oper.semAt_some
def kI:List Nat→List Nat→Bool
 |[],[]=>true
 |x::a,y::b=>decide (x≤y)&&kI a b
 |_,_=>false
def lF(v:List Nat)(i:Nat):List Nat:=v.set i (v.getD i 0+1)
def WS(p:Nat×Nat):Array Value:=#[.v (p.1:Int),.v (p.2:Int)]
theorem U0{A B:List Nat}{k:Nat}{p:Nat×Nat}(h:(A.zip B)[k]?=some p):A[k]?=some p.1∧B[k]?=some p.2:=by
 rw[List.getElem?_zip_eq_some] at h;exact h
theorem TP(n₀ l B1 B2:Nat)(a1 a2:Option Addr)(c1 c2:Nat)(V1 V2:List Nat)(dB:B1<n₀)(dI:B2<n₀)(hl1:V1.length≤1000)(hl2:V2.length≤1000)(J Jx:List (Nat×Nat)→World→Prop)
  (hY:∀pre x W,J pre W→pre.length<1001→YieldAt Fence.wide (1 - 1) prog l (WS x) W fun e W'=>
   (e=.returned (.T)∧J (pre++[x]) W'∧Below n₀ W W')∨(e=.returned (.F)∧Jx (pre++[x]) W'))
  (W:World) (hn:n₀≤W.heap.size) (hJ:AbidesFrom W.heap.size J) (MZ:aj W B1 37 (.slice a1 V1.length c1)) (DJ:aj W B2 37 (.slice a2 V2.length c2)) (hV1:dK W (fun b=>b<n₀) a1 V1) (hV2:dK W (fun b=>b<n₀) a2 V2) (h0:J [] W):
  CallsIn Fence.wide 1 prog 109 #[.func (.yield l) #[] #[],.p B1,.p B2] W fun e W'=>(∃v,e=.returned v)∧
   ((∃ys,ys=V1.zip V2∧J ys W')∨(∃pre,pre <+: V1.zip V2∧Jx pre W')):=by
 obtain⟨N1,hN1⟩:∃N,N=V1.length:=⟨_,rfl⟩;obtain⟨N2,Yj⟩:∃N,N=V2.length:=⟨_,rfl⟩;obtain⟨Z,hZ⟩:=cF (V1.zip V2);have hzl:Z.length=min N1 N2:=by rw[hZ,List.length_zip,hN1,Yj]
 have hy1:=MZ.cell;have hy2:=DJ.cell;rw[←hN1] at hy1 hl1;rw[←Yj] at hy2 hl2;have HZ:=cD (cC hZ hzl);have HD:=cD (cC hV1 hV2);have HN:=cD (cC hN1 Yj);have HJ:=cD (cC hJ hY);rw[←hZ];clear hN1 Yj hZ hzl hV1 hV2 hJ hY MZ DJ;refine callsIn_of_wp func109 rfl trivial ?_ rfl;simp only[ntmps109,aA,List.length_cons,List.length_nil,Nat.reduceAdd,Nat.reduceSub,aq,an,aB,ay,List.nil_append,List.cons_append];gi_wp2
 gi_loopw [10] (fun kv wr=>∃k:Nat,k≤Z.length∧kv=.i k∧Below n₀ W wr∧J (Z.take k) wr) (fun kv _=>Z.length - (intOf kv).toNat)
 case atStart=>exact⟨0,by omega,rfl,aa _ _,h0⟩
 obtain⟨k,hk,rfl,hB,BX⟩:=hrel;have BZ:∀{b:Nat} {v:Value},b<n₀→W.cell? ⟨b,0,none⟩=some v→∀w',Below n₀ wr w'→w'.cell? ⟨b,0,none⟩=some v:=fun hb hc w' hw=>((hB.trans hw).cell (p:=⟨_,0,none⟩) hb).trans hc
 have z1:=BZ dB hy1;have z2:=BZ dI hy2;by_cases hlt:k<Z.length
 ·obtain⟨p,hp⟩:∃p,Z[k]?=some p:=⟨_,List.getElem?_eq_getElem hlt⟩
  have hp2:=hp;rw[HZ.out.1] at hp2;obtain⟨q1,q2⟩:=U0 hp2;obtain⟨b1,o1,rfl,l1,_,d1⟩:=HD.out.1 k _ q1;obtain⟨b2,o2,rfl,l2,_,d2⟩:=HD.out.2 k _ q2;have z3:∀w',Below n₀ wr w'→w'.cell? ⟨b1,o1+k,none⟩=some (.v (p.1:Int)):=fun w' hw=>((hB.trans hw).cell (p:=⟨b1,o1+k,none⟩) l1).trans d1
  have z4:∀w',Below n₀ wr w'→w'.cell? ⟨b2,o2+k,none⟩=some (.v (p.2:Int)):=fun w' hw=>((hB.trans hw).cell (p:=⟨b2,o2+k,none⟩) l2).trans d2
  have hkm:k<N1∧k<N2:=by have:=HZ.out.2;omega
  have t1:decide ((k:Int)<min (N1:Int) (N2:Int))=true:=by simp;omega
  have t2:decide (k<N1)=true:=by simp;omega
  have t3:decide (k<N2)=true:=by simp;omega
  have t4:k<N1:=hkm.1;have t5:k<N2:=hkm.2;have hS:Below n₀ wr wr.drew:=(aa n₀ wr).drew;obtain⟨x1,x2⟩:=p;dsimp only at z3 z4;clear hkm hp2 q1 q2 d1 d2 l1 l2 BZ;gi_wp2_with fail
  refine fB (S:=fun w'=>Below n₀ wr w') (c:=9) ?_;refine fJ 0 hS ?_;simp only[cR];refine fI 1 rfl hS (fun w' hS'=>by have:=z1 w' hS';go_simp<;>rfl) ?_;simp only[cR];refine fJ 2 hS ?_;simp only[cR];refine fJ 3 hS ?_;simp only[cR];refine fI 4 rfl hS (fun w' hS'=>by have:=z3 w' hS';go_simp<;>rfl) ?_;simp only[cR];refine fI 5 rfl hS (fun w' hS'=>by have:=z2 w' hS';go_simp<;>rfl) ?_;simp only[cR];refine fJ 6 hS ?_;simp only[cR];refine fJ 7 hS ?_;simp only[cR];refine fI 8 rfl hS (fun w' hS'=>by have:=z4 w' hS';go_simp<;>rfl) ?_;simp only[cR];obtain⟨fn,tmps,assign,body,hy,hR⟩:=HJ.out.2 _ (x1,x2) wr.drew (HJ.out.1 _ _ _ none BX ⟨rfl,rfl,rfl,au _,fun _ _ _=>rfl⟩ (fun _ e=>by cases e)) (by simp;omega);refine fC 9 rfl fun K' gv=>?_
  dsimp only[WS] at hy;gi_wp2_with fail
  have hpr:Z.take (k+1)=Z.take k++[(x1,x2)]:=by rw[List.take_add_one,hp];rfl
  have HP:=cD hpr;clear hpr;refine hR.mono ?_;rintro e W3 (⟨rfl,Pj,xJ⟩|⟨rfl,SQ⟩)
  ·have ek:Below n₀ wr W3:=hS.trans xJ
   refine gv _ _ ?_;clear gv;refine fC 10 rfl fun K' gv=>?_
   gi_wp2
   refine fD ?_ cJ _;gi_wp2
   go_roundw
   case rel=>exact⟨k+1,by omega,by go_num,hB.trans ek,by rw[HP.out];exact Pj⟩
   case measure=>simp[intOf];omega
  refine gv _ _ ?_;clear gv;refine fC 10 rfl fun K' gv=>?_
  gi_wp2
  refine fD ?_ cJ _;gi_wp2
  refine bodyPost_ret (results_none rfl _ _ _) rfl ?_;exact⟨⟨_,rfl⟩,.inr ⟨_,⟨Z.drop (k+1),by rw[←HP.out,List.take_append_drop]⟩,SQ⟩⟩
 obtain rfl:k=Z.length:=by omega
 have t1:decide (((Z.length:Nat):Int)<min (N1:Int) (N2:Int))=false:=by have:=HZ.out.2;simp;omega
 clear hlt hk;gi_wp2
 go_end0
 exact⟨⟨_,rfl⟩,.inl ⟨_,rfl,by rw[List.take_length] at BX;exact BX⟩⟩
theorem PW(w:World)(a1 a2:Option Addr)(n1 n2 c1 c2:Nat):
  Calls prog 49 #[.slice a1 n1 c1,.slice a2 n2 c2] w fun e w'=>e=.returned (.func (.func 109) #[] #[.p w.heap.size,.p (w.heap.size+1)])∧w'=(w.alloc (.cells #[.slice a1 n1 c1] 37)).alloc (.cells #[.slice a2 n2 c2] 37):=by
 go_enter func49,ntmps49
 go_wp2
 go_ret
 exact⟨rfl,rfl⟩
theorem Hf:∀(A B:List Nat),kI A B=((A.zip B).all (fun p=>decide (p.1≤p.2))&&decide (A.length=B.length))
 |[],[]=>rfl
 |[],_::_=>by simp[kI]
 |_::_,[]=>by simp[kI]
 |x::A,y::B=>by
  unfold kI;rw[Hf A B,List.zip_cons_cons,List.all_cons,Bool.and_assoc];simp
theorem MB(w:World)(a1 a2:Option Addr)(c1 c2:Nat)(V1 V2:List Nat)(lo1 OK:Nat→Prop)(hl1:V1.length≤1000)(hl2:V2.length≤1000)(h1:dK w lo1 a1 V1)(h2:dK w OK a2 V2):
  Calls prog 17 #[.slice a1 V1.length c1,.slice a2 V2.length c2] w fun e w'=>e=.returned (.bool (kI V1 V2))∧cE w w':=by
 have HL:=cD (Hf V1 V2);have hz:(V1.zip V2).length≤1000:=by rw[List.length_zip];omega
 have HZ:=cD hz;have HD:=cD (cC h1 (cC h2 (cC hl1 hl2)));obtain⟨N1,hN1⟩:∃N,N=V1.length:=⟨_,rfl⟩;obtain⟨N2,Yj⟩:∃N,N=V2.length:=⟨_,rfl⟩;have HN:=cD (cC hN1 Yj);rw[←hN1,←Yj];clear hN1 Yj hz h1 h2 hl1 hl2;refine(callsIn_wide (n:=2)).1 ?_;refine callsIn_of_wp_marks func17 rfl trivial ?_ rfl;simp only[ntmps17,aA,List.length_cons,List.length_nil,Nat.reduceAdd,Nat.reduceSub,aq,an,aB,ay,List.nil_append,List.cons_append];gi_wp2_with fail
 refine⟨trivial,?_⟩;refine(callsIn_wide.2 (PW _ _ _ _ _ _ _)).mono ?_;rintro e w' ⟨rfl,rfl⟩;gi_wp2
 have bR:=aC w 4 (.F);have b1:=aC (w.alloc (.cells #[.F] 4)) 37 (.slice a1 N1 c1);have b2:=aC ((w.alloc (.cells #[.F] 4)).alloc (.cells #[.slice a1 N1 c1] 37)) 37 (.slice a2 N2 c2);rw[af] at b1;rw[af,af] at b2;obtain⟨W0,Bb⟩:∃W0,((w.alloc (.cells #[.F] 4)).alloc (.cells #[.slice a1 N1 c1] 37)).alloc (.cells #[.slice a2 N2 c2] 37)=W0:=⟨_,rfl⟩;have hs0:W0.heap.size=w.heap.size+3:=by rw[←Bb];simp
 have BZ:cE w W0:=by rw[←Bb];exact cT (cT (cT (aa _ w) _) _) _
 have hR0:aj W0 w.heap.size 4 (.F):=by rw[←Bb];exact(bR.alloc _).alloc _
 have h10:aj W0 (w.heap.size+1) 37 (.slice a1 N1 c1):=by rw[←Bb];exact b1.alloc _
 have h20:aj W0 (w.heap.size+1+1) 37 (.slice a2 N2 c2):=by rw[←Bb];exact b2
 rw[Bb];clear Bb bR b1 b2;refine wpIn_rangeFunc_ownG (α:=Nat×Nat) rfl cK (gf:=109) (lb:=#[.p (w.heap.size+1),.p (w.heap.size+1+1)]) rfl trivial (enters_of func109 cJ rfl)
  (encs:=WS) (Kp:=fun W W'=>Below (w.heap.size+3) W W') (S:=fun ys=>ys=V1.zip V2) (Sp:=fun pre=>pre <+: V1.zip V2) (N:=1001) (w0:=W0) ?seq
  (fun h k=>h.trans k) (fun W l o o' hl ho hc hw=>belowK_b (w:=W0) cK W l o o' hl ho hc hw) (aa _ _) (fun _=>rfl)
  (fun pre W=>(∀p∈pre,p.1≤p.2)∧aj W w.heap.size 4 (.F)∧cE w W)
  (fun c pre W=>c=.ret∧(∃p∈pre,¬p.1≤p.2)∧aj W w.heap.size 4 (.F)∧cE w W)
  (fun s A B row hs hg hr=>⟨hs.1,(hg.block _ hs.2.1.lt (fun e=>by have:=hr _ e.symm;omega)).trans hs.2.1,hs.2.2.grown hg hs.2.2.size (fun g e=>by have:=hr _ e;omega)⟩)
  (fun c s A B row hs hg hr=>⟨hs.1,hs.2.1,(hg.block _ hs.2.2.1.lt (fun e=>by have:=hr _ e.symm;omega)).trans hs.2.2.1,hs.2.2.2.grown hg hs.2.2.2.size (fun g e=>by have:=hr _ e;omega)⟩)
  ⟨by simp,hR0,BZ⟩
  (fun x=>{tmps:=#[.slice a1 N1 c1,.slice a2 N2 c2,ah,ah,.p w.heap.size,.v (x.1:Int),.v (x.2:Int),.slice a1 N1 c1,.slice a2 N2 c2,.func (.func 109) #[] #[.p (w.heap.size+1),.p (w.heap.size+1+1)],.v (x.1:Int),.v (x.2:Int),ah,ah,ah,ah,ah,ah,ah,ah],defers:=[]}) ?assign ?body ?done ?stop
 case seq=>
  intro l J Jx W hW hJ hJx hY hJ0;have hB:=BZ.trans (hW.mono cK);have e1:=HN.out.1;have e2:=HN.out.2;subst e1 e2;have st:∀{lo:Nat→Prop} {a:Option Addr} {V:List Nat},dK w lo a V→dK W (fun b=>b<w.heap.size+3) a V:=fun h=>((h.mono (lo':=fun b=>b<w.heap.size) (fun b hb _=>hb)).below hB).mono (fun b _ hb=>by have hb:b<w.heap.size:=hb;omega)
  exact TP (w.heap.size+3) l (w.heap.size+1) (w.heap.size+1+1) a1 a2 c1 c2 V1 V2 cK cK HD.out.2.2.1 HD.out.2.2.2 J Jx hY W (by have:=hW.size;omega) hJ
   ((hW.block _ cK).trans h10) ((hW.block _ cK).trans h20) (st HD.out.1) (st HD.out.2.1) hJ0
 case assign=>
  intro l x W K hK;unfold WS;gi_wp2
  exact hK
 case body=>
  rintro l pre ⟨x1,x2⟩ W ⟨hp,nJ,gQ⟩ hlt;have hc:=nJ.cell;have hf:=nJ.frozen;have HB:=cD (cC nJ gQ);dsimp only;by_cases hx:x2<x1
  ·have t1:decide ((x2:Int)<(x1:Int))=true:=by simp;omega
   have t2:decide (x2<x1)=true:=by simp;omega
   have HX:=cD hx;clear hx nJ gQ hp;gi_wp2
   have dI:aj (W.setCell ⟨w.heap.size,0,none⟩ (.F)) w.heap.size 4 (.F):=HB.out.1.set _;exact⟨(ag _ _ _).from _,rfl,⟨(x1,x2),by simp,by have:=HX.out;simp;omega⟩,dI,HB.out.2.trans (((cQ.refl (·=w.heap.size) W).setCell (p:=⟨w.heap.size,0,none⟩) rfl _).below HB.out.2.size (fun k e=>by have e:k=w.heap.size:=e;omega))⟩
  have t1:decide ((x2:Int)<(x1:Int))=false:=by simp;omega
  have t2:decide (x2<x1)=false:=by simp;omega
  have HX:=cD (cC hx hp);clear hx nJ gQ hp;gi_wp2
  exact⟨KeepsFrom.refl _ _,aa _ _,fun p hp=>(List.mem_append.1 hp).elim (HX.out.2 p) (fun e=>by simp at e;subst e;have:=HX.out.1;simp;omega),HB.out.1,HB.out.2⟩
 case done=>
  rintro D ys W hD rfl ⟨hp,nJ,gQ⟩ hK;have hc:=nJ.cell;have hf:=nJ.frozen;have DJ:cE w (W.setCell ⟨w.heap.size,0,none⟩ (.bool ((N1:Int)==(N2:Int)))):=gQ.trans (((cQ.refl (·=w.heap.size) W).setCell (p:=⟨w.heap.size,0,none⟩) rfl _).below gQ.size (fun k e=>by have e:k=w.heap.size:=e;omega));have iK:=cD DJ;have HP:=cD hp;have nU:=cD nJ;clear hp gQ DJ nJ;gi_wp2
  have gv:=(ag W ⟨w.heap.size,0,none⟩ (.bool ((N1:Int)==(N2:Int)))).same D _ hK rfl;have eO:aj (W.setCell ⟨w.heap.size,0,none⟩ (.bool ((N1:Int)==(N2:Int)))) w.heap.size 4 (.bool ((N1:Int)==(N2:Int))):=nU.out.set _;refine⟨by simp,.inl ⟨_,_,rfl,run_takeDeferred gv,?_⟩⟩;have hc5:=cell_kept eO.cell (grownBy_putObj' _ D (.deferred none)) (fun r e=>by cases e;exact⟨_,gv,rfl⟩);refine⟨.bool ((N1:Int)==(N2:Int)),?_,?_,iK.out.trans (belowK_b (w:=w) (au _) _ D _ _ cK gv rfl rfl)⟩
  ·simp[results,Tryz.f17,go_sem,hc5]
  rw[HL.out,←HN.out.1,←HN.out.2];have h1:((V1.zip V2).all fun p=>decide (p.1≤p.2))=true:=List.all_eq_true.2 fun p hp=>by simpa using HP.out p hp
  rw[h1];by_cases e:N1=N2<;>simp[e]
  omega
 rintro D c pre W hD hpre ⟨rfl,hex,nJ,gQ⟩ hK;have HX:=cD (cC hex (cC hpre (cC nJ gQ)));clear hex hpre gQ nJ;gi_wp2
 refine⟨by simp,.inl ⟨_,_,rfl,run_takeDeferred hK,?_⟩⟩;obtain⟨⟨p,hp,hnp⟩,⟨r,hr⟩,nJ,gQ⟩:=HX.out;have hc5:=cell_kept nJ.cell (grownBy_putObj' _ D (.deferred none)) (fun r e=>by cases e;exact⟨_,hK,rfl⟩);refine⟨.F,?_,?_,gQ.trans (belowK_b (w:=w) (au _) _ D _ _ cK hK rfl rfl)⟩
 ·simp[results,Tryz.f17,go_sem,hc5]
 rw[HL.out];have h1:((V1.zip V2).all fun p=>decide (p.1≤p.2))=false:=by
  rw[List.all_eq_false];exact⟨p,by rw[←hr];exact List.mem_append_left _ hp,by simpa using hnp⟩
 rw[h1];rfl
end
