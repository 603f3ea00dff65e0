/-
  SiteReaps: whatever the input, the law answers true and the input reads as it did: the given card (its row, and what the row lists tied to the program's text), from its walk. No condition beyond what the card says.
-/
import Derived.Test.YtdpaejbaoefdjaaGreatDoorCards
import Derived.Test.YtdpaejbaoefdjaaGreatDoorTie
import Derived.Test.YtdpaejbaoefdjaaGreatDoorQ49
import Derived.OpenShut
import Derived.Lay
open Go.WideElems renaming Trod_stays → aa
open Option.some renaming inj → af
namespace Go.Proofs.YtdpaejbaoefdjaaGreatDoor.lawSiteReaps
open Go.Proofs.Tryz
set_option maxRecDepth 100000
set_option maxHeartbeats 64000000
open Go.ChangeShapes Go.WideShapes Go.ChangeAt Go.RowKit
theorem own:ownKnob prog.godebug=none:=by kernel_rfl
theorem lifted(os:Os)(started:os.Started)(H:Type)(enc:TypeId×Value→H):
  ReturnsInHanded {} Tryz.checked os 4 .any (fun w args=>(Rows.siteReapsSpec.pre enc prog Tryz.f4 Rows.siteReapsRow.domain false w args∧laidMetH prog Rows.siteReapsRow.laid w)∧sizedMet enc prog Tryz.f4 (OpenSpec.ofChange Rows.siteReapsSpec) false w args)
   (Rows.siteReapsSpec.post enc prog Tryz.f4 false true false false):=by
 refine sU (C:=Tryz.checked) (X:=fun w _=>laidMetH prog Rows.siteReapsRow.laid w) (fun _ _ _ hh h=>h.of_heap hh) own started cK func4
  (ChangeSpec.witness_shaped (enc:=enc) (C:=Tryz.checked) (os:=os) (X:=fun w _=>laidMetH prog Rows.siteReapsRow.laid w) false (World.laidAll prog os Rows.siteReapsRow.laid) #[.B,.B] 8 (World.laidAll_os _ _ _)
   (World.shaped_of_ZipB cK cK) cK cK cK
   (by rw[MakeChecks.laidMetH_plain _ _ _ cK];exact laidMet_laidAll _ cK cK)) ?_
 intro W base args ds gs before hval0 hW _ hwt hlaid hsh _;have hval:∀(j:Nat) t v,Tryz.f4.params[j]?=some t→args[j]?=some v→Value.okWide prog W .any base t v:=hval0;have Oa:=hW;obtain⟨p,q,Z3,hV,rfl,hfz,hnd⟩:=hW;have hA:DataW.TrodAll enc prog W 0 (fun _=>true) true Tryz.f4.params.toList args.toList ds p:=Z3;rw[params4] at hA hval;obtain⟨v0,v1,d0,d1,p0,p1,rfl,rfl,rfl,h0,h1⟩:=trodAll_two hA;obtain⟨rfl,rfl⟩:=trodVars_none hV;clear Z3 hval0;simp only[List.append_nil] at Oa;have hlt:=fun x hx=>Oa.lt x hx
 refine(Go.Proofs.YtdpaejbaoefdjaaGreatDoor.CW enc W v0 d0 p0 h0 ⟨_,hval 0 5 v0 rfl rfl⟩ v1 d1 p1 h1 ⟨_,hval 1 5 v1 rfl rfl⟩ (mu hsh) (xS hlaid)).mono fun e W' ⟨he,hb⟩=>?_
 subst he;exact⟨_,rfl,oI (pa:=p0++p1) (pv:=[]) Oa (fun _ _ _=>(trodAll_mk1 (shut_bool underlying4 _))) (fun sp hsp=>trodAll_mk2 (aa Tryz.laidOut cK (of_decide_eq_true cK) h0 (fun x hx=>hb.same (hlt x (by simp[hx]))) (fun x hx=>hsp x (by simp[hx]))) (aa Tryz.laidOut cK (of_decide_eq_true cK) h1 (fun x hx=>hb.same (hlt x (by simp[hx]))) (fun x hx=>hsp x (by simp[hx])))) (fun _ _=>rfl) cN
  hb (ok_one cK rfl (okWide_bool_mk underlying4 _))⟩
theorem dZ{a b:Bool}(h1:a=true)(h2:b=true):(a&&b)=true:=by rw[h1,h2];rfl
theorem apart{a b:Bool}(h:a=b:=by as_aux_lemma=>kernel_rfl):a=b:=h
theorem closed:joinedFacts prog 4 Tryz.f4 Rows.siteReapsSpec Rows.siteReapsRow=true:=
 dZ (dZ (dZ (dZ (dZ (dZ (dZ (dZ (dZ (dZ (dZ (dZ (dZ (dZ (dZ (dZ (dZ (dZ (dZ (dZ (dZ (dZ (dZ (dZ (dZ (dZ (dZ (dZ (dZ (dZ (dZ apart apart) apart) apart) apart) apart) apart) apart) apart) apart) apart) apart) apart) apart) apart) apart) apart) apart) apart) apart) apart) apart) apart) apart) apart) apart) apart) apart) apart) apart) apart) apart
theorem named:prog.funcNamed Rows.siteReapsRow.func=some 4:=by kernel_rfl
theorem inst:Tryz.f4.isInstance prog Rows.siteReapsRow.origin Rows.siteReapsRow.targs:=of_decide_eq_true cK
theorem wrapper:Tryz.f4.isWrapper prog Rows.siteReapsRow.wrapper Rows.siteReapsRow.mainSum:=by
 unfold Func.isWrapper
 first|(rw[if_pos (by decide+kernel)];kernel_rfl)|(rw[if_neg (by decide+kernel)];exact⟨rfl,rfl⟩)
theorem mainIs:prog.mainIs=some (true, "e41422726a6318d719e12bf6ebc58f2b4c0fc7468aeca040369bc0367fe56f6c".toList):=by kernel_rfl
theorem goesBy:false=Rows.siteReapsRow.goesBy prog:=by kernel_rfl
theorem row:Rows.SiteReapsSaid:=
 OpenClaim.holds_of_wide 4 Tryz.f4 rfl rfl rfl rfl rfl rfl rfl ⟨rfl,rfl,rfl,rfl,rfl⟩ rfl rfl rfl rfl rfl named func4 closed inst wrapper
  (fun os started H enc _=>lifted os started H enc)
theorem proved:Rows.SiteReapsCardSaid:=
 Claim7.holds_tied_plain_at .later [] [.data,.data,.data,.data,.pinned] true (true, "e41422726a6318d719e12bf6ebc58f2b4c0fc7468aeca040369bc0367fe56f6c") true row (fun _ h=>by cases h) cK (fun _ h=>by cases h) siteReaps_row_tie rfl ⟨rfl,rfl⟩ mainIs rfl
  (fun f fn hf hfn=>by
   obtain rfl:f=4:=af (named.symm.trans hf) |>.symm;obtain rfl:fn=Tryz.f4:=(af (func4.symm.trans hfn)).symm;exact⟨by kernel_rfl,fun j t ht=>by
    rw[params4] at ht;have hm:t∈[5]:=by have:=Array.mem_of_getElem? ht;simp at this;first|(simp;omega)|(simp;exact this)|(rcases this with h|h|h<;>simp[h])|(rcases this with h|h<;>simp[h])
    have hall:([5].all fun u=>!prog.wantsStandIn u)=true:=by kernel_rfl
    exact(show prog.wantsStandIn t=false by simpa using List.all_eq_true.1 hall t hm)⟩)
  goesBy
#print axioms proved
end Go.Proofs.YtdpaejbaoefdjaaGreatDoor.lawSiteReaps
