/-
  SiteFollows: whatever the input of bounded bulk, the law answers true and the input reads as it did: the given card of the second form.
-/
import Derived.Test.YtdpaejbaoefdjaaGreatDoorCards
import Derived.Test.YtdpaejbaoefdjaaGreatDoorTie
import Derived.Test.YtdpaejbaoefdjaaGreatDoorG41
import Derived.OpenShut
import Derived.Lay
import Derived.Deep.DeepHandedRow
open Go.WideElems renaming Trod_stays → aa
open Option.some renaming inj → af
namespace Go.Proofs.YtdpaejbaoefdjaaGreatDoor.lawSiteFollows
open Go.Proofs.Tryz
set_option maxRecDepth 100000
set_option maxHeartbeats 64000000
open Go.ChangeShapes Go.WideShapes Go.ChangeAt Go.RowKit
theorem own:ownKnob prog.godebug=none:=by kernel_rfl
theorem lifted(os:Os)(started:os.Started)(H:Type)(enc:TypeId×Value→H)(F:Stop.Interp):
  ReturnsInHanded {} Tryz.checked os 5 .any ((Rows.OpenSpec.upto Rows.siteFollowsSpec).preRow enc prog Tryz.f5 Rows.siteFollowsUptoRow.domain false Rows.siteFollowsUptoRow.laid) (((Rows.OpenSpec.upto Rows.siteFollowsSpec).at F).post enc prog Tryz.f5 false true false false):=by
 refine returnsInHanded_of_row (C:=Tryz.checked) (s:=Rows.OpenSpec.upto Rows.siteFollowsSpec) own started cJ func5
  ⟨World.laidAll prog os Rows.siteFollowsUptoRow.laid,fun _ _=>0,⟨#[],#[.n,.B],[]⟩,World.laidAll_os _ _ _,
   World.shaped_of_ZipB cJ cJ,rfl,(Input.okWide_of_okWideB (base:=0) cJ).2,
   OpenSpec.preRow_of_cond 8 (x:=([.nil,.lit (.B)],[],[])) cJ cJ (fun k hk=>by cases hk;kernel_rfl) cJ
    (by rw[MakeChecks.laidMetH_plain _ _ _ cJ];exact laidMet_laidAll _ cJ cJ),
   by simp only[Assume.holds];exact⟨by simp,by simp,fun _=>Modest.zero,by simp,by simp⟩⟩ ?_
 intro W base args ds gs before hval0 hW _ hcond _ hlaid hsh _;have hval:∀(j:Nat) t v,Tryz.f5.params[j]?=some t→args[j]?=some v→Value.okWide prog W .any base t v:=hval0;have hk:Rows.uptoSmall H (ds++gs)=true:=hcond _ rfl;have hW':=hW;obtain⟨p,q,hA0,hV,rfl,hfz,hnd⟩:=hW;have hA:DataW.TrodAll enc prog W 0 (fun _=>true) true Tryz.f5.params.toList args.toList ds p:=hA0;rw[params5] at hA hval;obtain⟨v0,v1,d0,d1,p0,p1,rfl,rfl,rfl,h0,h1⟩:=trodAll_two hA;obtain⟨rfl,rfl⟩:=trodVars_none hV;clear hA0 hval0 hcond;simp only[List.append_nil] at hW' hk;have hlt:=fun x hx=>hW'.lt x hx
 refine(Go.Proofs.YtdpaejbaoefdjaaGreatDoor.zh enc W v0 d0 p0 h0 ⟨_,hval 0 22 v0 rfl rfl⟩ v1 d1 p1 h1 ⟨_,hval 1 5 v1 rfl rfl⟩ hk (zq hsh) (N9 hlaid)).mono fun e W' ⟨he,hb⟩=>?_
 subst he;exact⟨_,rfl,Cm (pa:=p0++p1) (pv:=[]) hW' (fun _ _ _=>(trodAll_mk1 (shut_bool underlying4 _))) (fun sp hsp=>trodAll_mk2 (aa Tryz.laidOut cJ (of_decide_eq_true cJ) h0 (fun x hx=>hb.same (hlt x (by simp[hx]))) (fun x hx=>hsp x (by simp[hx]))) (aa Tryz.laidOut cJ (of_decide_eq_true cJ) h1 (fun x hx=>hb.same (hlt x (by simp[hx]))) (fun x hx=>hsp x (by simp[hx])))) (fun _ _=>rfl) cM
  hb (ok_one cJ rfl (okWide_bool_mk underlying4 _))⟩
theorem jY{a b:Bool}(h1:a=true)(h2:b=true):(a&&b)=true:=by rw[h1,h2];rfl
theorem apart{a b:Bool}(h:a=b:=by as_aux_lemma=>kernel_rfl):a=b:=h
theorem closed:joinedFacts prog 5 Tryz.f5 (Rows.OpenSpec.upto Rows.siteFollowsSpec).bare Rows.siteFollowsUptoRow=true:=
 jY (jY (jY (jY (jY (jY (jY (jY (jY (jY (jY (jY (jY (jY (jY (jY (jY (jY (jY (jY (jY (jY (jY (jY (jY (jY (jY (jY (jY (jY (jY apart apart) apart) apart) apart) apart) apart) apart) apart) apart) apart) apart) apart) apart) apart) apart) apart) apart) apart) apart) apart) apart) apart) apart) apart) apart) apart) apart) apart) apart) apart) apart
theorem named:prog.funcNamed Rows.siteFollowsUptoRow.func=some 5:=by kernel_rfl
theorem inst:Tryz.f5.isInstance prog Rows.siteFollowsUptoRow.origin Rows.siteFollowsUptoRow.targs:=of_decide_eq_true cJ
theorem wrapper:Tryz.f5.isWrapper prog Rows.siteFollowsUptoRow.wrapper Rows.siteFollowsUptoRow.mainSum:=by
 unfold Func.isWrapper
 first|(rw[if_pos (by decide+kernel)];kernel_rfl)|(rw[if_neg (by decide+kernel)];exact⟨rfl,rfl⟩)
theorem mainIs:prog.mainIs=some (true, "e41422726a6318d719e12bf6ebc58f2b4c0fc7468aeca040369bc0367fe56f6c".toList):=by kernel_rfl
theorem goesBy:false=Rows.siteFollowsUptoRow.goesBy prog:=by kernel_rfl
theorem Ri:Rows.SiteFollowsUptoSaid:=
 OpenClaim.holds_of_cond 5 Tryz.f5 rfl rfl rfl rfl rfl rfl rfl ⟨rfl,rfl,rfl,rfl,rfl⟩ rfl rfl rfl rfl rfl named func5 closed inst wrapper
  (fun os started H enc _ F=>by rw[OpenClaim.pre_eq_preRow];exact lifted os started H enc F)
theorem proved:Rows.SiteFollowsUptoCardSaid:=
 Claim7.holds_tied_plain_at .later [] [.data,.data,.data,.data,.pinned] true (true, "e41422726a6318d719e12bf6ebc58f2b4c0fc7468aeca040369bc0367fe56f6c") true Ri (fun _ h=>by cases h) cJ (fun _ h=>by cases h) siteFollowsUpto_row_tie rfl ⟨rfl,rfl⟩ mainIs rfl
  (fun f fn hf hfn=>by
   obtain rfl:f=5:=af (named.symm.trans hf) |>.symm;obtain rfl:fn=Tryz.f5:=(af (func5.symm.trans hfn)).symm;exact⟨by kernel_rfl,fun j t ht=>by
    rw[params5] at ht;have hm:t∈[22,5]:=by have:=Array.mem_of_getElem? ht;simp at this;first|(simp;omega)|(simp;exact this)|(rcases this with h|h|h<;>simp[h])|(rcases this with h|h<;>simp[h])
    have hall:([22,5].all fun u=>!prog.wantsStandIn u)=true:=by kernel_rfl
    exact(show prog.wantsStandIn t=false by simpa using List.all_eq_true.1 hall t hm)⟩)
  goesBy
#print axioms proved
end Go.Proofs.YtdpaejbaoefdjaaGreatDoor.lawSiteFollows
