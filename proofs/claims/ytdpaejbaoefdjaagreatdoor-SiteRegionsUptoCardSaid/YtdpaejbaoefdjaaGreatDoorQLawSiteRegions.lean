/-
  SiteRegions: whatever the input of bounded bulk, the law answers true and the input reads as it did: the given card of the second form.
-/
import Derived.Test.YtdpaejbaoefdjaaGreatDoorCards
import Derived.Test.YtdpaejbaoefdjaaGreatDoorTie
import Derived.Test.YtdpaejbaoefdjaaGreatDoorQ48
import Derived.OpenShut
import Derived.Lay
import Derived.Deep.DeepHandedRow
open Option.some renaming inj → aa
namespace Go.Proofs.YtdpaejbaoefdjaaGreatDoor
open Go.Proofs.Tryz
set_option linter.unusedVariables false
set_option linter.unusedSimpArgs false
end Go.Proofs.YtdpaejbaoefdjaaGreatDoor
namespace Go.Proofs.YtdpaejbaoefdjaaGreatDoor.lawSiteRegions
open Go.Proofs.Tryz
set_option maxRecDepth 100000
set_option maxHeartbeats 64000000
open Go.ChangeShapes Go.WideShapes Go.ChangeAt Go.RowKit
theorem own:ownKnob prog.godebug=none:=by kernel_rfl
theorem lifted(os:Os)(started:os.Started)(H:Type)(enc:TypeId×Value→H)(F:Stop.Interp):
  ReturnsInHanded {} Tryz.checked os 7 .any ((Rows.OpenSpec.upto Rows.siteRegionsSpec).preRow enc prog Tryz.f7 Rows.siteRegionsUptoRow.domain false Rows.siteRegionsUptoRow.laid) (((Rows.OpenSpec.upto Rows.siteRegionsSpec).at F).post enc prog Tryz.f7 false true false false):=by
 refine returnsInHanded_of_row (C:=Tryz.checked) (s:=Rows.OpenSpec.upto Rows.siteRegionsSpec) own started (by kernel_rfl) func7
  ⟨World.laidAll prog os Rows.siteRegionsUptoRow.laid,fun _ _=>0,⟨#[],#[.n],[]⟩,World.laidAll_os _ _ _,
   World.shaped_of_ZipB (by kernel_rfl) (by kernel_rfl),rfl,(Input.okWide_of_okWideB (base:=0) (by kernel_rfl)).2,
   OpenSpec.preRow_of_cond 8 (x:=([.nil],[],[])) (by kernel_rfl) (by kernel_rfl) (fun k hk=>by cases hk;kernel_rfl) (by kernel_rfl)
    (by rw[MakeChecks.laidMetH_plain _ _ _ (by kernel_rfl)];exact laidMet_laidAll _ (by kernel_rfl) (by kernel_rfl)),
   by simp only[Assume.holds];exact⟨by simp,by simp,fun _=>Modest.zero,by simp,by simp⟩⟩ ?_
 intro W base args ds gs before hval0 hW _ hcond _ hlaid hsh _;have hval:∀(j:Nat) t v,Tryz.f7.params[j]?=some t→args[j]?=some v→Value.okWide prog W .any base t v:=hval0;have hk:Rows.uptoSmall H (ds++gs)=true:=hcond _ rfl;have Oa:=hW;obtain⟨p,q,Z3,hV,rfl,hfz,hnd⟩:=hW;have hA:DataW.TrodAll enc prog W 0 (fun _=>true) true Tryz.f7.params.toList args.toList ds p:=Z3;rw[params7] at hA hval;obtain⟨v0,d0,rfl,rfl,h0⟩:=trodAll_one hA;obtain⟨rfl,rfl⟩:=trodVars_none hV;clear Z3 hval0 hcond;simp only[List.append_nil] at Oa hk;have hlt:=fun x hx=>Oa.lt x hx
 refine(Go.Proofs.YtdpaejbaoefdjaaGreatDoor.zU enc W v0 d0 p h0 ⟨_,hval 0 22 v0 rfl rfl⟩ hk (mu hsh) (xS hlaid)).mono fun e W' ⟨he,hb⟩=>?_
 subst he;exact⟨_,rfl,oI (pa:=p) (pv:=[]) Oa (fun _ _ _=>(trodAll_mk1 (shut_bool underlying4 _))) (fun sp hsp=>trodAll_mk1 (WideElems.Trod_stays Tryz.laidOut (by kernel_rfl) (of_decide_eq_true (by kernel_rfl)) h0 (fun x hx=>hb.same (hlt x (by simpa using hx))) (fun x hx=>hsp x (by simpa using hx)))) (fun _ _=>rfl) (by simp)
  hb (ok_one (by kernel_rfl) rfl (okWide_bool_mk underlying4 _))⟩
theorem pL{P:Program}{f:FuncId}{fn:Func}{s:ChangeSpec}{c:OpenClaim}(k1:c.wf (OpenSpec.ofChange s)=true)(k2:laidOutB P=true)(k3:mapsRowed P=true)
  (k4:fn.params.all (P.readableRec ·)=true) (k5:namedTie P c.named s.vars=true)
  (k6:(c.stops==[])=true) (k7:(P.stops==[])=true) (k8:(c.knobs==[])=true) (k9:(P.stopKnobs==[])=true)
  (Qw:(c.inPlace==P.inPlace f)=true) (Zp:(c.unfollowed==P.unfollowed f)=true) (Zo:(c.recurses==P.recurses f)=true) (k13:(c.named==P.varsNamed f)=true)
  (k14:(c.maps==(fn.params.toList++s.plain.varTypes P).any (P.mapsRec ·))=true) (k15:(c.ifaces==(fn.params.toList++s.plain.varTypes P).any (P.ifacesRec ·))=true) (k16:(c.mapsOut==P.mapsAmong fn.resultTypes.toList)=true)
  (k17:(c.loops==(fn.params.toList++s.plain.varTypes P).any (P.loopsFrom ·))=true) (k18:(c.wideKeys==(fn.params.toList++s.plain.varTypes P++fn.resultTypes.toList).any (P.wideKeysFrom ·))=true)
  (k19:s.vars.all (P.varReadable ·)=true) (k20:fn.resultTypes.all (fun t=>P.readableRec t&&decide (t<P.types.size))=true) (k21:(c.ifacesOut==fn.resultTypes.toList.any (P.ifacesRec ·))=true) (k22:(c.loopsOut==fn.resultTypes.toList.any (P.loopsFrom ·))=true) (k23:(c.plainKeys==P.plainKeys)=true) (k24:c.shortTexts.isNone=true) (k25:P.stopsHeard=true) (k26:P.mayEnter=true) (k27:(c.lifted==P.liftsFinal)=true) (k28:(P.make==some c.make)=true) (k29:(c.kinds==(if c.domain.isEmpty then [] else fn.params.toList.map fun t=>match P.underlying t with|some (.int k)=>some k|_=>none))=true) (k30:(c.pinned==c.pinnedBy)=true)
  (k31:(c.veiled==(fn.params.toList++s.plain.varTypes P++fn.resultTypes.toList).any (P.veiledRec ·))=true) (k32:c.veiledFits P fn.params.toList (fn.params.toList++s.plain.varTypes P++fn.resultTypes.toList)=true):
  joinedFacts P f fn s c=true:=by
 have dZ:∀{a b:Bool},a=true→b=true→(a&&b)=true:=fun h1 h2=>by rw[h1,h2];rfl
 exact dZ (dZ (dZ (dZ (dZ (dZ (dZ (dZ (dZ (dZ (dZ (dZ (dZ (dZ (dZ (dZ (dZ (dZ (dZ (dZ (dZ (dZ (dZ (dZ (dZ (dZ (dZ (dZ (dZ (dZ (dZ k1 k2) k3) k4) k5) k6) k7) k8) k9) Qw) Zp) Zo) k13) k14) k15) k16) k17) k18) k19) k20) k21) k22) k23) k24) k25) k26) k27) k28) k29) k30) k31) k32
theorem closed:joinedFacts prog 7 Tryz.f7 (Rows.OpenSpec.upto Rows.siteRegionsSpec).bare Rows.siteRegionsUptoRow=true:=
 pL (by as_aux_lemma=>kernel_rfl) (by as_aux_lemma=>kernel_rfl) (by as_aux_lemma=>kernel_rfl) (by as_aux_lemma=>kernel_rfl) (by as_aux_lemma=>kernel_rfl) (by as_aux_lemma=>kernel_rfl) (by as_aux_lemma=>kernel_rfl) (by as_aux_lemma=>kernel_rfl) (by as_aux_lemma=>kernel_rfl) (by as_aux_lemma=>kernel_rfl) (by as_aux_lemma=>kernel_rfl) (by as_aux_lemma=>kernel_rfl) (by as_aux_lemma=>kernel_rfl) (by as_aux_lemma=>kernel_rfl) (by as_aux_lemma=>kernel_rfl) (by as_aux_lemma=>kernel_rfl) (by as_aux_lemma=>kernel_rfl) (by as_aux_lemma=>kernel_rfl) (by as_aux_lemma=>kernel_rfl) (by as_aux_lemma=>kernel_rfl) (by as_aux_lemma=>kernel_rfl) (by as_aux_lemma=>kernel_rfl) (by as_aux_lemma=>kernel_rfl) (by as_aux_lemma=>kernel_rfl) (by as_aux_lemma=>kernel_rfl) (by as_aux_lemma=>kernel_rfl) (by as_aux_lemma=>kernel_rfl) (by as_aux_lemma=>kernel_rfl) (by as_aux_lemma=>kernel_rfl) (by as_aux_lemma=>kernel_rfl) (by as_aux_lemma=>kernel_rfl) (by as_aux_lemma=>kernel_rfl)
theorem named:prog.funcNamed Rows.siteRegionsUptoRow.func=some 7:=by kernel_rfl
theorem inst:Tryz.f7.isInstance prog Rows.siteRegionsUptoRow.origin Rows.siteRegionsUptoRow.targs:=of_decide_eq_true (by kernel_rfl)
theorem wrapper:Tryz.f7.isWrapper prog Rows.siteRegionsUptoRow.wrapper Rows.siteRegionsUptoRow.mainSum:=by
 unfold Func.isWrapper
 first|(rw[if_pos (by decide+kernel)];kernel_rfl)|(rw[if_neg (by decide+kernel)];exact⟨rfl,rfl⟩)
theorem mainIs:prog.mainIs=some (true, "e41422726a6318d719e12bf6ebc58f2b4c0fc7468aeca040369bc0367fe56f6c".toList):=by kernel_rfl
theorem goesBy:false=Rows.siteRegionsUptoRow.goesBy prog:=by kernel_rfl
theorem AV:Rows.SiteRegionsUptoSaid:=
 OpenClaim.holds_of_cond 7 Tryz.f7 rfl rfl rfl rfl rfl rfl rfl ⟨rfl,rfl,rfl,rfl,rfl⟩ rfl rfl rfl rfl rfl named func7 closed inst wrapper
  (fun os started H enc _ F=>by rw[OpenClaim.pre_eq_preRow];exact lifted os started H enc F)
theorem proved:Rows.SiteRegionsUptoCardSaid:=
 Claim7.holds_tied_plain_at .later [] [.data,.data,.data,.data,.pinned] true (true, "e41422726a6318d719e12bf6ebc58f2b4c0fc7468aeca040369bc0367fe56f6c") true AV (fun _ h=>by cases h) (by kernel_rfl) (fun _ h=>by cases h) siteRegionsUpto_row_tie rfl ⟨rfl,rfl⟩ mainIs rfl
  (fun f fn hf hfn=>by
   obtain rfl:f=7:=aa (named.symm.trans hf) |>.symm;obtain rfl:fn=Tryz.f7:=(aa (func7.symm.trans hfn)).symm;exact⟨by kernel_rfl,fun j t ht=>by
    rw[params7] at ht;have hm:t∈[22]:=by simpa using Array.mem_of_getElem? ht
    have hall:([22].all fun u=>!prog.wantsStandIn u)=true:=by kernel_rfl
    exact(show prog.wantsStandIn t=false by simpa using List.all_eq_true.1 hall t hm)⟩)
  goesBy
#print axioms proved
end Go.Proofs.YtdpaejbaoefdjaaGreatDoor.lawSiteRegions
namespace Go.Proofs.YtdpaejbaoefdjaaGreatDoor
open Go.Proofs.Tryz
end Go.Proofs.YtdpaejbaoefdjaaGreatDoor
