/-
  For any atoms and any role: the law RelaxParts of layer 12 returns true, and the arguments read as they did. No condition but the row's: the listed variables hold what the program's text lays them.
-/
import Derived.Test.YtgmibdiofkmmbaaGreatDoorS11
import Derived.Test.YtgmibdiofkmmbaaGreatDoorTie
import Derived.Test.YtgmibdiofkmmbaaGreatDoorCards
set_option linter.all false
open Go.Proofs.Tryz
namespace Go.Proofs.YtgmibdiofkmmbaaGreatDoor
open Go.Ab Go.ChangeShapes Go.WideShapes Go.ChangeAt Go.RowKit
set_option maxRecDepth 100000
namespace relaxParts
theorem contract (H:Type) (enc:TypeId×Value->H) (W:World) (base:Nat) (args:Array Value) (ds gs:List (DataW H)) (before:List MemPlace)
 (hval: ∀(j:Nat) t v,Tryz.f5.params[j]?=some t->args[j]?=some v->Value.okWide prog W .any base t v)
 (hW:DataW.Whole enc prog Tryz.f5.params.toList Rows.relaxPartsSpec.vars false W args.toList ds gs before)
 (hlv:laidMetH prog Rows.relaxPartsRow.laid W) (hz:(DataW.weightsEach prog (Tryz.f5.params.toList++Rows.relaxPartsSpec.plain.varTypes prog) (ds++gs)).all (· <=reachBytes)=true):
 Calls prog 5 args W fun e W'=> ∃v,e= .returned v/\Rows.relaxPartsSpec.post enc prog Tryz.f5 false true false false W args v W':=by
 have hW':=hW
 obtain⟨p,q,hA0,hV,rfl,hfz,hnd⟩:=hW
 have hA:DataW.TrodAll enc prog W 0 (fun _=>true) true Tryz.f5.params.toList args.toList ds p:=hA0
 rw[params5]at hA hval hz
 obtain⟨v0,vs0,d0,ds0,p0,q0,hargs,rfl,rfl,h0,r0⟩:=trodAll_cons hA
 obtain⟨v1,vs1,d1,ds1,p1,q1,rfl,rfl,rfl,h1,r1⟩:=trodAll_cons r0
 obtain⟨rfl,rfl,rfl⟩:=trodAll_nil r1
 obtain rfl:args= #[v0,v1]:=by cases args;simp_all
 obtain⟨x0,o0,rv0⟩:=Came.arg dNj h0 (hval 0 _ v0 rfl rfl) (fun m hm=>of_decide_eq_true (List.all_eq_true.1 hz m (DataW.weights_mem_each (j:=0) rfl rfl m hm))) (fun x cs h=>by cases h) (fun h=>absurd h (by decide+kernel))
 obtain⟨x1,o1,rv1⟩:=Came.arg dKa h1 (hval 1 _ v1 rfl rfl) (fun m hm=>of_decide_eq_true (List.all_eq_true.1 hz m (DataW.weights_mem_each (j:=1) rfl rfl m hm))) (fun _ _ _=>by decide+kernel) (fun _ x=>⟨_,rfl⟩)
 refine(@dNg prog globR _ _ (dNm x0 x1 o0 o1) _ _ _ (dNl hlv) (dNh W) rfl (fun i a v ha hv=>?_)).mono fun e W' ⟨he,hfr⟩=>?_
 ·rcases i with _|_|i
  ·simp at ha hv;subst ha;subst hv;exact rv0
  ·simp at ha hv;subst ha;subst hv;exact rv1
  ·simp at ha
 ·refine⟨_,he,dNf dNi iT (fun t ht=>?_) (bt:=4) (by kernel_rfl) underlying4 rfl hW' rfl hfr⟩
  rw[params5]at ht
  simp at ht
  rcases ht with rfl|rfl<;>exact of_decide_eq_true (by kernel_rfl)
theorem lifted (os:Os) (started:os.Started) (H:Type) (enc:TypeId×Value->H):
 ReturnsInHanded {} Tryz.checked os 5 .any (fun w args=>(Rows.relaxPartsSpec.pre enc prog Tryz.f5 Rows.relaxPartsRow.domain false w args/\laidMetH prog Rows.relaxPartsRow.laid w)/\sizedMet enc prog Tryz.f5 (OpenSpec.ofChange Rows.relaxPartsSpec) false w args) (Rows.relaxPartsSpec.post enc prog Tryz.f5 false true false false):=by
 refine returnsInHanded_of_change_and (C:=Tryz.checked) (X:=fun w _=>laidMetH prog Rows.relaxPartsRow.laid w) (fun _ _ _ hh h=>h.of_heap hh) own started (by kernel_rfl) func5
  (ChangeSpec.witness_shaped (enc:=enc) (C:=Tryz.checked) (os:=os) (X:=fun w _=>laidMetH prog Rows.relaxPartsRow.laid w) false (World.doorLaid prog 400 os) #[.slice none 0 0,.agg #[.string ⟨#[]⟩,.slice none 0 0]] 8 rfl (World.shaped_of_RefB (by kernel_rfl) (by kernel_rfl)) (by kernel_rfl) (by kernel_rfl) (by kernel_rfl) (dNk os _)) ?_
 intro W base args ds gs before hval hW _ hz hX _
 exact contract H enc W base args ds gs before hval hW hX hz
theorem row_holds:Rows.RelaxPartsSaid:=
 OpenClaim.holds_of_wide 5 Tryz.f5 rfl rfl rfl rfl rfl rfl rfl ⟨rfl,rfl,rfl,rfl,rfl⟩ rfl rfl rfl rfl rfl (by kernel_rfl) func5 (by kernel_rfl)
  (of_decide_eq_true (by kernel_rfl)) (by unfold Func.isWrapper;first|(rw[if_pos (by decide+kernel)];kernel_rfl)|(rw[if_neg (by decide+kernel)];exact⟨rfl,rfl⟩))
  (fun os started H enc _=>lifted os started H enc)
theorem proved:Rows.RelaxPartsCardSaid:=
 Claim7.holds_tied_plain_at .later [] [.widerDeep] true Rows.relaxPartsCard.stood.harness false
  row_holds (fun _ h=>by cases h) (by kernel_rfl) (fun _ h=>by cases h) relaxParts_row_tie rfl ⟨rfl,rfl⟩ (by kernel_rfl) rfl
  (fun f fn hf hfn=>by
   obtain rfl:f=5:=Option.some.inj ((show prog.funcNamed Rows.relaxPartsRow.func=some 5 by kernel_rfl).symm.trans hf)|>.symm
   obtain rfl:fn=Tryz.f5:=(Option.some.inj (func5.symm.trans hfn)).symm
   exact⟨by kernel_rfl,fun j t ht=>by
    have hall:(Tryz.f5.params.toList.all fun t=> !prog.wantsStandIn t)=true:=by kernel_rfl
    have hm:t∈Tryz.f5.params.toList:=List.mem_of_getElem? (by rw[Array.getElem?_toList];exact ht)
    have h1:=List.all_eq_true.1 hall t hm
    show prog.wantsStandIn t=false
    simpa using h1⟩)
  (by kernel_rfl)
end relaxParts
end Go.Proofs.YtgmibdiofkmmbaaGreatDoor
