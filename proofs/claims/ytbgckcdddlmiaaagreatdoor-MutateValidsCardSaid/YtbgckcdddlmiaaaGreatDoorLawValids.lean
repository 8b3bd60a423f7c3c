/-
  For every description: the law MutateValids of layer 53 returns true, and the arguments read as they did. No condition but the row's: the listed variables hold what the program's text lays them.
-/
import Derived.Test.YtbgckcdddlmiaaaGreatDoorS10
import Derived.Test.YtbgckcdddlmiaaaGreatDoorS11
import Derived.Test.YtbgckcdddlmiaaaGreatDoorTie
import Derived.Test.YtbgckcdddlmiaaaGreatDoorCards
set_option linter.all false
open Go.Proofs.Tryz
namespace Go.Proofs.YtbgckcdddlmiaaaGreatDoor
open Go.Ab Go.ChangeShapes Go.WideShapes Go.ChangeAt Go.RowKit
set_option maxRecDepth 100000
namespace mutateValids
theorem contract (H:Type) (enc:TypeId×Value->H) (W:World) (base:Nat) (args:Array Value) (ds gs:List (DataW H)) (before:List MemPlace)
 (hval: ∀(j:Nat) t v,Tryz.f5.params[j]?=some t->args[j]?=some v->Value.okWide prog W .any base t v)
 (hW:DataW.Whole enc prog Tryz.f5.params.toList Rows.mutateValidsSpec.vars false W args.toList ds gs before)
 (hlv:laidMetH prog Rows.mutateValidsRow.laid W) (hz:(DataW.weightsEach prog (Tryz.f5.params.toList++Rows.mutateValidsSpec.plain.varTypes prog) (ds++gs)).all (· <=reachBytes)=true):
 Calls prog 5 args W fun e W'=> ∃v,e= .returned v/\Rows.mutateValidsSpec.post enc prog Tryz.f5 false true false false W args v W':=by
 have hW':=hW
 obtain⟨p,q,hA0,hV,rfl,hfz,hnd⟩:=hW
 have hA:DataW.TrodAll enc prog W 0 (fun _=>true) true Tryz.f5.params.toList args.toList ds p:=hA0
 rw[params5]at hA hval hz
 obtain⟨v0,vs0,d0,ds0,p0,q0,hargs,rfl,rfl,h0,r0⟩:=trodAll_cons hA
 obtain⟨rfl,rfl,rfl⟩:=trodAll_nil r0
 obtain rfl:args= #[v0]:=by cases args;simp_all
 obtain⟨x0,o0,rv0⟩:=Came.arg bUv h0 (hval 0 _ v0 rfl rfl) (fun m hm=>of_decide_eq_true (List.all_eq_true.1 hz m (DataW.weights_mem_each (j:=0) rfl rfl m hm))) (fun x cs h=>by cases h) (fun h=>absurd h (by decide+kernel))
 refine(@bUs prog globV _ _ (bUx x0 o0) _ _ _ (bUy hlv) (bUt W) rfl (fun i a v ha hv=>?_)).mono fun e W' ⟨he,hfr⟩=>?_
 ·rcases i with _|i
  ·simp at ha hv;subst ha;subst hv;exact rv0
  ·simp at ha
 ·refine⟨_,he,bUr bUu kH (fun t ht=>?_) (bt:=4) (by kernel_rfl) underlying4 rfl hW' rfl hfr⟩
  rw[params5]at ht
  simp at ht
  rcases ht with rfl<;>exact of_decide_eq_true (by kernel_rfl)
theorem lifted (os:Os) (started:os.Started) (H:Type) (enc:TypeId×Value->H):
 ReturnsInHanded {} Tryz.checked os 5 .any (fun w args=>(Rows.mutateValidsSpec.pre enc prog Tryz.f5 Rows.mutateValidsRow.domain false w args/\laidMetH prog Rows.mutateValidsRow.laid w)/\sizedMet enc prog Tryz.f5 (OpenSpec.ofChange Rows.mutateValidsSpec) false w args) (Rows.mutateValidsSpec.post enc prog Tryz.f5 false true false false):=by
 refine returnsInHanded_of_change_and (C:=Tryz.checked) (X:=fun w _=>laidMetH prog Rows.mutateValidsRow.laid w) (fun _ _ _ hh h=>h.of_heap hh) own started (by kernel_rfl) func5
  (ChangeSpec.witness_shaped (enc:=enc) (C:=Tryz.checked) (os:=os) (X:=fun w _=>laidMetH prog Rows.mutateValidsRow.laid w) false (World.doorLaid prog 400 os) #[.slice none 0 0] 8 rfl (World.shaped_of_RefB (by kernel_rfl) (by kernel_rfl)) (by kernel_rfl) (by kernel_rfl) (by kernel_rfl) (bUw os _)) ?_
 intro W base args ds gs before hval hW _ hz hX _
 exact contract H enc W base args ds gs before hval hW hX hz
theorem row_holds:Rows.MutateValidsSaid:=
 OpenClaim.holds_of_wide 5 Tryz.f5 rfl rfl rfl rfl rfl rfl rfl ⟨rfl,rfl,rfl,rfl,rfl⟩ rfl rfl rfl rfl rfl (by kernel_rfl) func5 (by kernel_rfl)
  (of_decide_eq_true (by kernel_rfl)) (by unfold Func.isWrapper;first|(rw[if_pos (by decide+kernel)];kernel_rfl)|(rw[if_neg (by decide+kernel)];exact⟨rfl,rfl⟩))
  (fun os started H enc _=>lifted os started H enc)
theorem proved:Rows.MutateValidsCardSaid:=
 Claim7.holds_tied_plain_at .later [] [.data,.data,.data,.widerDeep,.data] true Rows.mutateValidsCard.stood.harness false
  row_holds (fun _ h=>by cases h) (by kernel_rfl) (fun _ h=>by cases h) mutateValids_row_tie rfl ⟨rfl,rfl⟩ (by kernel_rfl) rfl
  (fun f fn hf hfn=>by
   obtain rfl:f=5:=Option.some.inj ((show prog.funcNamed Rows.mutateValidsRow.func=some 5 by kernel_rfl).symm.trans hf)|>.symm
   obtain rfl:fn=Tryz.f5:=(Option.some.inj (func5.symm.trans hfn)).symm
   exact⟨by kernel_rfl,fun j t ht=>by
    have hall:(Tryz.f5.params.toList.all fun t=> !prog.wantsStandIn t)=true:=by kernel_rfl
    have hm:t∈Tryz.f5.params.toList:=List.mem_of_getElem? (by rw[Array.getElem?_toList];exact ht)
    have h1:=List.all_eq_true.1 hall t hm
    show prog.wantsStandIn t=false
    simpa using h1⟩)
  (by kernel_rfl)
end mutateValids
end Go.Proofs.YtbgckcdddlmiaaaGreatDoor
