/-
  For any two rules: the law NormalRules of layer 8 returns true, and the arguments read as they did. No condition but the row's: the listed variables hold what the program's text lays them.
-/
import Derived.Test.YtkbglbcphjmiiaaGreatDoorENormalRules3
import Derived.Test.YtkbglbcphjmiiaaGreatDoorS12
import Derived.Test.YtkbglbcphjmiiaaGreatDoorS15
import Derived.Test.YtkbglbcphjmiiaaGreatDoorTie
import Derived.Test.YtkbglbcphjmiiaaGreatDoorCards
import Derived.Test.YtkbglbcphjmiiaaGreatDoorENormalRules1
import Derived.Test.YtkbglbcphjmiiaaGreatDoorENormalRules2
set_option linter.unusedSimpArgs false
set_option linter.unusedVariables false
namespace Go.Proofs.YtkbglbcphjmiiaaGreatDoor
open Go.Ab Go.ChangeShapes Go.WideShapes Go.ChangeAt Go.RowKit
set_option maxRecDepth 100000
namespace normalRules
theorem contract (H:Type) (enc:TypeId×Value→H) (W:World) (base:Nat) (args:Array Value) (ds gs:List (DataW H)) (before:List MemPlace)
 (hval: ∀(j:Nat) t v,Tryz.f4.params[j]?=some t→args[j]?=some v→Value.okWide Tryz.prog W .any base t v)
 (hW:DataW.Whole enc Tryz.prog Tryz.f4.params.toList Rows.normalRulesSpec.vars false W args.toList ds gs before)
 (hz:(DataW.weightsEach Tryz.prog (Tryz.f4.params.toList++Rows.normalRulesSpec.plain.varTypes Tryz.prog) (ds++gs)).all (· ≤reachBytes)=true):
 Calls Tryz.prog 4 args W fun e W'=> ∃v,e= .returned v∧Rows.normalRulesSpec.post enc Tryz.prog Tryz.f4 false true false false W args v W':=by
 have hW':=hW
 obtain⟨p,q,hA0,hV,rfl,hfz,hnd⟩:=hW
 have hA:DataW.TrodAll enc Tryz.prog W 0 (fun _=>true) true Tryz.f4.params.toList args.toList ds p:=hA0
 rw[Tryz.params4]at hA hval hz
 obtain⟨v0,vs0,d0,ds0,p0,q0,hargs,rfl,rfl,h0,r0⟩:=trodAll_cons hA
 obtain⟨v1,vs1,d1,ds1,p1,q1,rfl,rfl,rfl,h1,r1⟩:=trodAll_cons r0
 obtain⟨rfl,rfl,rfl⟩:=trodAll_nil r1
 obtain rfl:args= #[v0,v1]:=by cases args;simp_all
 obtain⟨x0,o0,rv0⟩:=Came.arg came_rl h0 (hval 0 _ v0 rfl rfl) (fun m hm=>of_decide_eq_true (List.all_eq_true.1 hz m (DataW.weights_mem_each (j:=0) rfl rfl m hm))) (fun _ _ _=>by decide+kernel) (fun _ x=>⟨_,rfl⟩)
 obtain⟨x1,o1,rv1⟩:=Came.arg came_rl h1 (hval 1 _ v1 rfl rfl) (fun m hm=>of_decide_eq_true (List.all_eq_true.1 hz m (DataW.weights_mem_each (j:=1) rfl rfl m hm))) (fun _ _ _=>by decide+kernel) (fun _ x=>⟨_,rfl⟩)
 refine(law_calls (NormalRules_ok x0 x1 o0 o1) (wF_ok W) rfl (fun i a v ha hv=>?_)).mono fun e W' ⟨he,hfr⟩=>?_
 ·rcases i with _|_|i
  ·simp at ha hv;subst ha;subst hv;exact rv0
  ·simp at ha hv;subst ha;subst hv;exact rv1
  ·simp at ha
 ·refine⟨_,he,post_true kids full (fun t ht=>?_) (bt:=4) (by kernel_rfl) Tryz.underlying4 rfl hW' rfl hfr⟩
  rw[Tryz.params4]at ht
  simp at ht
  rcases ht with rfl|rfl<;>exact of_decide_eq_true (by kernel_rfl)
theorem lifted (os:Os) (started:os.Started) (H:Type) (enc:TypeId×Value→H):
 ReturnsInHanded {} Tryz.checked os 4 .any (fun w args=>(Rows.normalRulesSpec.pre enc Tryz.prog Tryz.f4 Rows.normalRulesRow.domain false w args∧laidMetH Tryz.prog Rows.normalRulesRow.laid w)∧sizedMet enc Tryz.prog Tryz.f4 (OpenSpec.ofChange Rows.normalRulesSpec) false w args) (Rows.normalRulesSpec.post enc Tryz.prog Tryz.f4 false true false false):=by
 refine returnsInHanded_of_change_and (C:=Tryz.checked) (X:=fun w _=>laidMetH Tryz.prog Rows.normalRulesRow.laid w) (fun _ _ _ hh h=>h.of_heap hh) own started (by kernel_rfl) Tryz.func4
  (ChangeSpec.witness_shaped (enc:=enc) (C:=Tryz.checked) (os:=os) (X:=fun w _=>laidMetH Tryz.prog Rows.normalRulesRow.laid w) false (World.doorLaid Tryz.prog 400 os) #[.agg #[.string ⟨#[]⟩,.slice none 0 0,.slice none 0 0],.agg #[.string ⟨#[]⟩,.slice none 0 0,.slice none 0 0]] 8 rfl (World.shaped_of_RefB (by kernel_rfl) (by kernel_rfl)) (by kernel_rfl) (by kernel_rfl) (by kernel_rfl) (door_met os _)) ?_
 intro W base args ds gs before hval hW _ hz _ _
 exact contract H enc W base args ds gs before hval hW hz
theorem row_holds:Rows.NormalRulesSaid:=
 OpenClaim.holds_of_wide 4 Tryz.f4 rfl rfl rfl rfl rfl rfl rfl ⟨rfl,rfl,rfl,rfl,rfl⟩ rfl rfl rfl rfl rfl (by kernel_rfl) Tryz.func4 (by kernel_rfl)
  (of_decide_eq_true (by kernel_rfl)) (by unfold Func.isWrapper;first|(rw[if_pos (by decide+kernel)];kernel_rfl)|(rw[if_neg (by decide+kernel)];exact⟨rfl,rfl⟩))
  (fun os started H enc _=>lifted os started H enc)
theorem proved:Rows.NormalRulesCardSaid:=
 Claim7.holds_tied_plain_at .later [] [.data,.data,.data] true Rows.normalRulesCard.stood.harness false
  row_holds (fun _ h=>by cases h) (by kernel_rfl) (fun _ h=>by cases h) normalRules_row_tie rfl ⟨rfl,rfl⟩ (by kernel_rfl) rfl
  (fun f fn hf hfn=>by
   obtain rfl:f=4:=Option.some.inj ((show Tryz.prog.funcNamed Rows.normalRulesRow.func=some 4 by kernel_rfl).symm.trans hf)|>.symm
   obtain rfl:fn=Tryz.f4:=(Option.some.inj (Tryz.func4.symm.trans hfn)).symm
   exact⟨by kernel_rfl,fun j t ht=>by
    have hall:(Tryz.f4.params.toList.all fun t=> !Tryz.prog.wantsStandIn t)=true:=by kernel_rfl
    have hm:t∈Tryz.f4.params.toList:=List.mem_of_getElem? (by rw[Array.getElem?_toList];exact ht)
    have h1:=List.all_eq_true.1 hall t hm
    show Tryz.prog.wantsStandIn t=false
    simpa using h1⟩)
  (by kernel_rfl)
end normalRules
end Go.Proofs.YtkbglbcphjmiiaaGreatDoor
