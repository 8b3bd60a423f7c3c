import Derived.Test.YtkbglbcphjmiiaaGreatDoorS14
import Derived.Test.YtkbglbcphjmiiaaGreatDoorA13
import Derived.Test.YtkbglbcphjmiiaaGreatDoorS13
import Derived.Test.YtkbglbcphjmiiaaGreatDoorS12
import Derived.Test.YtkbglbcphjmiiaaGreatDoorRows
import Derived.SevenTiedAt
import Derived.LaidMore
import Derived.LaidLaws
import Derived.Handed
set_option linter.unusedSimpArgs false
set_option linter.unusedVariables false
namespace Go.Proofs.YtkbglbcphjmiiaaGreatDoor
open Go.Ab
set_option maxRecDepth 100000
set_option maxHeartbeats 16000000
theorem awake_ok:ACall Tryz.prog 11 [] (fun r=>r=bl true):=by
 have h1:=Read_ok exS (by decide)
 rw[xd0]at h1
 have h2:=Rule_ok ex0 ex_z0
 rw[ex_n0,ex_e0]at h2
 have h3:=Same_ok ex2 ex3 ex_z2 ex_z3
 rw[ex_s1,ex_f1]at h3
 have h4:=Same_ok ex2 ex4 ex_z2 ex_z4
 rw[ex_s2,ex_f2]at h4
 have h5:=Rules_ok [ex0,ex1,ex2,ex3,ex4] true false (by decide) (out_len (by decide)) (by
  intro r hr
  simp only[List.mem_cons,List.not_mem_nil,or_false]at hr
  rcases hr with rfl|rfl|rfl|rfl|rfl
  ·exact ex_z0
  ·exact ex_z1
  ·exact ex_z2
  ·exact ex_z3
  ·exact ex_z4)
 have hl:=ex_rl
 have he:=ex_re
 unfold rlsV at h5
 rw[he,if_pos rfl]at h5
 have h6:=Rule_ok exX ex_zX
 have hX:nrmR exX=zR:=by unfold nrmR;rw[ex_eX];rfl
 rw[ex_eX,hX]at h6
 have h6:=h6.args (bs:= [.agg [.sc (.string ⟨#[88]⟩),.list false true [],.list false true []]]) rfl (fun F i a b v ha hb hv=>by
  cases i with
  |succ i=>simp at ha
  |zero=>
   simp only[List.getElem?_cons_zero,Option.some.injEq]at ha hb
   subst ha hb
   exact hv.loose)
 have h7:=plainRule_ok ex1 ex1 (by decide)
 rw[decide_eq_true rfl]at h7
 simp only[List.map_cons,List.map_nil]at h1 h5
 generalize rlsR [ex0,ex1,ex2,ex3,ex4]=R at*
 clear he hX
 unfold exS at h1
 generalize ex0=x0 at*
 generalize ex1=x1 at*
 generalize ex2=x2 at*
 generalize ex3=x3 at*
 generalize ex4=x4 at*
 refine acall_of_awp Tryz.func11 Tryz.call11 rfl (by simp[Tryz.ntmps11]) ?_;simp only[Tryz.ntmps11,Tryz.results11]
 skip
 repeat' (first|(refine awK fun _ _=>?_)|refine zHg ?_|refine end_ret [] ?_;simp[go_sem,hl]|refine stepK_is rfl (h1) (by simp) ?_|refine stepK_is rfl (h2) (by simp) ?_|refine dstepK_is rfl (h3) rfl (by simp) ?_|refine dstepK_is rfl (h4) rfl (by simp) ?_|refine stepK_is rfl (h5) (by simp) ?_|refine stepK_is rfl (h6) (by simp) ?_|refine dstepK_is rfl (h7) rfl (by simp) ?_|(fail_if_success with_reducible refine Owe.mk ?_);(simp(disch:=omega) [go_sem,hl])|refine zDn 38 38 mix ?_|refine zDr 12 mix ?_|fail)
open Go.RowKit
theorem NormalTurned_ok (l:List Rl) (i:Int) (h:(∀r∈l,okRl r)∧l.length≤maxRow) (hi:IntKind.u8.min≤i∧i≤IntKind.u8.max):ACall Tryz.prog 9 [.list false false (l.map eRl),nt .u8 i] (fun r=>r=bl true):=by
 have h1:(0:Int)≤i:=hi.1
 have h2:i≤255:=hi.2
 obtain⟨t,rfl⟩: ∃t:Nat,i=t:=⟨i.toNat,by omega⟩
 exact NormalTurned_of awake_ok l t h (by omega)
open Go.ChangeShapes Go.WideShapes Go.ChangeAt
theorem door_met (os:Os) (args:Array Value):laidMetH Tryz.prog Rows.normalComparesRow.laid ((World.doorLaid Tryz.prog 400 os).forCall (fun _ _=>0) ⟨#[],args,[]⟩).memory:=
 laidMetH_of_parts3 (fuel:=8) (laidMet_of_run' 8 (by kernel_rfl) (by kernel_rfl)) (by kernel_rfl) (by kernel_rfl)
end Go.Proofs.YtkbglbcphjmiiaaGreatDoor
