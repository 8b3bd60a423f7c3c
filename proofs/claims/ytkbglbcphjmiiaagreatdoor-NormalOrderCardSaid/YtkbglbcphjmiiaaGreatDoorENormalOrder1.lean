import Derived.Test.YtkbglbcphjmiiaaGreatDoorS12
import Derived.Test.YtkbglbcphjmiiaaGreatDoorS13
import Derived.Test.YtkbglbcphjmiiaaGreatDoorS15
set_option linter.unusedSimpArgs false
set_option linter.unusedVariables false
namespace Go.Proofs.YtkbglbcphjmiiaaGreatDoor
open Go.Ab Go.RowKit
set_option maxRecDepth 100000
set_option maxHeartbeats 8000000
theorem small_ok (l:List Rl) (fu:Bool) (h: ∀r∈l,okRl r) (hl:l.length≤maxRow):ACall Tryz.prog 10 [.list false fu (l.map eRl)] (fun r=>r=bl (smallRs 12 l)):=by
 have h1:=smallsD_ok l fu h hl
 generalize smallRs 12 l=q at*
 refine acall_of_awp Tryz.func10 Tryz.call10 rfl (by simp[Tryz.ntmps10]) ?_;simp only[Tryz.ntmps10,Tryz.results10]
 repeat' (first|(refine awK fun _ _=>?_)|refine zHg ?_|refine end_ret [] ?_;simp[go_sem]|refine stepK_is rfl (h1) (by simp) ?_|(fail_if_success with_reducible refine Owe.mk ?_);(simp(disch:=omega) [go_sem]))
theorem NormalOrder_of (haw:ACall Tryz.prog 11 [] (fun r=>r=bl true)) (a b c:Rl) (ha:okRl a) (hb:okRl b) (hc:okRl c):
 ACall Tryz.prog 7 [eRl a,eRl b,eRl c] (fun r=>r=bl true):=by
 have hs:=small_ok [a,b,c] false (by simp[ha,hb,hc]) (show(3:Nat)≤140737488355328 by decide)
 simp only[List.map_cons,List.map_nil]at hs
 cases hq:smallRs 12 [a,b,c]
 ·rw[hq]at hs
  refine acall_of_awp Tryz.func7 Tryz.call7 rfl (by simp[Tryz.ntmps7]) ?_;simp only[Tryz.ntmps7,Tryz.results7]
  repeat' (first|(refine awK fun _ _=>?_)|refine zHg ?_|(fail_if_success with_reducible refine Owe.mk ?_);(simp(disch:=omega) [go_sem]))
  refine stepK_call [13] _ rfl rfl (hs) (by simp) ?_;rintro _ rfl
  repeat' (first|refine zHg ?_|refine end_ret [] ?_;simp[go_sem]|refine stepK_is rfl (haw) (by simp) ?_|(fail_if_success with_reducible refine Owe.mk ?_);(simp(disch:=omega) [go_sem]))
 ·have za:=sz_of hq a (by simp)
  rw[hq]at hs
  have h1:=cmpRl_ok a b false false false false
  have h2:=cmpRl_ok b c false false false false
  have h3:=cmpRl_ok a c false false false false
  have h4:=cmpRl_ok b a false false false false
  have h5:=plainRule_ok a b (by have:=za.body;omega)
  have r1:=tot_R.rng a b
  have r2:=tot_R.rng b c
  have r3:=tot_R.rng a c
  have n1:=tot_R.neg a b
  have n2:=tot_R.neg b c
  have n3:=tot_R.neg a c
  have t1:=tot_R.tr a b c
  have t2:=tot_R.tr c b a
  have e5:decide (a=b)=decide (rlC a b=0):=by
   rw[decide_eq_decide]
   exact(tot_R.zero a b).symm
  rw[e5]at h5
  rw[n1]at h4
  rw[n1,n2,n3]at t2
  unfold TR at t1 t2
  clear n1 n2 n3 e5
  generalize rlC a b=x at*
  generalize rlC b c=y at*
  generalize rlC a c=z at*
  have a1: ¬x< -1:=by omega
  have a2: ¬1<x:=by omega
  have hneg: - -x=x:=by omega
  have m1:x≤0→y≤0→min x y=z:=fun _ _=>by omega
  have m2:0≤x→0≤y→max x y=z:=fun _ _=>by omega
  clear r1 r2 r3 t1 t2
  by_cases hx:x≤0
  ·by_cases hx2:0≤x
   ·by_cases hy:y≤0
    ·have m1:=m1 hx hy
     by_cases hy2:0≤y
     ·have m2:=m2 hx2 hy2
      refine acall_of_awp Tryz.func7 Tryz.call7 rfl (by simp[Tryz.ntmps7]) ?_;simp only[Tryz.ntmps7,Tryz.results7]
      repeat' (first|(refine awK fun _ _=>?_)|refine zHg ?_|(fail_if_success with_reducible refine Owe.mk ?_);(simp(disch:=omega) [go_sem]))
      refine stepK_call [13] _ rfl rfl (hs) (by simp) ?_;rintro _ rfl
      repeat' (first|(refine awK fun _ _=>?_)|refine zHg ?_|refine end_ret [] ?_;simp[go_sem,a1,a2,hneg,hx,hx2,hy,hy2,m1,m2]|refine dstepK_is rfl (h1) rfl (by simp) ?_|refine dstepK_is rfl (h2) rfl (by simp) ?_|refine dstepK_is rfl (h3) rfl (by simp) ?_|refine stepK_is rfl (h4) (by simp) ?_|refine stepK_is rfl (h5) (by simp) ?_|refine stepK_is rfl (haw) (by simp) ?_|(fail_if_success with_reducible refine Owe.mk ?_);(simp(disch:=omega) [go_sem,a1,a2,hneg,hx,hx2,hy,hy2,m1,m2])|refine zDr 12 mix ?_|fail)
     ·refine acall_of_awp Tryz.func7 Tryz.call7 rfl (by simp[Tryz.ntmps7]) ?_;simp only[Tryz.ntmps7,Tryz.results7]
      repeat' (first|(refine awK fun _ _=>?_)|refine zHg ?_|(fail_if_success with_reducible refine Owe.mk ?_);(simp(disch:=omega) [go_sem]))
      refine stepK_call [13] _ rfl rfl (hs) (by simp) ?_;rintro _ rfl
      repeat' (first|(refine awK fun _ _=>?_)|refine zHg ?_|refine end_ret [] ?_;simp[go_sem,a1,a2,hneg,hx,hx2,hy,hy2,m1]|refine dstepK_is rfl (h1) rfl (by simp) ?_|refine dstepK_is rfl (h2) rfl (by simp) ?_|refine dstepK_is rfl (h3) rfl (by simp) ?_|refine stepK_is rfl (h4) (by simp) ?_|refine stepK_is rfl (h5) (by simp) ?_|refine stepK_is rfl (haw) (by simp) ?_|(fail_if_success with_reducible refine Owe.mk ?_);(simp(disch:=omega) [go_sem,a1,a2,hneg,hx,hx2,hy,hy2,m1])|refine zDr 12 mix ?_|fail)
    ·have hy2:0≤y:=by omega
     have m2:=m2 hx2 hy2
     refine acall_of_awp Tryz.func7 Tryz.call7 rfl (by simp[Tryz.ntmps7]) ?_;simp only[Tryz.ntmps7,Tryz.results7]
     repeat' (first|(refine awK fun _ _=>?_)|refine zHg ?_|(fail_if_success with_reducible refine Owe.mk ?_);(simp(disch:=omega) [go_sem]))
     refine stepK_call [13] _ rfl rfl (hs) (by simp) ?_;rintro _ rfl
     repeat' (first|(refine awK fun _ _=>?_)|refine zHg ?_|refine end_ret [] ?_;simp[go_sem,a1,a2,hneg,hx,hx2,hy,hy2,m2]|refine dstepK_is rfl (h1) rfl (by simp) ?_|refine dstepK_is rfl (h2) rfl (by simp) ?_|refine dstepK_is rfl (h3) rfl (by simp) ?_|refine stepK_is rfl (h4) (by simp) ?_|refine stepK_is rfl (h5) (by simp) ?_|refine stepK_is rfl (haw) (by simp) ?_|(fail_if_success with_reducible refine Owe.mk ?_);(simp(disch:=omega) [go_sem,a1,a2,hneg,hx,hx2,hy,hy2,m2])|refine zDr 12 mix ?_|fail)
   ·by_cases hy:y≤0
    ·have m1:=m1 hx hy
     refine acall_of_awp Tryz.func7 Tryz.call7 rfl (by simp[Tryz.ntmps7]) ?_;simp only[Tryz.ntmps7,Tryz.results7]
     repeat' (first|(refine awK fun _ _=>?_)|refine zHg ?_|(fail_if_success with_reducible refine Owe.mk ?_);(simp(disch:=omega) [go_sem]))
     refine stepK_call [13] _ rfl rfl (hs) (by simp) ?_;rintro _ rfl
     repeat' (first|(refine awK fun _ _=>?_)|refine zHg ?_|refine end_ret [] ?_;simp[go_sem,a1,a2,hneg,hx,hx2,hy,m1]|refine dstepK_is rfl (h1) rfl (by simp) ?_|refine dstepK_is rfl (h2) rfl (by simp) ?_|refine dstepK_is rfl (h3) rfl (by simp) ?_|refine stepK_is rfl (h4) (by simp) ?_|refine stepK_is rfl (h5) (by simp) ?_|refine stepK_is rfl (haw) (by simp) ?_|(fail_if_success with_reducible refine Owe.mk ?_);(simp(disch:=omega) [go_sem,a1,a2,hneg,hx,hx2,hy,m1])|refine zDr 12 mix ?_|fail)
    ·refine acall_of_awp Tryz.func7 Tryz.call7 rfl (by simp[Tryz.ntmps7]) ?_;simp only[Tryz.ntmps7,Tryz.results7]
     repeat' (first|(refine awK fun _ _=>?_)|refine zHg ?_|(fail_if_success with_reducible refine Owe.mk ?_);(simp(disch:=omega) [go_sem]))
     refine stepK_call [13] _ rfl rfl (hs) (by simp) ?_;rintro _ rfl
     repeat' (first|(refine awK fun _ _=>?_)|refine zHg ?_|refine end_ret [] ?_;simp[go_sem,a1,a2,hneg,hx,hx2,hy]|refine dstepK_is rfl (h1) rfl (by simp) ?_|refine dstepK_is rfl (h2) rfl (by simp) ?_|refine dstepK_is rfl (h3) rfl (by simp) ?_|refine stepK_is rfl (h4) (by simp) ?_|refine stepK_is rfl (h5) (by simp) ?_|refine stepK_is rfl (haw) (by simp) ?_|(fail_if_success with_reducible refine Owe.mk ?_);(simp(disch:=omega) [go_sem,a1,a2,hneg,hx,hx2,hy])|refine zDr 12 mix ?_|fail)
  ·have hx2:0≤x:=by omega
   by_cases hy2:0≤y
   ·have m2:=m2 hx2 hy2
    refine acall_of_awp Tryz.func7 Tryz.call7 rfl (by simp[Tryz.ntmps7]) ?_;simp only[Tryz.ntmps7,Tryz.results7]
    repeat' (first|(refine awK fun _ _=>?_)|refine zHg ?_|(fail_if_success with_reducible refine Owe.mk ?_);(simp(disch:=omega) [go_sem]))
    refine stepK_call [13] _ rfl rfl (hs) (by simp) ?_;rintro _ rfl
    repeat' (first|(refine awK fun _ _=>?_)|refine zHg ?_|refine end_ret [] ?_;simp[go_sem,a1,a2,hneg,hx,hx2,hy2,m2]|refine dstepK_is rfl (h1) rfl (by simp) ?_|refine dstepK_is rfl (h2) rfl (by simp) ?_|refine dstepK_is rfl (h3) rfl (by simp) ?_|refine stepK_is rfl (h4) (by simp) ?_|refine stepK_is rfl (h5) (by simp) ?_|refine stepK_is rfl (haw) (by simp) ?_|(fail_if_success with_reducible refine Owe.mk ?_);(simp(disch:=omega) [go_sem,a1,a2,hneg,hx,hx2,hy2,m2])|refine zDr 12 mix ?_|fail)
   ·refine acall_of_awp Tryz.func7 Tryz.call7 rfl (by simp[Tryz.ntmps7]) ?_;simp only[Tryz.ntmps7,Tryz.results7]
    repeat' (first|(refine awK fun _ _=>?_)|refine zHg ?_|(fail_if_success with_reducible refine Owe.mk ?_);(simp(disch:=omega) [go_sem]))
    refine stepK_call [13] _ rfl rfl (hs) (by simp) ?_;rintro _ rfl
    repeat' (first|(refine awK fun _ _=>?_)|refine zHg ?_|refine end_ret [] ?_;simp[go_sem,a1,a2,hneg,hx,hx2,hy2]|refine dstepK_is rfl (h1) rfl (by simp) ?_|refine dstepK_is rfl (h2) rfl (by simp) ?_|refine dstepK_is rfl (h3) rfl (by simp) ?_|refine stepK_is rfl (h4) (by simp) ?_|refine stepK_is rfl (h5) (by simp) ?_|refine stepK_is rfl (haw) (by simp) ?_|(fail_if_success with_reducible refine Owe.mk ?_);(simp(disch:=omega) [go_sem,a1,a2,hneg,hx,hx2,hy2])|refine zDr 12 mix ?_|fail)
theorem NormalOrder_ok (a b c:Rl) (ha:okRl a) (hb:okRl b) (hc:okRl c):ACall Tryz.prog 7 [eRl a,eRl b,eRl c] (fun r=>r=bl true):=NormalOrder_of awake_ok a b c ha hb hc
end Go.Proofs.YtkbglbcphjmiiaaGreatDoor
