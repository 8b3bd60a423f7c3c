import Derived.Test.YtkbglbcphjmiiaaGreatDoorS3
import Derived.Test.YtkbglbcphjmiiaaGreatDoorS5
import Derived.Test.YtkbglbcphjmiiaaGreatDoorS10
import Derived.Test.YtkbglbcphjmiiaaGreatDoorS12
import Derived.Test.YtkbglbcphjmiiaaGreatDoorS13
import Derived.Test.YtkbglbcphjmiiaaGreatDoorS15
set_option linter.unusedSimpArgs false
set_option linter.unusedVariables false
namespace Go.Proofs.YtkbglbcphjmiiaaGreatDoor
open Go.Ab
section
variable {α : Type} {c : α → α → Int}
theorem srtG_self (h:Tot c) {a:List α} (ha:AscG c a):srtG c a=a:=
 ascG_uniq h (srtG_asc h a) ha (srtG_mem h a)
end
open Go.Ab
set_option maxRecDepth 100000
theorem rls_twice {l:List Rl} (h:rlsE l=0):rlsE (rlsR l)=0∧rlsR (rlsR l)=rlsR l:=by
 unfold rlsE at h
 split at h
 ·omega
 ·rename_i hl
  have h1:=rlsX_zero.1 h
  have hm: ∀x∈rlsR l,nrmE x=0∧nrmB x=x:=by
   intro x hx
   obtain⟨r,hr,rfl⟩:=List.mem_map.1 ((srtG_mem tot_R _ _).1 hx)
   exact nrm_twice (h1 r hr)
  have hlen:=srtG_len (c:=rlC) (l.map nrmB)
  rw[List.length_map]at hlen
  have hlen':(rlsR l).length≤l.length:=hlen
  refine⟨?_,?_⟩
  ·unfold rlsE
   rw[if_neg (by omega)]
   exact rlsX_zero.2 fun x hx=>(hm x hx).1
  ·have e:(rlsR l).map nrmB=rlsR l:=by
    conv=>rhs;rw[←List.map_id (rlsR l)]
    exact List.map_congr_left fun x hx=>(hm x hx).2
   show srtG rlC ((rlsR l).map nrmB)=rlsR l
   rw[e]
   exact srtG_self tot_R (srtG_asc tot_R _)
open Go.RowKit
set_option maxHeartbeats 8000000
theorem rls_len {l:List Rl}:(rlsR l).length≤l.length:=by
 have:=srtG_len (c:=rlC) (l.map nrmB)
 rw[List.length_map]at this
 exact this
theorem NormalTwice_of (haw:ACall Tryz.prog 11 [] (fun r=>r=bl true)) (l:List Rl) (ha:(∀r∈l,okRl r)∧l.length≤maxRow):
 ACall Tryz.prog 5 [.list false false (l.map eRl)] (fun r=>r=bl true):=by
 have s1:=smallsD_ok l false ha.1 ha.2
 cases q1:smallRs 12 l
 ·rw[q1]at s1
  refine acall_of_awp Tryz.func5 Tryz.call5 rfl (by simp[Tryz.ntmps5]) ?_;simp only[Tryz.ntmps5,Tryz.results5]
  repeat' (first|(refine awK fun _ _=>?_)|refine zHg ?_|refine end_ret [] ?_;simp[go_sem]|refine stepK_is rfl (s1) (by simp) ?_|refine stepK_is rfl (haw) (by simp) ?_|(fail_if_success with_reducible refine Owe.mk ?_);(simp(disch:=omega) [go_sem]))
 ·have zl:=sz_of q1
  have ll:=len_of q1
  rw[q1]at s1
  have h1:=Rules_ok l false false (by omega) (out_len ll) zl
  have h2:=fun le fu=>Rules_ok (rlsR l) le fu (by have:=rls_len (l:=l);omega) (out_len (by have:=rls_len (l:=l);omega)) (sz_rls zl)
  have h2:=h2 true false
  have htw:=fun h=>rls_twice (l:=l) h
  have hz: ∀x∈rlsR l,x.body.length≤1000000:=fun x hx=>by
   have:=(sz_rls zl x hx).body
   omega
  have h5:=plainRules_ok (rlsR l) (rlsR l) true false true false hz
  rw[decide_eq_true rfl]at h5
  unfold rlsV at h1 h2
  refine acall_of_awp Tryz.func5 Tryz.call5 rfl (by simp[Tryz.ntmps5]) ?_;simp only[Tryz.ntmps5,Tryz.results5]
  repeat' (first|(refine awK fun _ _=>?_)|refine zHg ?_|refine stepK_is rfl (s1) (by simp) ?_|(fail_if_success with_reducible refine Owe.mk ?_);(simp(disch:=omega) [go_sem]))
  refine awp_for [0] [] (fun i:Nat=> [(3,nt .i64 i)]) (fun i:Nat=> []) (fun i:Nat=>l.length - i) (fun i:Nat=>i≤l.length) (0) (Le.sub4 rfl (by simp[go_sem])) ⟨?_⟩ ?_
  ·exact Nat.zero_le _
  intro i hi AA hAA;simp only[kL,Nat.reduceBEq,Nat.reduceEqDiff,if_true,if_false,List.cons_append,List.nil_append,List.append_nil]
  by_cases hlt:i<l.length
  ·have hzi:=zl _ (List.getElem_mem hlt)
   have h3:=Rule_ok l[i] hzi
   clear h1 h2 h5 htw s1
   by_cases he:nrmE l[i]=0
   ·obtain⟨e1,e2⟩:=nrm_twice he
    have h4:=Rule_ok (nrmB l[i]) (sz_nrm hzi)
    have hr1:nrmR l[i]=nrmB l[i]:=by unfold nrmR;rw[if_pos he]
    have hr2:nrmR (nrmB l[i])=nrmB l[i]:=by unfold nrmR;rw[if_pos e1,e2]
    have h6:=plainRule_ok (nrmB l[i]) (nrmB l[i]) (by have:=(sz_nrm hzi).body;omega)
    rw[decide_eq_true rfl]at h6
    rw[hr1,he]at h3
    rw[hr2,e1]at h4
    clear e1 e2 hr1 hr2
    generalize nrmB l[i]=x at*
    repeat' (first|(refine awK fun _ _=>?_)|refine zHg ?_|refine stepK_is rfl (h3) (by simp) ?_|refine stepK_is rfl (h4) (by simp) ?_|refine stepK_is rfl (h6) (by simp) ?_|refine(hAA.next (i+1) (Le.sub4 rfl (by simp[go_sem])) (by(try dsimp only);omega) ?_)|(fail_if_success with_reducible refine Owe.mk ?_);(simp(disch:=omega) [go_sem,hlt]))
    all_goals(first|omega|skip)
    all_goals exact⟨hlt⟩
   ·have hr1:nrmR l[i]=zR:=by unfold nrmR;rw[if_neg he]
    rw[hr1]at h3
    clear hr1
    generalize nrmE l[i]=f at*
    repeat' (first|(refine awK fun _ _=>?_)|refine zHg ?_|refine stepK_is rfl (h3) (by simp) ?_|refine(hAA.next (i+1) (Le.sub4 rfl (by simp[go_sem])) (by(try dsimp only);omega) ?_)|(fail_if_success with_reducible refine Owe.mk ?_);(simp(disch:=omega) [go_sem,hlt,he]))
    all_goals(first|omega|skip)
    all_goals exact⟨hlt⟩
  ·obtain rfl:i=l.length:=by omega
   have hlenT:True:=trivial
   clear s1
   by_cases hf:rlsE l=0
   ·obtain⟨t1,t2⟩:=htw hf
    rw[hf,if_pos rfl]at h1
    rw[t1,if_pos rfl,t2]at h2
    clear htw t1 t2 hf
    generalize rlsR l=x at*
    repeat' (first|(refine awK fun _ _=>?_)|refine zHg ?_|refine end_ret [] ?_;simp[go_sem,hlenT]|refine stepK_is rfl (h1) (by simp) ?_|refine stepK_is rfl (haw) (by simp) ?_|refine stepK_is ?hl (h2) (by simp) ?_;(case hl=>(simp[go_sem,hlenT];done))|refine stepK_is ?hl (h5) (by simp) ?_;(case hl=>(simp[go_sem,hlenT];done))|(fail_if_success with_reducible refine Owe.mk ?_);(simp(disch:=omega) [go_sem,hlenT]))
   ·rw[if_neg hf]at h1
    clear h2 h5 htw
    generalize rlsE l=f at*
    repeat' (first|(refine awK fun _ _=>?_)|refine zHg ?_|refine end_ret [] ?_;simp[go_sem,hf]|refine stepK_is rfl (h1) (by simp) ?_|refine stepK_is rfl (haw) (by simp) ?_|(fail_if_success with_reducible refine Owe.mk ?_);(simp(disch:=omega) [go_sem,hf]))
theorem NormalTwice_ok (l:List Rl) (h:(∀r∈l,okRl r)∧l.length≤maxRow):ACall Tryz.prog 5 [.list false false (l.map eRl)] (fun r=>r=bl true):=NormalTwice_of awake_ok l h
end Go.Proofs.YtkbglbcphjmiiaaGreatDoor
