import Derived.Test.YtkbglbcphjmiiaaGreatDoorS7
set_option linter.unusedSimpArgs false
set_option linter.unusedVariables false
namespace Go.Proofs.YtkbglbcphjmiiaaGreatDoor
open Go.Ab
set_option maxRecDepth 100000
set_option maxHeartbeats 8000000
theorem eqLit_ok (a b:Lt):ACall Tryz.prog 78 [eLt a,eLt b] (fun r=>r=bl (decide (ltC a b=0))):=by
 have h:=cmpLit_ok a b
 generalize ltC a b=c at*
 refine acall_of_awp Tryz.func78 Tryz.call78 rfl (by simp[Tryz.ntmps78]) ?_;simp only[Tryz.ntmps78,Tryz.results78]
 repeat' (first|(refine awK fun _ _=>?_)|refine zHg ?_|refine end_ret [] ?_;simp[go_sem]|refine stepK_is rfl (h) (by simp) ?_|(fail_if_success with_reducible refine Owe.mk ?_);(simp(disch:=omega) [go_sem]))
abbrev zL:AV:= .agg [bl false,.sc (.string ⟨#[]⟩),.list false true []]
abbrev rowZ (D:List Lt) (n:Nat):AObj:=⟨true,false,true,3,D.map eLt++List.replicate n zL,0⟩
def mixL (m:List Lt) (i:Nat):List Lt:=ddQ ltC m i++m.drop (ddQ ltC m i).length
theorem mixL_len {m:List Lt} {i:Nat} (h:i≤m.length):(mixL m i).length=m.length:=by
 have:=ddQ_len (c:=ltC) (l:=m) i
 unfold mixL
 rw[List.length_append,List.length_drop];omega
theorem mixL_get {m:List Lt} {i j:Nat} (h:(ddQ ltC m i).length≤j) (hj:j<m.length):(mixL m i)[j]?=some m[j]:=by
 unfold mixL
 rw[List.getElem?_append_right h,List.getElem?_drop,←List.getElem?_eq_getElem hj]
 congr 1
 omega
theorem mixL_end {m:List Lt} (f:Lt→AV) (z:AV):List.take (ddQ ltC m m.length).length ((mixL m m.length).map f)++(List.replicate (m.length - (ddQ ltC m m.length).length) z++List.drop m.length ((mixL m m.length).map f))=(ddQ ltC m m.length).map f++List.replicate (m.length - (ddQ ltC m m.length).length) z:=by
 have hl:=mixL_len (m:=m) (Nat.le_refl _)
 rw[List.drop_of_length_le (by rw[List.length_map,hl];exact Nat.le_refl _),List.append_nil]
 congr 1
 unfold mixL
 rw[List.map_append,List.take_append_of_le_length (by rw[List.length_map];exact Nat.le_refl _),List.take_of_length_le (by rw[List.length_map];exact Nat.le_refl _)]
theorem ddQ_same {m:List Lt} {i:Nat} (h:i<m.length) (h0:i≠0) (he:ltC m[i] m[i - 1]=0):ddQ ltC m (i+1)=ddQ ltC m i:=by
 have e:=(tot_L.zero _ _).1 he
 rw[ddQ_next h,getD_prev h,if_neg]
 rintro(k|k)
 ·exact h0 k
 ·exact k ((tot_L.zero _ _).2 e.symm)
theorem ddQ_more {m:List Lt} {i:Nat} (h:i<m.length) (he:i=0∨ltC m[i] m[i - 1]≠0):ddQ ltC m (i+1)=ddQ ltC m i++ [m[i]]:=by
 rw[ddQ_next h,getD_prev h,if_pos]
 rcases he with k|k
 ·exact .inl k
 ·refine .inr fun e=>k ?_
  exact(tot_L.zero _ _).2 ((tot_L.zero _ _).1 e).symm
theorem mixL_more {m:List Lt} {i:Nat} (h:i<m.length) (he:ddQ ltC m (i+1)=ddQ ltC m i++ [m[i]]):mixL m (i+1)=(mixL m i).set (ddQ ltC m i).length m[i]:=by
 have hl:=ddQ_len (c:=ltC) (l:=m) i
 unfold mixL
 rw[he,List.length_append,List.set_append_right _ _ (Nat.le_refl _),Nat.sub_self]
 rw[List.drop_eq_getElem_cons (i:=(ddQ ltC m i).length) (by omega),List.set_cons_zero,List.append_assoc]
 rfl
theorem CompactL_ok (m:List Lt) (hl:m.length≤100):
 MCall Tryz.prog 77 [.ref 1000 0 m.length,.clo 78 []] [(1000,rowO eLt 3 0 m)]
  (fun r o'=>r= .ref 1000 0 (ddQ ltC m m.length).length∧o'= [(1000,rowZ (ddQ ltC m m.length) (m.length - (ddQ ltC m m.length).length))]):=by
 by_cases h2:m.length<2
 ·have e:ddQ ltC m m.length=m:=by
   rcases m with _|⟨a,_|⟨b,r⟩⟩
   ·rfl
   ·rfl
   ·simp at h2;omega
  rw[e]
  have h2':(m.length:Int)<2:=by omega
  simp only[Nat.sub_self,rowZ,List.replicate_zero,List.append_nil]
  refine mcall_of_awpL Tryz.func77 Tryz.call77 rfl (by simp[Tryz.ntmps77]) ?_;simp only[Tryz.ntmps77,Tryz.results77]
  repeat' (first|(refine awK fun _ _=>?_)|refine zHg ?_|(fail_if_success with_reducible refine Owe.mk ?_);(simp(disch:=omega) [go_sem,h2']))
  refine endL_ret ⟨66,[(4,.ref 1000 0 m.length)],[(1000,rowO eLt 3 0 m)]⟩ [.ref 1000 0 m.length] (Le.renSub [] [] (by simp[go_sem]) (by simp[go_sem]) (Le.sub4 rfl (by simp[go_sem]))) (by simp[go_sem]) ⟨rfl,rfl⟩
 ·have h2': ¬(m.length:Int)<2:=by omega
  generalize hD:ddQ ltC m m.length=D
  refine mcall_of_awpL Tryz.func77 Tryz.call77 rfl (by simp[Tryz.ntmps77]) ?_;simp only[Tryz.ntmps77,Tryz.results77]
  repeat' (first|(refine awK fun _ _=>?_)|refine zHg ?_|(fail_if_success with_reducible refine Owe.mk ?_);(simp(disch:=omega) [go_sem,h2']))
  refine awp_for [0,1] [1000] (fun k:Nat=> [(5,nt .i64 k)]) (fun k:Nat=> [(1000,rowO eLt 3 0 m)]) (fun k:Nat=>m.length - k) (fun k:Nat=>1≤k∧k≤m.length∧ddQ ltC m k=m.take k) (1) (Le.sub4 rfl (by simp[go_sem])) ⟨?_⟩ ?_
  ·refine⟨Nat.le_refl _,by omega,?_⟩
   rcases m with _|⟨a,r⟩
   ·simp at h2
   ·rfl
  intro k ⟨hk1,hk2,hk3⟩ AA hAA;simp only[kL,Nat.reduceBEq,Nat.reduceEqDiff,if_true,if_false,List.cons_append,List.nil_append,List.append_nil]
  by_cases hlt:k<m.length
  ·obtain⟨j,rfl⟩: ∃j,k=j+1:=⟨k - 1,by omega⟩
   have hj:j<m.length:=by omega
   have hu:=eqLit_ok m[j+1] m[j]
   by_cases hz:ltC m[j+1] m[j]=0
   ·rw[decide_eq_true hz]at hu
    have hs0:=ddQ_same hlt (by omega) hz
    have hr0:mixL m (j+1+1)=m:=by
     unfold mixL
     rw[hs0,hk3,List.length_take,Nat.min_eq_left (by omega),List.take_append_drop]
    have hd0:(ddQ ltC m (j+1+1)).length=j+1:=by rw[hs0,hk3,List.length_take];omega
    repeat' (first|(refine awK fun _ _=>?_)|refine zHg ?_|refine zqd ?_ ?_<;>(intro h;first|(exfalso;omega)|(simp only[h,zT]))|refine dstepK_is rfl (hu) rfl (by simp) ?_|(fail_if_success with_reducible refine Owe.mk ?_);(simp(disch:=omega) [go_sem,hlt,hj])|refine zAo ?_|refine zDr 11 mix ?_)
    refine awp_for [0,1,6] [1000] (fun i:Nat=> [(5,nt .i64 (ddQ ltC m (j+1+i)).length),(7,nt .i64 i)]) (fun i:Nat=> [(1000,rowO eLt 3 0 (mixL m (j+1+i)))]) (fun i:Nat=>m.length - i) (fun i:Nat=>1≤i∧j+1+i≤m.length∧1≤(ddQ ltC m (j+1+i)).length∧(ddQ ltC m (j+1+i)).length+1≤j+1+i) (1) (Le.sub4 rfl (by simp[go_sem,hr0,hd0])) ⟨?_⟩ ?_
    ·exact⟨Nat.le_refl _,by omega,by omega,by omega⟩
    clear hs0 hr0 hd0 hu hz hk3
    intro i ⟨hi1,hi2,hi3,hi4⟩ AA hAA;simp only[kL,Nat.reduceBEq,Nat.reduceEqDiff,if_true,if_false,List.cons_append,List.nil_append,List.append_nil]
    have hml:=mixL_len (m:=m) (i:=j+1+i) hi2
    by_cases hil:j+1+i<m.length
    ·obtain⟨q,rfl⟩: ∃q,i=q+1:=⟨i - 1,by omega⟩
     have g1:=mixL_get (m:=m) (i:=j+1+(q+1)) (j:=j+1+(q+1)) (by omega) hil
     have g2:=mixL_get (m:=m) (i:=j+1+(q+1)) (j:=j+1+q) (by omega) (by omega)
     have hu:=eqLit_ok m[j+1+(q+1)] m[j+1+q]
     have hix:((q+1:Nat):Int)<((m.length - (j+1):Nat):Int):=by omega
     have e0:j+1+(q+1+1)=j+1+(q+1)+1:=by omega
     by_cases hz:ltC m[j+1+(q+1)] m[j+1+q]=0
     ·rw[decide_eq_true hz]at hu
      have hs0:=ddQ_same (m:=m) (i:=j+1+(q+1)) hil (by omega) hz
      have hs1:mixL m (j+1+(q+1)+1)=mixL m (j+1+(q+1)):=by unfold mixL;rw[hs0]
      rw[←e0]at hs0 hs1
      have hs2:=congrArg List.length hs0
      obtain⟨R,hR⟩: ∃R,mixL m (j+1+(q+1))=R:=⟨_,rfl⟩
      obtain⟨E,hE⟩: ∃E,(ddQ ltC m (j+1+(q+1))).length=E:=⟨_,rfl⟩
      rw[hR]at g1 g2 hs1 hml ⊢
      rw[hE]at hi3 hi4 hs2 ⊢
      have b1:j+1+(q+1)<R.length:=by omega
      have b2:j+1+q<R.length:=by omega
      rw[List.getElem?_eq_getElem b1]at g1
      rw[List.getElem?_eq_getElem b2]at g2
      rw[←Option.some.inj g1,←Option.some.inj g2]at hu
      clear g1 g2 hz hs0
      repeat' (first|(refine awK fun _ _=>?_)|refine zHg ?_|refine zqd ?_ ?_<;>(intro h;first|(exfalso;omega)|(simp only[h,zT]))|refine dstepK_is rfl (hu) rfl (by simp) ?_|refine(hAA.next (q+1+1) (Le.sub4 rfl (by simp[go_sem,hs1,hs2])) (by(try dsimp only);omega) ?_)|(fail_if_success with_reducible refine Owe.mk ?_);(simp(disch:=omega) [go_sem,hix,b1,b2])|refine zAo ?_|refine zDr 11 mix ?_)
      all_goals(first|omega|skip)
      all_goals exact⟨by omega,by omega,by omega,by omega⟩
     ·rw[decide_eq_false hz]at hu
      have hs0:=ddQ_more (m:=m) (i:=j+1+(q+1)) hil (.inr hz)
      have hs1:=mixL_more hil hs0
      rw[←e0]at hs0 hs1
      have hs2:=congrArg List.length hs0
      rw[List.length_append,List.length_singleton]at hs2
      obtain⟨R,hR⟩: ∃R,mixL m (j+1+(q+1))=R:=⟨_,rfl⟩
      obtain⟨E,hE⟩: ∃E,(ddQ ltC m (j+1+(q+1))).length=E:=⟨_,rfl⟩
      rw[hR,hE]at hs1
      rw[hR]at g1 g2 hml ⊢
      rw[hE]at hi3 hi4 hs2 ⊢
      have b1:j+1+(q+1)<R.length:=by omega
      have b2:j+1+q<R.length:=by omega
      rw[List.getElem?_eq_getElem b1]at g1
      rw[List.getElem?_eq_getElem b2]at g2
      rw[←Option.some.inj g1]at hs1
      rw[←Option.some.inj g1,←Option.some.inj g2]at hu
      clear g1 g2 hz hs0
      repeat' (first|(refine awK fun _ _=>?_)|refine zHg ?_|refine zqd ?_ ?_<;>(intro h;first|(exfalso;omega)|(simp only[h,zT]))|refine dstepK_is rfl (hu) rfl (by simp) ?_|refine(hAA.next (q+1+1) (Le.sub4 rfl (by simp[go_sem,hs1,hs2,set_eLt])) (by(try dsimp only);omega) ?_)|(fail_if_success with_reducible refine Owe.mk ?_);(simp(disch:=omega) [go_sem,hix,b1,b2])|refine zAo ?_|refine zDr 11 mix ?_)
      all_goals(first|omega|skip)
      all_goals exact⟨by omega,by omega,by omega,by omega⟩
    ·have hi0:j+1+i=m.length:=by omega
     have hix: ¬((i:Nat):Int)<((m.length - (j+1):Nat):Int):=by omega
     have hse:=mixL_end (m:=m) eLt zL
     rw[hi0]at hml hi3 hi4 ⊢
     have hEl:=ddQ_len (c:=ltC) (l:=m) m.length
     rw[hD]at*
     dsimp only[zL,bl]at hse
     repeat' (first|(refine awK fun _ _=>?_)|refine zHg ?_|(fail_if_success with_reducible refine Owe.mk ?_);(simp(disch:=omega) [go_sem,hix,hse])|refine zAo ?_)
     refine endL_ret ⟨66,[(4,.ref 1000 0 D.length)],[(1000,rowZ D (m.length - D.length))]⟩ [.ref 1000 0 D.length] (Le.renSub [] [] (by simp[go_sem,rowZ,zL,hse]) (by simp[go_sem,rowZ,zL,hse]) (Le.sub4 rfl (by simp[go_sem,rowZ,zL,hse]))) (by simp[go_sem,rowZ,zL,hse]) ⟨rfl,rfl⟩
   ·rw[decide_eq_false hz]at hu
    have hs0:=ddQ_more hlt (.inr hz)
    rw[hk3]at hs0
    repeat' (first|(refine awK fun _ _=>?_)|refine zHg ?_|refine zqd ?_ ?_<;>(intro h;first|(exfalso;omega)|(simp only[h,zT]))|refine dstepK_is rfl (hu) rfl (by simp) ?_|refine(hAA.next (j+1+1) (Le.sub4 rfl (by simp[go_sem])) (by(try dsimp only);omega) ?_)|(fail_if_success with_reducible refine Owe.mk ?_);(simp(disch:=omega) [go_sem,hlt,hj])|refine zAo ?_|refine zDr 11 mix ?_)
    all_goals(first|omega|skip)
    exact⟨by omega,hlt,by rw[hs0,take_next hlt]⟩
  ·obtain rfl:k=m.length:=by omega
   rw[hD,List.take_length]at hk3
   subst hk3
   repeat' (first|(refine awK fun _ _=>?_)|refine zHg ?_|(fail_if_success with_reducible refine Owe.mk ?_);(simp(disch:=omega) [go_sem]))
   refine endL_ret ⟨66,[(4,.ref 1000 0 D.length)],[(1000,rowZ D 0)]⟩ [.ref 1000 0 D.length] (Le.renSub [] [] (by simp[go_sem,rowZ,Nat.sub_self,List.replicate_zero,List.append_nil]) (by simp[go_sem,rowZ,Nat.sub_self,List.replicate_zero,List.append_nil]) (Le.sub4 rfl (by simp[go_sem,rowZ,Nat.sub_self,List.replicate_zero,List.append_nil]))) (by simp[go_sem,rowZ,Nat.sub_self,List.replicate_zero,List.append_nil]) ⟨rfl,rfl⟩
theorem sorted0_ok (h:Tm):ACall Tryz.prog 39 [eRl ⟨h,[]⟩] (fun r=>r=eRl ⟨h,[]⟩):=by
 have hb:=bitsLen_ok 0 (by decide)
 have hi:ACall Tryz.prog 151 [.list false false [],nt .i64 (0:Nat),nt .i64 (0:Nat),.clo 30 []] (fun r=>r= .tup []):=by
  refine acall_of_awp Tryz.func151 Tryz.call151 rfl (by simp[Tryz.ntmps151]) ?_;simp only[Tryz.ntmps151,Tryz.results151]
  repeat' (first|(refine awK fun _ _=>?_)|refine zHg ?_|(fail_if_success with_reducible refine Owe.mk ?_);(simp(disch:=omega) [go_sem]))
  refine awp_for [0,1,2,3] [] (fun u:Nat=> [(8,nt .i64 1)]) (fun u:Nat=> []) (fun u:Nat=>0) (fun u:Nat=>u=0) (0) (Le.sub4 rfl (by simp[go_sem])) ⟨?_⟩ ?_
  ·rfl
  intro u hu AA hAA;simp only[kL,Nat.reduceBEq,Nat.reduceEqDiff,if_true,if_false,List.cons_append,List.nil_append,List.append_nil]
  repeat' (first|(refine awK fun _ _=>?_)|refine zHg ?_|refine end_ret [] ?_;simp[go_sem]|(fail_if_success with_reducible refine Owe.mk ?_);(simp(disch:=omega) [go_sem]))
 have hp:ACall Tryz.prog 121 [.list false false [],nt .i64 (0:Nat),nt .i64 (0:Nat),nt .i64 (0:Nat),.clo 30 []] (fun r=>r= .tup []):=by
  refine acall_of_awp Tryz.func121 Tryz.call121 rfl (by simp[Tryz.ntmps121]) ?_;simp only[Tryz.ntmps121,Tryz.results121]
  repeat' (first|(refine awK fun _ _=>?_)|refine zHg ?_|(fail_if_success with_reducible refine Owe.mk ?_);(simp(disch:=omega) [go_sem]))
  refine awp_for [0,4] [] (fun u:Nat=> [(1,nt .i64 (0:Nat)),(2,nt .i64 (0:Nat)),(3,nt .i64 (0:Nat)),(10,bl true),(11,bl true)]) (fun u:Nat=> []) (fun u:Nat=>0) (fun u:Nat=>u=0) (0) (Le.sub4 rfl (by simp[go_sem])) ⟨?_⟩ ?_
  ·rfl
  intro u hu AA hAA;simp only[kL,Nat.reduceBEq,Nat.reduceEqDiff,if_true,if_false,List.cons_append,List.nil_append,List.append_nil]
  repeat' (first|(refine awK fun _ _=>?_)|refine zHg ?_|refine end_ret [] ?_;simp[go_sem]|refine stepK_is rfl (hi) (by simp) ?_|(fail_if_success with_reducible refine Owe.mk ?_);(simp(disch:=omega) [go_sem]))
 have hs:ACall Tryz.prog 76 [.list false false [],.clo 30 []] (fun r=>r= .tup []):=by
  refine acall_of_awp Tryz.func76 Tryz.call76 rfl (by simp[Tryz.ntmps76]) ?_;simp only[Tryz.ntmps76,Tryz.results76]
  repeat' (first|(refine awK fun _ _=>?_)|refine zHg ?_|refine end_ret [] ?_;simp[go_sem]|refine stepK_is rfl (hb) (by simp) ?_|refine stepK_is rfl (hp) (by simp) ?_|(fail_if_success with_reducible refine Owe.mk ?_);(simp(disch:=omega) [go_sem]))
 have hc:ACall Tryz.prog 77 [.list false false [],.clo 78 []] (fun r=>r= .list false false []):=by
  refine acall_of_awp Tryz.func77 Tryz.call77 rfl (by simp[Tryz.ntmps77]) ?_;simp only[Tryz.ntmps77,Tryz.results77]
  repeat' (first|(refine awK fun _ _=>?_)|refine zHg ?_|refine end_ret [] ?_;simp[go_sem]|(fail_if_success with_reducible refine Owe.mk ?_);(simp(disch:=omega) [go_sem]))
 refine acall_of_awp Tryz.func39 Tryz.call39 rfl (by simp[Tryz.ntmps39]) ?_;simp only[Tryz.ntmps39,Tryz.results39]
 repeat' (first|(refine awK fun _ _=>?_)|refine zHg ?_|refine end_ret [] ?_;simp[go_sem]|refine stepK_is rfl (hs) (by simp) ?_|refine stepK_is rfl (hc) (by simp) ?_|(fail_if_success with_reducible refine Owe.mk ?_);(simp(disch:=omega) [go_sem]))
theorem sorted1_ok (h:Tm) (m:List Lt) (hl:m.length≤12):MCall Tryz.prog 39 [.agg [.sc (.string h.name),.list false false (h.args.map eTm),.ref 1000 0 m.length]] [(1000,rowO eLt 3 0 m)]
 (fun r o'=>r= .agg [.sc (.string h.name),.list false false (h.args.map eTm),.ref 1000 0 (srtG ltC m).length]∧o'= [(1000,rowZ (srtG ltC m) (m.length - (srtG ltC m).length))]):=by
 have hs:=SortL_ok 30 ltC tot_L.pre m hl (fun x _ y _=>cmpLit_ok x y)
 refine MCall.le (R:=fun r o'=>r= .agg [.sc (.string h.name),.list false false (h.args.map eTm),.ref 1000 0 (srtG ltC m).length]∧o'=(2,⟨false,false,false,3,[.agg [.sc (.string h.name),.list false false (h.args.map eTm),.ref 1000 0 (srtG ltC m).length]],0⟩):: [(1000,rowZ (srtG ltC m) (m.length - (srtG ltC m).length))]) ?_ (fun r o' ⟨e1,e2⟩=>⟨r,_,?_,e1,rfl⟩)
 ·refine mcall_of_awpL Tryz.func39 Tryz.call39 rfl (by simp[Tryz.ntmps39]) ?_;simp only[Tryz.ntmps39,Tryz.results39]
  repeat' (first|(refine awK fun _ _=>?_)|refine zHg ?_|(fail_if_success with_reducible refine Owe.mk ?_);(simp(disch:=omega) [go_sem]))
  refine stepK_fex [] [] 10000 _ _ (Fits.mk' (by simp[go_sem]) (by simp[go_sem])) (by simp[go_sem]) (by simp[go_sem]) (hs) (by simp[go_sem]) (by intros;simp[go_sem]) ?_;intro m2 hm2
  have hml:=hm2.1.length_eq
  have hdd:=ddQ_sort tot_L hm2.1 (List.pairwise_iff_getElem.2 fun i j hi hj hij=>hm2.2 i j _ _ (Nat.zero_le _) hij (by omega) (List.getElem?_eq_getElem hi) (List.getElem?_eq_getElem hj))
  have hc:=CompactL_ok m2 (by omega)
  rw[hdd,hml]at hc
  generalize srtG ltC m=D at*
  repeat' (first|(refine awK fun _ _=>?_)|refine zHg ?_|(fail_if_success with_reducible refine Owe.mk ?_);(simp(disch:=omega) [go_sem]))
  refine stepK_fis [] [] 10000 _ _ (Fits.mk' (by simp[go_sem]) (by simp[go_sem])) (by simp[go_sem]) (by simp[go_sem]) (hc) (by simp[go_sem]) (by simp[go_sem]) ?_
  repeat' (first|(refine awK fun _ _=>?_)|refine zHg ?_|(fail_if_success with_reducible refine Owe.mk ?_);(simp(disch:=omega) [go_sem]))
  refine endL_ret ⟨11,[(2,.ptr 2 0 0)],(2,⟨false,false,false,3,[.agg [.sc (.string h.name),.list false false (h.args.map eTm),.ref 1000 0 D.length]],0⟩):: [(1000,rowZ D (m.length - D.length))]⟩ [.agg [.sc (.string h.name),.list false false (h.args.map eTm),.ref 1000 0 D.length]] (Le.renSub [] [] (by simp[go_sem]) (by simp[go_sem]) (Le.sub4 rfl (by simp[go_sem]))) (by simp[go_sem]) ⟨rfl,rfl⟩
 ·subst e1 e2
  refine Le.sub rfl (by simp[go_sem]) (by simp[go_sem]) (by simp[go_sem]) (by simp[go_sem])
end Go.Proofs.YtkbglbcphjmiiaaGreatDoor
