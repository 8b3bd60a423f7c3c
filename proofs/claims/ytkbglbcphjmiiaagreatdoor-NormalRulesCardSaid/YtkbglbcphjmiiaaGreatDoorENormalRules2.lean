import Derived.Test.YtkbglbcphjmiiaaGreatDoorS6
import Derived.Test.YtkbglbcphjmiiaaGreatDoorENormalRules1
import Derived.Test.YtkbglbcphjmiiaaGreatDoorS10
set_option linter.unusedSimpArgs false
set_option linter.unusedVariables false
namespace Go.Proofs.YtkbglbcphjmiiaaGreatDoor
open Go.Ab
set_option maxRecDepth 100000
set_option maxHeartbeats 8000000
theorem ref7Lookup_ok (s:List Bd) (v:ByteArray) (le fu:Bool):ACall Tryz.prog 128 [.list le fu (s.map eBd),.sc (.string v)] (fun r=>r= .tup [eT (lkT s v).1,bl (lkT s v).2]):=by
 refine ACall.bound (i:=0) rfl Tryz.call128 fun hb=>?_
 rw[List.length_map]at hb
 have hb:s.length≤140737488355328:=hb
 have hx: ∃x:AV,x.pure=true∧ACall Tryz.prog 128 [.list le fu (s.map eBd),.sc (.string v)] (fun r=>r= .tup [x,bl (lkT s v).2])∧eT (lkT s v).1=Ab.loose x:=by
  cases hq:lookB s v with
  |some t=>
   have e:lkT s v=(t,true):=by unfold lkT;rw[hq]
   rw[e]
   refine⟨eT t,rfl,?_,rfl⟩
   dsimp only
   refine acall_of_awp Tryz.func128 Tryz.call128 rfl (by simp[Tryz.ntmps128]) ?_;simp only[Tryz.ntmps128,Tryz.results128]
   repeat' (first|(refine awK fun _ _=>?_)|refine zHg ?_|(fail_if_success with_reducible refine Owe.mk ?_);(simp(disch:=omega) [go_sem]))
   refine awp_for [0,1,4] [4] (fun i:Nat=> [(6,nt .i64 i)]) (fun i:Nat=>(4,⟨false,false,false,2,[.agg [.sc (.string ⟨#[]⟩),.list false true []]],0⟩):: []) (fun i:Nat=>s.length - i) (fun i:Nat=>i≤s.length∧ ∀(k:Nat) (hk:k<s.length),k<i→ ¬s[k].v=v) (0) (Le.sub4 rfl (by simp[go_sem])) ⟨?_⟩ ?_
   ·exact⟨Nat.zero_le _,fun k _ hk=>absurd hk (Nat.not_lt_zero _)⟩
   intro i ⟨hi,hn⟩ AA hAA;simp only[kL,Nat.reduceBEq,Nat.reduceEqDiff,if_true,if_false,List.cons_append,List.nil_append,List.append_nil]
   by_cases hlt:i<s.length
   ·by_cases hv:s[i].v=v
    ·rw[lookB_at hlt hv hn]at hq
     obtain rfl:=Option.some.inj hq
     repeat' (first|(refine awK fun _ _=>?_)|refine zHg ?_|refine end_ret [] ?_;simp[go_sem,hlt,hv]|(fail_if_success with_reducible refine Owe.mk ?_);(simp(disch:=omega) [go_sem,hlt,hv]))
    ·repeat' (first|(refine awK fun _ _=>?_)|refine zHg ?_|refine(hAA.next (i+1) (Le.sub4 rfl (by simp[go_sem])) (by(try dsimp only);omega) ?_)|(fail_if_success with_reducible refine Owe.mk ?_);(simp(disch:=omega) [go_sem,hlt,hv]))
     all_goals(first|omega|skip)
     exact⟨hlt,fun k hk hki=>by rcases Nat.lt_or_eq_of_le (Nat.le_of_lt_succ hki)with h|rfl;exact hn k hk h;exact hv⟩
   ·obtain rfl:i=s.length:=by omega
    rw[lookB_none hn]at hq
    cases hq
  |none=>
   have e:lkT s v=(.mk ⟨#[]⟩ [],false):=by unfold lkT;rw[hq]
   rw[e]
   refine⟨.agg [.sc (.string ⟨#[]⟩),.list false true []],rfl,?_,rfl⟩
   dsimp only
   refine acall_of_awp Tryz.func128 Tryz.call128 rfl (by simp[Tryz.ntmps128]) ?_;simp only[Tryz.ntmps128,Tryz.results128]
   repeat' (first|(refine awK fun _ _=>?_)|refine zHg ?_|(fail_if_success with_reducible refine Owe.mk ?_);(simp(disch:=omega) [go_sem]))
   refine awp_for [0,1,4] [4] (fun i:Nat=> [(6,nt .i64 i)]) (fun i:Nat=>(4,⟨false,false,false,2,[.agg [.sc (.string ⟨#[]⟩),.list false true []]],0⟩):: []) (fun i:Nat=>s.length - i) (fun i:Nat=>i≤s.length) (0) (Le.sub4 rfl (by simp[go_sem])) ⟨?_⟩ ?_
   ·exact Nat.zero_le _
   intro i hi AA hAA;simp only[kL,Nat.reduceBEq,Nat.reduceEqDiff,if_true,if_false,List.cons_append,List.nil_append,List.append_nil]
   by_cases hlt:i<s.length
   ·have hv: ¬s[i].v=v:=fun h=>by
     unfold lookB at hq
     rw[Option.map_eq_none_iff,List.find?_eq_none]at hq
     exact hq _ (List.getElem_mem hlt) (by simp[h])
    repeat' (first|(refine awK fun _ _=>?_)|refine zHg ?_|refine(hAA.next (i+1) (Le.sub4 rfl (by simp[go_sem])) (by(try dsimp only);omega) ?_)|(fail_if_success with_reducible refine Owe.mk ?_);(simp(disch:=omega) [go_sem,hlt,hv]))
    all_goals(first|omega|skip)
    exact⟨hlt⟩
   ·obtain rfl:i=s.length:=by omega
    repeat' (first|(refine awK fun _ _=>?_)|refine zHg ?_|refine end_ret [] ?_;simp[go_sem]|(fail_if_success with_reducible refine Owe.mk ?_);(simp(disch:=omega) [go_sem]))
 obtain⟨x,h1,h2,h3⟩:=hx
 rw[h3]
 exact ACall.looseT h1 h2
theorem ref7Apply_ok (s:List Bd) (le fu:Bool): ∀t:Tm,t.size≤1000000→ACall Tryz.prog 84 [.list le fu (s.map eBd),eT t] (fun r=>r=eT (apT s t)):=by
 refine tm_ind fun t ih hsz=>?_
 obtain⟨n,ts⟩:=t
 simp only[args_mk]at ih
 rw[size_eq,args_mk]at hsz
 have hlen:=length_le_sizeL ts
 have ih': ∀(i:Nat) (h:i<ts.length),ACall Tryz.prog 84 [.list le fu (s.map eBd),eT ts[i]] (fun r=>r=eT (apT s ts[i])):=fun i h=>ih _ (List.getElem_mem h) (by have:=size_get h;omega)
 clear ih
 have hv:=ref7Variable_ok n ts
 have hb:=ref7Lookup_ok s n le fu
 rw[apT_mk]
 by_cases hvar:ts.length=0∧varS n=true
 ·rw[if_pos hvar]
  rw[decide_eq_true hvar]at hv
  obtain rfl:=List.eq_nil_of_length_eq_zero hvar.1
  unfold lkT at hb
  cases hq:lookB s n with
  |some t=>
   rw[hq]at hb
   dsimp only at hb
   show ACall _ _ _ (fun r=>r=eT t)
   clear ih' hlen hsz hvar hq
   refine acall_of_awp Tryz.func84 Tryz.call84 rfl (by simp[Tryz.ntmps84]) ?_;simp only[Tryz.ntmps84,Tryz.results84]
   repeat' (first|(refine awK fun _ _=>?_)|refine zHg ?_|refine end_ret [] ?_;simp[go_sem]|refine stepK_is rfl (hv) (by simp) ?_|refine stepK_is rfl (hb) (by simp) ?_|(fail_if_success with_reducible refine Owe.mk ?_);(simp(disch:=omega) [go_sem]))
  |none=>
   rw[hq]at hb
   dsimp only at hb
   show ACall _ _ _ (fun r=>r=eT (.mk n []))
   clear ih' hlen hsz hvar hq
   refine acall_of_awp Tryz.func84 Tryz.call84 rfl (by simp[Tryz.ntmps84]) ?_;simp only[Tryz.ntmps84,Tryz.results84]
   repeat' (first|(refine awK fun _ _=>?_)|refine zHg ?_|refine end_ret [] ?_;simp[go_sem]|refine stepK_is rfl (hv) (by simp) ?_|refine stepK_is rfl (hb) (by simp) ?_|(fail_if_success with_reducible refine Owe.mk ?_);(simp(disch:=omega) [go_sem]))
 ·rw[if_neg hvar]
  rw[decide_eq_false hvar]at hv
  clear hb hvar
  refine ACall.loose (x:= .agg [.sc (.string n),.list false (decide (ts.length=0)) ((ts.map (apT s)).map eTm)]) rfl ?_
  generalize hL:ts.map (apT s)=L at*
  have hLl:L.length=ts.length:=by rw[←hL,List.length_map]
  have ih2: ∀(i:Nat) (h:i<ts.length),∃x,ACall Tryz.prog 84 [.list le fu (s.map eBd),eT ts[i]] (fun r=>r=eT x)∧L.drop i=x::L.drop (i+1):=fun i h=>⟨_,ih' i h,by
   have h':i<L.length:=by omega
   rw[List.drop_eq_getElem_cons h']
   congr 1
   subst hL
   rw[List.getElem_map]⟩
  clear ih' hL
  refine acall_of_awp Tryz.func84 Tryz.call84 rfl (by simp[Tryz.ntmps84]) ?_;simp only[Tryz.ntmps84,Tryz.results84]
  repeat' (first|(refine awK fun _ _=>?_)|refine zHg ?_|refine stepK_is rfl (hv) (by simp) ?_|(fail_if_success with_reducible refine Owe.mk ?_);(simp(disch:=omega) [go_sem]))
  refine awp_for [0,3,4,7] [7,900] (fun y:Nat×List Tm=> [(8,nt .i64 y.1)]) (fun y:Nat×List Tm=>(7,⟨false,false,false,2,[.agg [.sc (.string n),if y.2.length=0 then .list false true []else .ref 900 0 y.2.length]],0⟩)::(if y.2.length=0 then[]else[(900,⟨true,false,false,2,y.2.map eTm,0⟩)])) (fun y:Nat×List Tm=>ts.length - y.1) (fun y:Nat×List Tm=>y.1≤ts.length∧y.2.length=y.1∧y.2++L.drop y.1=L) ((0,[])) (Le.sub4 rfl (by simp[go_sem])) ⟨?_⟩ ?_
  ·exact⟨Nat.zero_le _,rfl,rfl⟩
  intro⟨i,a⟩ ⟨hi,ha,hinv⟩ AA hAA;simp only[kL,Nat.reduceBEq,Nat.reduceEqDiff,if_true,if_false,List.cons_append,List.nil_append,List.append_nil]
  dsimp only at*
  by_cases hlt:i<ts.length
  ·obtain⟨x,hu,hd⟩:=ih2 i hlt
   rw[hd]at hinv
   clear ih2 hd
   by_cases h0:i=0
   ·subst h0
    obtain rfl:=List.eq_nil_of_length_eq_zero ha
    repeat' (first|(refine awK fun _ _=>?_)|refine zHg ?_|refine dstepK_is rfl (hu) rfl (by simp) ?_|refine(hAA.next ((0+1,[x])) (Le.renSub [(41,900)] [(900,41)] (by simp[go_sem]) (by simp[go_sem]) (Le.sub4 rfl (by simp[go_sem]))) (by(try dsimp only);omega) ?_)|(fail_if_success with_reducible refine Owe.mk ?_);(simp(disch:=omega) [go_sem,hlt])|refine zDr 9 mix ?_|fail)
    all_goals(first|omega|skip)
    all_goals exact⟨hlt,rfl,hinv⟩
   ·repeat' (first|(refine awK fun _ _=>?_)|refine zHg ?_|refine dstepK_is rfl (hu) rfl (by simp) ?_|refine(hAA.next ((i+1,a++ [x])) (Le.sub4 rfl (by simp[go_sem,ha])) (by(try dsimp only);omega) ?_)|(fail_if_success with_reducible refine Owe.mk ?_);(simp(disch:=omega) [go_sem,hlt,h0,ha])|refine zAo ?_|refine zDr 9 mix ?_|fail)
    all_goals(first|omega|skip)
    all_goals exact⟨hlt,by simp[ha],by rw[List.append_assoc];exact hinv⟩
  ·obtain rfl:i=ts.length:=by omega
   rw[←hLl,List.drop_length,List.append_nil]at hinv
   subst hinv
   clear ih2
   by_cases h0:ts.length=0
   ·obtain rfl:=List.eq_nil_of_length_eq_zero (hLl.trans h0)
    repeat' (first|(refine awK fun _ _=>?_)|refine zHg ?_|refine end_ret [] ?_;simp[go_sem,h0]|(fail_if_success with_reducible refine Owe.mk ?_);(simp(disch:=omega) [go_sem,h0]))
   ·repeat' (first|(refine awK fun _ _=>?_)|refine zHg ?_|refine end_ret [] ?_;simp[go_sem,h0,ha]|(fail_if_success with_reducible refine Owe.mk ?_);(simp(disch:=omega) [go_sem,h0,ha]))
theorem ref7ApplyRule_ok (s:List Bd) (le fu:Bool) (r:Rl) (hr:r.head.size≤1000000) (hb: ∀b∈r.body,b.atom.size≤1000000) (hl:r.body.length≤1000000):
 ACall Tryz.prog 46 [.list le fu (s.map eBd),eRl r] (fun v=>v=eRl (apR s r)):=by
 obtain⟨h,bs⟩:=r
 dsimp only at*
 have h1:=ref7Apply_ok s le fu h hr
 show ACall _ _ _ (fun v=>v=eRl ⟨apT s h,bs.map (apB s)⟩)
 refine ACall.loose (x:= .agg [.sc (.string (apT s h).name),.list false false ((apT s h).args.map eTm),.list false (decide (bs.length=0)) ((bs.map (apB s)).map eLt)]) rfl ?_
 generalize apT s h=H at*
 generalize hL:bs.map (apB s)=L at*
 have hLl:L.length=bs.length:=by rw[←hL,List.length_map]
 have ih2: ∀(i:Nat) (hi:i<bs.length),∃x,ACall Tryz.prog 84 [.list le fu (s.map eBd),eT bs[i].atom] (fun r=>r=eT x)∧L.drop i=⟨bs[i].neg,x⟩::L.drop (i+1):=fun i hi=>⟨_,ref7Apply_ok s le fu bs[i].atom (hb _ (List.getElem_mem hi)),by
  have h':i<L.length:=by omega
  rw[List.drop_eq_getElem_cons h']
  congr 1
  subst hL
  rw[List.getElem_map];rfl⟩
 clear hL hb
 refine acall_of_awp Tryz.func46 Tryz.call46 rfl (by simp[Tryz.ntmps46]) ?_;simp only[Tryz.ntmps46,Tryz.results46]
 repeat' (first|(refine awK fun _ _=>?_)|refine zHg ?_|refine stepK_is rfl (h1) (by simp) ?_|(fail_if_success with_reducible refine Owe.mk ?_);(simp(disch:=omega) [go_sem]))
 refine awp_for [0,3,4,5] [5,900] (fun y:Nat×List Lt=> [(6,nt .i64 y.1)]) (fun y:Nat×List Lt=>(5,⟨false,false,false,3,[.agg [.sc (.string H.name),.list false false (H.args.map eTm),if y.2.length=0 then .list false true []else .ref 900 0 y.2.length]],0⟩)::(if y.2.length=0 then[]else[(900,⟨true,false,false,3,y.2.map eLt,0⟩)])) (fun y:Nat×List Lt=>bs.length - y.1) (fun y:Nat×List Lt=>y.1≤bs.length∧y.2.length=y.1∧y.2++L.drop y.1=L) ((0,[])) (Le.sub4 rfl (by simp[go_sem])) ⟨?_⟩ ?_
 ·exact⟨Nat.zero_le _,rfl,rfl⟩
 intro⟨i,a⟩ ⟨hi,ha,hinv⟩ AA hAA;simp only[kL,Nat.reduceBEq,Nat.reduceEqDiff,if_true,if_false,List.cons_append,List.nil_append,List.append_nil]
 dsimp only at*
 by_cases hlt:i<bs.length
 ·obtain⟨x,hu,hd⟩:=ih2 i hlt
  rw[hd]at hinv
  clear ih2 hd
  by_cases h0:i=0
  ·subst h0
   obtain rfl:=List.eq_nil_of_length_eq_zero ha
   repeat' (first|(refine awK fun _ _=>?_)|refine zHg ?_|refine dstepK_is rfl (hu) rfl (by simp) ?_|refine(hAA.next ((0+1,[⟨bs[0].neg,x⟩])) (Le.renSub [(37,900)] [(900,37)] (by simp[go_sem]) (by simp[go_sem]) (Le.sub4 rfl (by simp[go_sem]))) (by(try dsimp only);omega) ?_)|(fail_if_success with_reducible refine Owe.mk ?_);(simp(disch:=omega) [go_sem,hlt])|refine zDr 17 mix ?_|fail)
   all_goals(first|omega|skip)
   all_goals exact⟨hlt,rfl,hinv⟩
  ·repeat' (first|(refine awK fun _ _=>?_)|refine zHg ?_|refine dstepK_is rfl (hu) rfl (by simp) ?_|refine(hAA.next ((i+1,a++ [⟨bs[i].neg,x⟩])) (Le.sub4 rfl (by simp[go_sem,ha])) (by(try dsimp only);omega) ?_)|(fail_if_success with_reducible refine Owe.mk ?_);(simp(disch:=omega) [go_sem,hlt,h0,ha])|refine zAo ?_|refine zDr 17 mix ?_|fail)
   all_goals(first|omega|skip)
   all_goals exact⟨hlt,by simp[ha],by rw[List.append_assoc];exact hinv⟩
 ·obtain rfl:i=bs.length:=by omega
  rw[←hLl,List.drop_length,List.append_nil]at hinv
  subst hinv
  clear ih2
  by_cases h0:bs.length=0
  ·obtain rfl:=List.eq_nil_of_length_eq_zero (hLl.trans h0)
   repeat' (first|(refine awK fun _ _=>?_)|refine zHg ?_|refine end_ret [] ?_;simp[go_sem,h0]|(fail_if_success with_reducible refine Owe.mk ?_);(simp(disch:=omega) [go_sem,h0]))
  ·repeat' (first|(refine awK fun _ _=>?_)|refine zHg ?_|refine end_ret [] ?_;simp[go_sem,h0,ha]|(fail_if_success with_reducible refine Owe.mk ?_);(simp(disch:=omega) [go_sem,h0,ha]))
theorem refAtom_ok (t:Tm):ACall Tryz.prog 82 [eT t] (fun v=>v=bl (atmV t)):=by
 have h1:=refName_ok t.name
 have h2:=refValid_ok t
 unfold atmV
 rw[Bool.and_comm]
 cases q2:withT 4 true t
 ·rw[q2]at h2
  rw[Bool.false_and]
  refine acall_of_awp Tryz.func82 Tryz.call82 rfl (by simp[Tryz.ntmps82]) ?_;simp only[Tryz.ntmps82,Tryz.results82]
  repeat' (first|(refine awK fun _ _=>?_)|refine zHg ?_|refine end_ret [] ?_;simp[go_sem]|refine stepK_is rfl (h2) (by simp) ?_|(fail_if_success with_reducible refine Owe.mk ?_);(simp(disch:=omega) [go_sem]))
 ·rw[q2]at h2
  rw[Bool.true_and]
  generalize nameS t.name=q at*
  refine acall_of_awp Tryz.func82 Tryz.call82 rfl (by simp[Tryz.ntmps82]) ?_;simp only[Tryz.ntmps82,Tryz.results82]
  repeat' (first|(refine awK fun _ _=>?_)|refine zHg ?_|refine end_ret [] ?_;simp[go_sem]|refine stepK_is rfl (h1) (by simp) ?_|refine stepK_is rfl (h2) (by simp) ?_|(fail_if_success with_reducible refine Owe.mk ?_);(simp(disch:=omega) [go_sem]))
theorem ref6Valid_ok (r:Rl) (hl:r.body.length≤1000000):ACall Tryz.prog 41 [eRl r] (fun v=>v=bl (vldR r)):=by
 have h1:=refAtom_ok r.head
 generalize hV:vldR r=V
 obtain⟨h,bs⟩:=r
 dsimp only at*
 have hV':(decide (bs.length≤8)&&(atmV h&&bs.all fun b=>atmV b.atom))=V:=by
  rw[←hV]
  unfold vldR atmR
  simp[List.all_map,Function.comp_def]
 clear hV
 cases q1:atmV h
 ·rw[q1]at h1 hV'
  rw[Bool.false_and,Bool.and_false]at hV'
  subst hV'
  refine acall_of_awp Tryz.func41 Tryz.call41 rfl (by simp[Tryz.ntmps41]) ?_;simp only[Tryz.ntmps41,Tryz.results41]
  repeat' (first|(refine awK fun _ _=>?_)|refine zHg ?_|refine end_ret [] ?_;simp[go_sem]|refine stepK_is rfl (h1) (by simp) ?_|(fail_if_success with_reducible refine Owe.mk ?_);(simp(disch:=omega) [go_sem]))
 ·rw[q1]at h1 hV'
  rw[Bool.true_and]at hV'
  by_cases h8:bs.length≤8
  ·have h8': ¬(8:Int)<bs.length:=by omega
   rw[decide_eq_true h8,Bool.true_and]at hV'
   refine acall_of_awp Tryz.func41 Tryz.call41 rfl (by simp[Tryz.ntmps41]) ?_;simp only[Tryz.ntmps41,Tryz.results41]
   repeat' (first|(refine awK fun _ _=>?_)|refine zHg ?_|refine stepK_is rfl (h1) (by simp) ?_|(fail_if_success with_reducible refine Owe.mk ?_);(simp(disch:=omega) [go_sem,h8']))
   refine awp_for [1] [] (fun i:Nat=> [(3,nt .i64 i)]) (fun i:Nat=> []) (fun i:Nat=>bs.length - i) (fun i:Nat=>i≤bs.length∧ ∀(k:Nat) (hk:k<bs.length),k<i→atmV bs[k].atom=true) (0) (Le.sub4 rfl (by simp[go_sem])) ⟨?_⟩ ?_
   ·exact⟨Nat.zero_le _,fun k _ hk=>absurd hk (Nat.not_lt_zero _)⟩
   intro i ⟨hi,hn⟩ AA hAA;simp only[kL,Nat.reduceBEq,Nat.reduceEqDiff,if_true,if_false,List.cons_append,List.nil_append,List.append_nil]
   by_cases hlt:i<bs.length
   ·have h2:=refAtom_ok bs[i].atom
    cases q2:atmV bs[i].atom
    ·rw[q2]at h2
     have hu:V=false:=by
      rw[←hV',List.all_eq_false]
      exact⟨_,List.getElem_mem hlt,by rw[q2];simp⟩
     subst hu
     repeat' (first|(refine awK fun _ _=>?_)|refine zHg ?_|refine end_ret [] ?_;simp[go_sem,hlt]|refine stepK_is rfl (h2) (by simp) ?_|(fail_if_success with_reducible refine Owe.mk ?_);(simp(disch:=omega) [go_sem,hlt]))
    ·rw[q2]at h2
     repeat' (first|(refine awK fun _ _=>?_)|refine zHg ?_|refine stepK_is rfl (h2) (by simp) ?_|refine(hAA.next (i+1) (Le.sub4 rfl (by simp[go_sem])) (by(try dsimp only);omega) ?_)|(fail_if_success with_reducible refine Owe.mk ?_);(simp(disch:=omega) [go_sem,hlt]))
     all_goals(first|omega|skip)
     exact⟨hlt,fun k hk hki=>by rcases Nat.lt_or_eq_of_le (Nat.le_of_lt_succ hki)with h|rfl;exact hn k hk h;exact q2⟩
   ·obtain rfl:i=bs.length:=by omega
    have hu:V=true:=by
     rw[←hV',List.all_eq_true]
     intro b hb
     obtain⟨k,hk,rfl⟩:=List.mem_iff_getElem.1 hb
     exact hn k hk hk
    subst hu
    repeat' (first|(refine awK fun _ _=>?_)|refine zHg ?_|refine end_ret [] ?_;simp[go_sem]|(fail_if_success with_reducible refine Owe.mk ?_);(simp(disch:=omega) [go_sem]))
  ·have h8':(8:Int)<bs.length:=by omega
   rw[decide_eq_false h8,Bool.false_and]at hV'
   subst hV'
   refine acall_of_awp Tryz.func41 Tryz.call41 rfl (by simp[Tryz.ntmps41]) ?_;simp only[Tryz.ntmps41,Tryz.results41]
   repeat' (first|(refine awK fun _ _=>?_)|refine zHg ?_|refine end_ret [] ?_;simp[go_sem,h8']|refine stepK_is rfl (h1) (by simp) ?_|(fail_if_success with_reducible refine Owe.mk ?_);(simp(disch:=omega) [go_sem,h8']))
theorem addV_in {acc:List ByteArray} {n:ByteArray} (h:hasS acc n=true):addV acc n=acc:=by unfold addV;rw[if_neg (fun k=>by rw[h]at k;exact absurd k.2 (by simp))]
theorem addV_new {acc:List ByteArray} {n:ByteArray} (hv:varS n=true) (h:hasS acc n=false):addV acc n=acc++ [n]:=by unfold addV;rw[if_pos ⟨hv,h⟩]
abbrev rowS (l:List ByteArray):AObj:=⟨true,false,false,1,l.map eStr,0⟩
def cltN (acc:List ByteArray) (ts:List Tm) (i:Nat):List ByteArray:=(lvsS (ts.take i)).foldl addV acc
theorem cltN_next {acc:List ByteArray} {ts:List Tm} {i:Nat} (h:i<ts.length):cltN acc ts (i+1)=(lvs ts[i]).foldl addV (cltN acc ts i):=by
 unfold cltN
 rw[lvsS_next h,List.foldl_append]
theorem collect_ok: ∀(t:Tm),t.size≤1000→ ∀(acc:List ByteArray),acc.length+t.size≤100000→MCall Tryz.prog 83 [.ref 1000 0 acc.length,eT t] [(1000,⟨true,false,true,1,acc.map eStr,0⟩)] (fun r o'=>r= .ref 1001 0 ((lvs t).foldl addV acc).length∧o'= [(1001,rowS ((lvs t).foldl addV acc))]):=by
 refine tm_ind fun t ih hz acc hb=>?_
 obtain⟨n,ts⟩:=t
 simp only[args_mk]at ih
 have hv:=ref7Variable_ok n ts
 rw[size_eq,args_mk]at hz hb
 have hlen:=length_le_sizeL ts
 by_cases hvar:ts.length=0∧varS n=true
 ·rw[decide_eq_true hvar]at hv
  obtain⟨h0,hvn⟩:=hvar
  obtain rfl:=List.eq_nil_of_length_eq_zero h0
  have e1:(lvs (.mk n [])).foldl addV acc=addV acc n:=rfl
  rw[e1]
  clear ih
  cases hq:hasS acc n
  ·rw[addV_new hvn hq]
   have hne: ∀(k:Nat) (hk:k<acc.length),¬acc[k]=n:=fun k hk e=>by
    have:hasS acc n=true:=hasS_iff.2 (e▸List.getElem_mem hk)
    rw[hq]at this;cases this
   refine mcall_of_awpL Tryz.func83 Tryz.call83 rfl (by simp[Tryz.ntmps83]) ?_;simp only[Tryz.ntmps83,Tryz.results83]
   repeat' (first|(refine awK fun _ _=>?_)|refine zHg ?_|refine stepK_is rfl (hv) (by simp) ?_|(fail_if_success with_reducible refine Owe.mk ?_);(simp(disch:=omega) [go_sem,eStr]))
   refine awp_for [0,3] [] (fun i:Nat=> [(5,nt .i64 i)]) (fun i:Nat=> []) (fun i:Nat=>acc.length - i) (fun i:Nat=>i≤acc.length) (0) (Le.sub4 rfl (by simp[go_sem,eStr])) ⟨?_⟩ ?_
   ·exact Nat.zero_le _
   intro i hi AA hAA;simp only[kL,Nat.reduceBEq,Nat.reduceEqDiff,if_true,if_false,List.cons_append,List.nil_append,List.append_nil]
   by_cases hlt:i<acc.length
   ·have hn2:=hne i hlt
    repeat' (first|(refine awK fun _ _=>?_)|refine zHg ?_|refine(hAA.next (i+1) (Le.sub4 rfl (by simp[go_sem,eStr])) (by(try dsimp only);omega) ?_)|(fail_if_success with_reducible refine Owe.mk ?_);(simp(disch:=omega) [go_sem,hlt,hn2,eStr])|refine zDr 7 mix ?_|fail)
    all_goals(first|omega|skip)
    exact⟨hlt⟩
   ·obtain rfl:i=acc.length:=by omega
    repeat' (first|(refine awK fun _ _=>?_)|refine zHg ?_|(fail_if_success with_reducible refine Owe.mk ?_);(simp(disch:=omega) [go_sem,eStr])|refine zAo ?_|fail)
    refine endL_ret ⟨43,[(4,.ref 1001 0 (acc++ [n]).length)],[(1001,rowS (acc++ [n]))]⟩ [.ref 1001 0 (acc++ [n]).length] (Le.renSub [(27,1001)] [(1001,27)] (by simp[go_sem,eStr]) (by simp[go_sem,eStr]) (Le.sub4 rfl (by simp[go_sem,eStr]))) (by simp[go_sem,eStr]) ⟨by simp[pack],by simp⟩
  ·rw[addV_in hq]
   refine mcall_of_awpL Tryz.func83 Tryz.call83 rfl (by simp[Tryz.ntmps83]) ?_;simp only[Tryz.ntmps83,Tryz.results83]
   repeat' (first|(refine awK fun _ _=>?_)|refine zHg ?_|refine stepK_is rfl (hv) (by simp) ?_|(fail_if_success with_reducible refine Owe.mk ?_);(simp(disch:=omega) [go_sem,eStr]))
   refine awp_for [0,3] [] (fun i:Nat=> [(5,nt .i64 i)]) (fun i:Nat=> []) (fun i:Nat=>acc.length - i) (fun i:Nat=>i≤acc.length∧ ∀(k:Nat) (hk:k<acc.length),k<i→ ¬acc[k]=n) (0) (Le.sub4 rfl (by simp[go_sem,eStr])) ⟨?_⟩ ?_
   ·exact⟨Nat.zero_le _,fun k _ hk=>absurd hk (Nat.not_lt_zero _)⟩
   intro i ⟨hi,hn⟩ AA hAA;simp only[kL,Nat.reduceBEq,Nat.reduceEqDiff,if_true,if_false,List.cons_append,List.nil_append,List.append_nil]
   by_cases hlt:i<acc.length
   ·by_cases he:acc[i]=n
    ·repeat' (first|(refine awK fun _ _=>?_)|refine zHg ?_|(fail_if_success with_reducible refine Owe.mk ?_);(simp(disch:=omega) [go_sem,hlt,he,eStr])|refine zDr 7 mix ?_|fail)
     refine endL_ret ⟨43,[(4,.ref 1001 0 acc.length)],[(1001,rowS acc)]⟩ [.ref 1001 0 acc.length] (by refine Le.trans ?_ (Le.move (i:=4) (T:=1000) (T':=1001) rfl (by show(0:Nat)≠1;decide) rfl rfl rfl);exact(Le.sub4 rfl (by simp[go_sem,eStr]))) (by simp[go_sem,eStr]) ⟨rfl,rfl⟩
    ·repeat' (first|(refine awK fun _ _=>?_)|refine zHg ?_|refine(hAA.next (i+1) (Le.sub4 rfl (by simp[go_sem,eStr])) (by(try dsimp only);omega) ?_)|(fail_if_success with_reducible refine Owe.mk ?_);(simp(disch:=omega) [go_sem,hlt,he,eStr])|refine zDr 7 mix ?_|fail)
     all_goals(first|omega|skip)
     exact⟨hlt,fun k hk hki=>by rcases Nat.lt_or_eq_of_le (Nat.le_of_lt_succ hki)with h|rfl;exact hn k hk h;exact he⟩
   ·obtain rfl:i=acc.length:=by omega
    obtain⟨k,hk,he⟩:=List.mem_iff_getElem.1 (hasS_iff.1 hq)
    exact absurd he (hn k hk hk)
 ·rw[decide_eq_false hvar]at hv
  have hR:(lvs (.mk n ts)).foldl addV acc=cltN acc ts ts.length:=by
   unfold cltN
   rw[List.take_length,lvs_mk]
   split
   ·rename_i h0
    obtain rfl:=List.eq_nil_of_length_eq_zero h0
    have hvn: ¬varS n=true:=fun h=>hvar ⟨rfl,h⟩
    show addV acc n=acc
    unfold addV;rw[if_neg (fun k=>hvn k.1)]
   ·rfl
  rw[hR]
  have hc0:cltN acc ts 0=acc:=rfl
  have hbd: ∀i,i≤ts.length→(cltN acc ts i).length≤acc.length+sizeL (ts.take i):=fun i hi=>by
   have h1:=fdV_le (acc:=acc) (l:=lvsS (ts.take i)) (lvsS (ts.take i)).length
   rw[fdV_all]at h1
   have h2: ∀l:List Tm,(lvsS l).length≤sizeL l:=by
    intro l
    induction l with
    |nil=>simp[lvsS]
    |cons t q ihq=>
     have e:lvsS (t::q)=lvs t++lvsS q:=rfl
     have:=lvs_size t
     rw[e,List.length_append]
     simp only[sizeL];omega
   have:=h2 (ts.take i)
   unfold cltN;omega
  refine mcall_of_awpL Tryz.func83 Tryz.call83 rfl (by simp[Tryz.ntmps83]) ?_;simp only[Tryz.ntmps83,Tryz.results83]
  repeat' (first|(refine awK fun _ _=>?_)|refine zHg ?_|refine stepK_is rfl (hv) (by simp) ?_|(fail_if_success with_reducible refine Owe.mk ?_);(simp(disch:=omega) [go_sem]))
  refine awp_for [3] [900,1000] (fun i:Nat=> [(6,nt .i64 i),(0,.ref 900 0 (cltN acc ts i).length)]) (fun i:Nat=> [(900,rowS (cltN acc ts i))]) (fun i:Nat=>ts.length - i) (fun i:Nat=>i≤ts.length) (0) (by refine Le.trans ?_ (Le.move (i:=0) (T:=1000) (T':=900) rfl (by show(0:Nat)≠1;decide) rfl rfl rfl);exact(Le.sub4 rfl (by simp[go_sem,hc0]))) ⟨?_⟩ ?_
  ·exact Nat.zero_le _
  intro i hi AA hAA;simp only[kL,Nat.reduceBEq,Nat.reduceEqDiff,if_true,if_false,List.cons_append,List.nil_append,List.append_nil]
  by_cases hlt:i<ts.length
  ·have hnx:=cltN_next (acc:=acc) hlt
   have h3:=hbd i hi
   have h4:=sizeL_next hlt
   have h5:=sizeL_take ts (i+1)
   have h6:=size_get hlt
   have hu:=ih ts[i] (List.getElem_mem hlt) (by omega) (cltN acc ts i) (by omega)
   clear ih hbd
   generalize cltN acc ts i=X at*
   generalize(lvs ts[i]).foldl addV X=Y at*
   repeat' (first|(refine awK fun _ _=>?_)|refine zHg ?_|(fail_if_success with_reducible refine Owe.mk ?_);(simp(disch:=omega) [go_sem,hlt]))
   refine stepK_fis [(1000,900)] [(900,1000)] 10000 _ _ (Fits.mk' (by simp[go_sem]) (by simp[go_sem])) (by simp[go_sem]) (by simp[go_sem]) (hu) (by simp[go_sem]) (by simp[go_sem]) ?_
   repeat' (first|refine zHg ?_|refine(hAA.next (i+1) (Le.renSub [(11001,900)] [(900,11001)] (by simp[go_sem,hnx]) (by simp[go_sem,hnx]) (Le.sub4 rfl (by simp[go_sem,hnx]))) (by(try dsimp only);omega) ?_)|(fail_if_success with_reducible refine Owe.mk ?_);(simp(disch:=omega) [go_sem,hlt]))
   all_goals(first|omega|skip)
   exact⟨hlt⟩
  ·obtain rfl:i=ts.length:=by omega
   clear ih hbd
   generalize cltN acc ts ts.length=Y at*
   repeat' (first|(refine awK fun _ _=>?_)|refine zHg ?_|(fail_if_success with_reducible refine Owe.mk ?_);(simp(disch:=omega) [go_sem]))
   refine endL_ret ⟨43,[(4,.ref 1001 0 Y.length)],[(1001,rowS Y)]⟩ [.ref 1001 0 Y.length] (Le.renSub [(900,1001)] [(1001,900)] (by simp[go_sem]) (by simp[go_sem]) (Le.sub4 rfl (by simp[go_sem]))) (by simp[go_sem]) ⟨by simp[pack],by simp⟩
theorem clt_bd {acc:List ByteArray} {ts:List Tm} {i:Nat}:(cltN acc ts i).length≤acc.length+sizeL (ts.take i):=by
 have h1:=fdV_le (acc:=acc) (l:=lvsS (ts.take i)) (lvsS (ts.take i)).length
 rw[fdV_all]at h1
 have h2: ∀l:List Tm,(lvsS l).length≤sizeL l:=by
  intro l
  induction l with
  |nil=>simp[lvsS]
  |cons t q ihq=>
   have e:lvsS (t::q)=lvs t++lvsS q:=rfl
   have:=lvs_size t
   rw[e,List.length_append]
   simp only[sizeL];omega
 have:=h2 (ts.take i)
 unfold cltN;omega
theorem collect0_ok (t:Tm) (hz:t.size≤1000):ACall Tryz.prog 83 [.list false true [],eT t] (fun r=>r= .own 1 (((lvs t).foldl addV []).map eStr)):=by
 obtain⟨n,ts⟩:=t
 refine ACall.own_nil ?_
 have hv:=ref7Variable_ok n ts
 rw[size_eq,args_mk]at hz
 by_cases hvar:ts.length=0∧varS n=true
 ·rw[decide_eq_true hvar]at hv
  obtain⟨h0,hvn⟩:=hvar
  obtain rfl:=List.eq_nil_of_length_eq_zero h0
  have e1:(lvs (.mk n [])).foldl addV []= [n]:=by
   show addV [] n= [n]
   rw[addV_new hvn rfl];rfl
  rw[e1]
  refine acall_of_awp Tryz.func83 Tryz.call83 rfl (by simp[Tryz.ntmps83]) ?_;simp only[Tryz.ntmps83,Tryz.results83]
  repeat' (first|(refine awK fun _ _=>?_)|refine zHg ?_|refine stepK_is rfl (hv) (by simp) ?_|(fail_if_success with_reducible refine Owe.mk ?_);(simp(disch:=omega) [go_sem,eStr]))
  refine awp_for [0,3] [] (fun i:Nat=> [(5,nt .i64 (0:Nat))]) (fun i:Nat=> []) (fun i:Nat=>0) (fun i:Nat=>i=0) (0) (Le.sub4 rfl (by simp[go_sem])) ⟨?_⟩ ?_
  ·rfl
  intro i hi AA hAA;simp only[kL,Nat.reduceBEq,Nat.reduceEqDiff,if_true,if_false,List.cons_append,List.nil_append,List.append_nil]
  repeat' (first|(refine awK fun _ _=>?_)|refine zHg ?_|refine end_ret [] ?_;simp[go_sem,eStr]|(fail_if_success with_reducible refine Owe.mk ?_);(simp(disch:=omega) [go_sem,eStr]))
 ·rw[decide_eq_false hvar]at hv
  have hR:(lvs (.mk n ts)).foldl addV []=cltN [] ts ts.length:=by
   unfold cltN
   rw[List.take_length,lvs_mk]
   split
   ·rename_i h0
    obtain rfl:=List.eq_nil_of_length_eq_zero h0
    have hvn: ¬varS n=true:=fun h=>hvar ⟨rfl,h⟩
    show addV [] n= []
    unfold addV;rw[if_neg (fun k=>hvn k.1)]
   ·rfl
  rw[hR]
  have hc0:cltN [] ts 0= []:=rfl
  refine acall_of_awp Tryz.func83 Tryz.call83 rfl (by simp[Tryz.ntmps83]) ?_;simp only[Tryz.ntmps83,Tryz.results83]
  repeat' (first|(refine awK fun _ _=>?_)|refine zHg ?_|refine stepK_is rfl (hv) (by simp) ?_|(fail_if_success with_reducible refine Owe.mk ?_);(simp(disch:=omega) [go_sem]))
  refine awp_for [3] [900] (fun i:Nat=> [(6,nt .i64 i),(0,.ref 900 0 (cltN [] ts i).length)]) (fun i:Nat=> [(900,rowS (cltN [] ts i))]) (fun i:Nat=>ts.length - i) (fun i:Nat=>i≤ts.length) (0) (by refine Le.trans ?_ (Le.nil (i:=0) (T:=900) (es:=1) rfl);exact(Le.sub4 rfl (by simp[go_sem,hc0]))) ⟨?_⟩ ?_
  ·exact Nat.zero_le _
  intro i hi AA hAA;simp only[kL,Nat.reduceBEq,Nat.reduceEqDiff,if_true,if_false,List.cons_append,List.nil_append,List.append_nil]
  by_cases hlt:i<ts.length
  ·have hnx:=cltN_next (acc:= []) hlt
   have h3:=clt_bd (acc:= []) (ts:=ts) (i:=i)
   rw[List.length_nil]at h3
   have h4:=sizeL_next hlt
   have h5:=sizeL_take ts (i+1)
   have h6:=size_get hlt
   have hu:=collect_ok ts[i] (by omega) (cltN [] ts i) (by omega)
   generalize cltN [] ts i=X at*
   generalize(lvs ts[i]).foldl addV X=Y at*
   have hlen:=length_le_sizeL ts
   repeat' (first|(refine awK fun _ _=>?_)|refine zHg ?_|(fail_if_success with_reducible refine Owe.mk ?_);(simp(disch:=omega) [go_sem,hlt]))
   refine stepK_fis [(1000,900)] [(900,1000)] 10000 _ _ (Fits.mk' (by simp[go_sem]) (by simp[go_sem])) (by simp[go_sem]) (by simp[go_sem]) (hu) (by simp[go_sem]) (by simp[go_sem]) ?_
   repeat' (first|refine zHg ?_|refine(hAA.next (i+1) (Le.renSub [(11001,900)] [(900,11001)] (by simp[go_sem,hnx]) (by simp[go_sem,hnx]) (Le.sub4 rfl (by simp[go_sem,hnx]))) (by(try dsimp only);omega) ?_)|(fail_if_success with_reducible refine Owe.mk ?_);(simp(disch:=omega) [go_sem,hlt]))
   all_goals(first|omega|skip)
   exact⟨hlt⟩
  ·obtain rfl:i=ts.length:=by omega
   generalize cltN [] ts ts.length=Y at*
   repeat' (first|(refine awK fun _ _=>?_)|refine zHg ?_|refine end_ret [] ?_;simp[go_sem]|(fail_if_success with_reducible refine Owe.mk ?_);(simp(disch:=omega) [go_sem]))
def rvN (h:Tm) (bs:List Lt) (i:Nat):List ByteArray:=cltN ((lvs h).foldl addV []) (bs.map Lt.atom) i
theorem rvN_all (r:Rl):rvN r.head r.body r.body.length=varsR r:=by
 unfold rvN cltN varsR varsT atmR
 rw[List.take_of_length_le (by rw[List.length_map];exact Nat.le_refl _),←List.foldl_append]
 rfl
theorem rvN_next {h:Tm} {bs:List Lt} {i:Nat} (hi:i<bs.length):rvN h bs (i+1)=(lvs bs[i].atom).foldl addV (rvN h bs i):=by
 unfold rvN
 rw[cltN_next (by rw[List.length_map];exact hi),List.getElem_map]
theorem fold_len (l acc:List ByteArray):(l.foldl addV acc).length≤acc.length+l.length:=by
 have h1:=fdV_le (acc:=acc) (l:=l) l.length
 rw[fdV_all]at h1;exact h1
theorem ref7Vars_ok (r:Rl) (hh:r.head.size≤20) (hl:r.body.length≤12) (hb: ∀b∈r.body,b.atom.size≤20):ACall Tryz.prog 42 [eRl r] (fun v=>v= .own 1 ((varsR r).map eStr)):=by
 rw[←rvN_all]
 obtain⟨h,bs⟩:=r
 dsimp only at*
 have h1:=collect0_ok h (by omega)
 have e0:(lvs h).foldl addV []=rvN h bs 0:=rfl
 have hz0:(rvN h bs 0).length≤20:=by
  have:=fold_len (lvs h) []
  have:=lvs_size h
  rw[←e0];simp at*;omega
 rw[e0]at h1
 refine acall_of_awp Tryz.func42 Tryz.call42 rfl (by simp[Tryz.ntmps42]) ?_;simp only[Tryz.ntmps42,Tryz.results42]
 repeat' (first|(refine awK fun _ _=>?_)|refine zHg ?_|refine stepK_is rfl (h1) (by simp) ?_|(fail_if_success with_reducible refine Owe.mk ?_);(simp(disch:=omega) [go_sem]))
 refine awp_for [1] [900,7] (fun i:Nat=> [(4,nt .i64 i),(3,.ref 900 0 (rvN h bs i).length)]) (fun i:Nat=> [(900,rowS (rvN h bs i))]) (fun i:Nat=>bs.length - i) (fun i:Nat=>i≤bs.length∧(rvN h bs i).length≤20+20*i) (0) (Le.renSub [(7,900)] [(900,7)] (by simp[go_sem]) (by simp[go_sem]) (Le.sub4 rfl (by simp[go_sem]))) ⟨?_⟩ ?_
 ·exact⟨Nat.zero_le _,by omega⟩
 intro i ⟨hi,hln⟩ AA hAA;simp only[kL,Nat.reduceBEq,Nat.reduceEqDiff,if_true,if_false,List.cons_append,List.nil_append,List.append_nil]
 by_cases hlt:i<bs.length
 ·have hnx:=rvN_next (h:=h) hlt
  have hbz:=hb _ (List.getElem_mem hlt)
  have hu:=collect_ok bs[i].atom (by omega) (rvN h bs i) (by omega)
  have hle:=fold_len (lvs bs[i].atom) (rvN h bs i)
  have hls:=lvs_size bs[i].atom
  generalize rvN h bs i=X at*
  generalize(lvs bs[i].atom).foldl addV X=Y at*
  repeat' (first|(refine awK fun _ _=>?_)|refine zHg ?_|(fail_if_success with_reducible refine Owe.mk ?_);(simp(disch:=omega) [go_sem,hlt]))
  refine stepK_fis [(1000,900)] [(900,1000)] 10000 _ _ (Fits.mk' (by simp[go_sem]) (by simp[go_sem])) (by simp[go_sem]) (by simp[go_sem]) (hu) (by simp[go_sem]) (by simp[go_sem]) ?_
  repeat' (first|refine zHg ?_|refine(hAA.next (i+1) (Le.renSub [(11001,900)] [(900,11001)] (by simp[go_sem,hnx]) (by simp[go_sem,hnx]) (Le.sub4 rfl (by simp[go_sem,hnx]))) (by(try dsimp only);omega) ?_)|(fail_if_success with_reducible refine Owe.mk ?_);(simp(disch:=omega) [go_sem,hlt]))
  all_goals(first|omega|skip)
  exact⟨hlt,by rw[hnx];omega⟩
 ·obtain rfl:i=bs.length:=by omega
  generalize rvN h bs bs.length=Y at*
  repeat' (first|(refine awK fun _ _=>?_)|refine zHg ?_|refine end_ret [] ?_;simp[go_sem]|(fail_if_success with_reducible refine Owe.mk ?_);(simp(disch:=omega) [go_sem]))
theorem name_ok (n:Nat) (h:1≤n∧n≤5):ACall Tryz.prog 44 [nt .i64 n] (fun r=>r=eT (.mk (nmV (n - 1)) [])):=by
 refine ACall.loose (x:= .agg [.sc (.string (nmV (n - 1))),.list false true []]) rfl ?_
 have hc:n=1∨n=2∨n=3∨n=4∨n=5:=by omega
 rcases hc with rfl|rfl|rfl|rfl|rfl
 all_goals(refine acall_of_awp Tryz.func44 Tryz.call44 rfl (by simp[Tryz.ntmps44]) ?_;simp only[Tryz.ntmps44,Tryz.results44])
 all_goals repeat' (first|(refine awK fun _ _=>?_)|refine zHg ?_|refine end_ret [] ?_;simp[go_sem]|(fail_if_success with_reducible refine Owe.mk ?_);(simp(disch:=omega) [go_sem]))
 all_goals rfl
def eI (k:Nat):AV:= .sc (.int .i64 (k:Int))
theorem eI_cells (k:Nat):(eI k).cells.length=1:=rfl
def eIs (l:List Nat):AV:= .list false (decide (l.length=0)) (l.map eI)
theorem eIs_ne {l:List Nat} (h:l.length≠0):eIs l= .list false false (l.map eI):=by unfold eIs;rw[decide_eq_false h]
def blkO (n:Nat) (l:List Nat):List (List Nat):=(List.range (n+1)).map fun a=>l.take a++(n+1)::l.drop a
theorem blkO_len (n:Nat) (l:List Nat):(blkO n l).length=n+1:=by unfold blkO;simp
theorem blkO_get {n:Nat} {l:List Nat} {a:Nat} (h:a<(blkO n l).length):(blkO n l)[a]=l.take a++(n+1)::l.drop a:=by
 simp[blkO]
def oN (n:Nat) (L:List (List Nat)) (i:Nat):List (List Nat):=(L.take i).flatMap (blkO n)
theorem oN_next {n:Nat} {L:List (List Nat)} {i:Nat} (h:i<L.length):oN n L (i+1)=oN n L i++blkO n L[i]:=by
 unfold oN
 rw[take_next h,List.flatMap_append]
 simp
theorem oN_all (n:Nat):oN n (ordF n) (ordF n).length=ordF (n+1):=by unfold oN;rw[List.take_length];rfl
theorem oN_len {n:Nat} {L:List (List Nat)} (hn:n≤4): ∀i,(oN n L i).length≤5*i
 |0=>by simp[oN]
 |i+1=>by
  have ih:=oN_len (L:=L) hn i
  by_cases h:i<L.length
  ·rw[oN_next h,List.length_append,blkO_len];omega
  ·have e:oN n L (i+1)=oN n L i:=by unfold oN;rw[List.take_of_length_le (by omega),List.take_of_length_le (by omega)]
   rw[e];omega
theorem ordF_len (n:Nat) (h:n≤5):(ordF n).length≤120:=by
 have hc:n=0∨n=1∨n=2∨n=3∨n=4∨n=5:=by omega
 rcases hc with rfl|rfl|rfl|rfl|rfl|rfl<;>decide+kernel
theorem ordF_elem {n:Nat} {l:List Nat} (h:l∈ordF n):l.length=n:=by
 rw[((mem_ordF n l).1 h).length_eq];simp
theorem refOrders_ok: ∀n:Nat,n≤5→ACall Tryz.prog 43 [nt .i64 n] (fun r=>r= .own 1 ((ordF n).map eIs))
 |0,_=>by
  refine acall_of_awp Tryz.func43 Tryz.call43 rfl (by simp[Tryz.ntmps43]) ?_;simp only[Tryz.ntmps43,Tryz.results43]
  repeat' (first|(refine awK fun _ _=>?_)|refine zHg ?_|(first|refine zqd ?_ ?_|refine zqn ?_ ?_|refine zgd ?_ ?_|refine zgn ?_ ?_|refine zdd ?_ ?_|refine zdn ?_ ?_)<;>(intro h;first|(exfalso;omega)|(simp only[h,zT])|skip)|refine end_ret [] ?_;simp[go_sem]|(fail_if_success with_reducible refine Owe.mk ?_);(simp(disch:=omega) [go_sem])|refine zAo ?_|refine zAa ?_|(refine nbI fun bq=>?_)|(first|refine zqm ?_ ?_|refine zgm ?_ ?_|refine zdm ?_ ?_)<;>(intro h;simp only[h,zB])|(first|refine zqs ?_ ?_|refine zgs ?_ ?_|refine zds ?_ ?_)<;>(intro h;first|(exfalso;simp at h;omega)|((try simp only[h]);(try simp at h))))
  all_goals rfl
 |n+1,hn=>by
  have ih:=refOrders_ok n (by omega)
  have hel: ∀l∈ordF n,l.length=n:=fun l h=>ordF_elem h
  have hLl:=ordF_len n (by omega)
  rw[←oN_all]
  have hz0:oN n (ordF n) 0= []:=rfl
  have hol:=fun i=>oN_len (n:=n) (L:=ordF n) (by omega) i
  generalize ordF n=L at*
  refine ACall.own_nil ?_
  refine acall_of_awp Tryz.func43 Tryz.call43 rfl (by simp[Tryz.ntmps43]) ?_;simp only[Tryz.ntmps43,Tryz.results43]
  repeat' (first|(refine awK fun _ _=>?_)|refine zHg ?_|(first|refine zqd ?_ ?_|refine zqn ?_ ?_|refine zgd ?_ ?_|refine zgn ?_ ?_|refine zdd ?_ ?_|refine zdn ?_ ?_)<;>(intro h;first|(exfalso;omega)|(simp only[h,zT])|skip)|refine end_ret [] ?_;simp[go_sem]|refine stepK_is rfl (ih) (by simp) ?_|refine dstepK_is rfl (ih) rfl (by simp) ?_|(fail_if_success with_reducible refine Owe.mk ?_);(simp(disch:=omega) [go_sem])|refine zAo ?_|refine zAa ?_|(refine nbI fun bq=>?_)|(first|refine zqm ?_ ?_|refine zgm ?_ ?_|refine zdm ?_ ?_)<;>(intro h;simp only[h,zB])|(first|refine zqs ?_ ?_|refine zgs ?_ ?_|refine zds ?_ ?_)<;>(intro h;first|(exfalso;simp at h;omega)|((try simp only[h]);(try simp at h))))
  all_goals(first|omega|skip)
  refine awp_for [0,4] [900] (fun i:Nat=> [(5,nt .i64 i),(3,.ref 900 0 (oN n L i).length)]) (fun i:Nat=> [(900,⟨true,false,false,1,(oN n L i).map eIs,0⟩)]) (fun i:Nat=>L.length - i) (fun i:Nat=>i≤L.length) (0) (by refine Le.trans ?_ (Le.nil (i:=3) (T:=900) (es:=1) rfl);exact(Le.sub4 rfl (by simp[go_sem,hz0,List.map_nil]))) ⟨?_⟩ ?_
  ·exact Nat.zero_le _
  intro i hi AA hAA;simp only[kL,Nat.reduceBEq,Nat.reduceEqDiff,if_true,if_false,List.cons_append,List.nil_append,List.append_nil]
  by_cases hlt:i<L.length
  ·have hAB:=hAA
   have hll:=hel _ (List.getElem_mem hlt)
   have hnx:=oN_next (n:=n) hlt
   have hXl:=hol i
   have hbl:=blkO_len n L[i]
   have hbg: ∀(a:Nat) (h':a<(blkO n L[i]).length),(blkO n L[i])[a]=L[i].take a++(n+1)::L[i].drop a:=fun a h'=>blkO_get h'
   generalize oN n L i=X at*
   generalize blkO n L[i]=Y at*
   repeat' (first|(refine awK fun _ _=>?_)|refine zHg ?_|(first|refine zqd ?_ ?_|refine zqn ?_ ?_|refine zgd ?_ ?_|refine zgn ?_ ?_|refine zdd ?_ ?_|refine zdn ?_ ?_)<;>(intro h;first|(exfalso;omega)|(simp only[h,zT])|skip)|refine end_ret [] ?_;simp[go_sem,hlt]|(fail_if_success with_reducible refine Owe.mk ?_);(simp(disch:=omega) [go_sem,hlt])|refine zAo ?_|refine zAa ?_|(refine nbI fun bq=>?_)|(first|refine zqm ?_ ?_|refine zgm ?_ ?_|refine zdm ?_ ?_)<;>(intro h;simp only[h,zB])|(first|refine zqs ?_ ?_|refine zgs ?_ ?_|refine zds ?_ ?_)<;>(intro h;first|(exfalso;simp at h;omega)|((try simp only[h]);(try simp at h))))
   refine awp_for [0,4,5] [900] (fun j:Nat=> [(6,nt .i64 j),(3,.ref 900 0 (X++Y.take j).length)]) (fun j:Nat=> [(900,⟨true,false,false,1,(X++Y.take j).map eIs,0⟩)]) (fun j:Nat=>n+1 - j) (fun j:Nat=>j≤n+1) (0) (Le.sub4 rfl (by simp[go_sem,List.take_zero,List.append_nil])) ⟨?_⟩ ?_
   ·exact Nat.zero_le _
   intro j hj AA hAA;simp only[kL,Nat.reduceBEq,Nat.reduceEqDiff,if_true,if_false,List.cons_append,List.nil_append,List.append_nil]
   by_cases hjl:j<n+1
   ·have hjY:j<Y.length:=by omega
    have hg:=hbg j hjY
    have hge:eIs Y[j]= .list false false ((L[i].map eI).take j++eI (n+1)::(L[i].map eI).drop j):=by
     rw[hg,eIs_ne (by simp),List.map_append,List.map_cons,List.map_take,List.map_drop]
    have htn:=take_next hjY
    generalize Y[j]=y at*
    generalize hlv:L[i]=l at*
    have hjl2:j≤l.length:=by omega
    have hTl:((l.map eI).take j).length=j:=by rw[List.length_take,List.length_map];omega
    have hDl:((l.map eI).drop j).length=n - j:=by rw[List.length_drop,List.length_map];omega
    have hTc: ∀y∈(l.map eI).take j,y.cells.length=1:=fun y hy=>by obtain⟨k,_,rfl⟩:=List.mem_map.1 (List.mem_of_mem_take hy);rfl
    have hDc: ∀y∈(l.map eI).drop j,y.cells.length=1:=fun y hy=>by obtain⟨k,_,rfl⟩:=List.mem_map.1 (List.mem_of_mem_drop hy);rfl
    have hyl:Y.length=n+1:=hbl
    generalize hT:(l.map eI).take j=T at*
    generalize hD:(l.map eI).drop j=D at*
    have hx:eI (n+1)= .sc (.int .i64 ((n:Int)+1)):=by unfold eI;rw[Int.natCast_add];rfl
    rw[hx]at hge
    have hmin:min j Y.length=j:=by omega
    have hDt:D.take (n - j)=D:=List.take_of_length_le (by omega)
    have har:j+1+(n - j)=j+(n - j+1):=by omega
    have hs3:seg T 0 j=T:=by rw[←hTl];exact seg_whole
    have hs4:seg (T++ [AV.sc (.int .i64 ((n:Int)+1))]) 0 (j+1)=T++ [AV.sc (.int .i64 ((n:Int)+1))]:=by
     have:=seg_whole (xs:=T++ [AV.sc (.int .i64 ((n:Int)+1))])
     simpa[hTl]using this
    repeat' (first|(refine awK fun _ _=>?_)|refine zHg ?_|(first|refine zqd ?_ ?_|refine zqn ?_ ?_|refine zgd ?_ ?_|refine zgn ?_ ?_|refine zdd ?_ ?_|refine zdn ?_ ?_)<;>(intro h;first|(exfalso;omega)|(simp only[h,zT])|skip)|refine end_ret [] ?_;simp[go_sem,hlt,hlv,eIs,hll,hjl2,hT,hD,hTl,hDl,hTc,hDc,hs3,hs4,eI_cells,hDt,har]|refine(hAA.next (j+1) (Le.sub4 rfl (by simp[go_sem,htn,hge,hTl,hDl,hs3,hs4,hmin,Nat.add_assoc])) (by(try dsimp only);omega) ?_)|(fail_if_success with_reducible refine Owe.mk ?_);(simp(disch:=omega) [go_sem,hlt,hlv,eIs,hll,hjl2,hT,hD,hTl,hDl,hTc,hDc,hs3,hs4,eI_cells,hDt,har])|refine zAo ?_|refine zAa ?_|(refine nbI fun bq=>?_)|(first|refine zqm ?_ ?_|refine zgm ?_ ?_|refine zdm ?_ ?_)<;>(intro h;simp only[h,zB])|(first|refine zqs ?_ ?_|refine zgs ?_ ?_|refine zds ?_ ?_)<;>(intro h;first|(exfalso;simp at h;omega)|((try simp only[h]);(try simp at h))))
    all_goals(first|omega|skip)
    all_goals exact⟨by omega⟩
   ·obtain rfl:j=n+1:=by omega
    rw[List.take_of_length_le (by omega),←hnx]
    repeat' (first|(refine awK fun _ _=>?_)|refine zHg ?_|(first|refine zqd ?_ ?_|refine zqn ?_ ?_|refine zgd ?_ ?_|refine zgn ?_ ?_|refine zdd ?_ ?_|refine zdn ?_ ?_)<;>(intro h;first|(exfalso;omega)|(simp only[h,zT])|skip)|refine end_ret [] ?_;simp[go_sem]|refine(hAB.next (i+1) (Le.sub4 rfl (by simp[go_sem])) (by(try dsimp only);omega) ?_)|(fail_if_success with_reducible refine Owe.mk ?_);(simp(disch:=omega) [go_sem])|refine zAo ?_|refine zAa ?_|(refine nbI fun bq=>?_)|(first|refine zqm ?_ ?_|refine zgm ?_ ?_|refine zdm ?_ ?_)<;>(intro h;simp only[h,zB])|(first|refine zqs ?_ ?_|refine zgs ?_ ?_|refine zds ?_ ?_)<;>(intro h;first|(exfalso;simp at h;omega)|((try simp only[h]);(try simp at h))))
    all_goals(first|omega|skip)
    exact⟨hlt⟩
  ·obtain rfl:i=L.length:=by omega
   repeat' (first|(refine awK fun _ _=>?_)|refine zHg ?_|(first|refine zqd ?_ ?_|refine zqn ?_ ?_|refine zgd ?_ ?_|refine zgn ?_ ?_|refine zdd ?_ ?_|refine zdn ?_ ?_)<;>(intro h;first|(exfalso;omega)|(simp only[h,zT])|skip)|refine end_ret [] ?_;simp[go_sem]|(fail_if_success with_reducible refine Owe.mk ?_);(simp(disch:=omega) [go_sem])|refine zAo ?_|refine zAa ?_|(refine nbI fun bq=>?_)|(first|refine zqm ?_ ?_|refine zgm ?_ ?_|refine zdm ?_ ?_)<;>(intro h;simp only[h,zB])|(first|refine zqs ?_ ?_|refine zgs ?_ ?_|refine zds ?_ ?_)<;>(intro h;first|(exfalso;simp at h;omega)|((try simp only[h]);(try simp at h))))
end Go.Proofs.YtkbglbcphjmiiaaGreatDoor
