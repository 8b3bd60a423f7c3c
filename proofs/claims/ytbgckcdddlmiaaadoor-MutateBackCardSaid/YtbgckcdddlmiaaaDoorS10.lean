import Derived.Test.YtbgckcdddlmiaaaDoorS9
set_option linter.unusedSimpArgs false
set_option linter.unusedVariables false
open Go.Proofs.Tryd
namespace Go.Proofs.YtbgckcdddlmiaaaDoor
open Go.Ab
set_option maxRecDepth 100000
set_option maxHeartbeats 16000000
theorem bZb (s:ByteArray):ACall prog 38 [.sc (.string s)] (fun r=>r= .sc (.string s)):=by
 refine bF func38 call38 rfl (by simp[ntmps38]) ?_;simp only[ntmps38,results38]
 repeat' (first|(refine aC fun _ _=>?_)|refine zHg ?_|(refine aU [] ?_;simp[go_sem])|simp(disch:=omega) [go_sem])
theorem P5: ∀(n:Nat) (ts:List Tm) (le fu:Bool),cE ts<n→cE ts≤1000000→
 ACall prog 53 [.list le fu (ts.map aL),.clo 38 []] (fun r=>r= .list false false (ts.map aL))
 |0,ts,le,fu,hn,_=>absurd hn (Nat.not_lt_zero _)
 |n+1,ts,le,fu,hn,hz=>by
  have ih:=P5 n
  have hlen:=qL ts
  refine ACall.frz (es:=2) ?_
  refine ACall.own_nil ?_
  refine bF func53 call53 rfl (by simp[ntmps53]) ?_;simp only[ntmps53,results53]
  repeat' (first|(refine aC fun _ _=>?_)|refine zHg ?_|simp(disch:=omega) [go_sem])
  refine cL [1,8,9] [900] (fun i:Nat=> [(10,nt .i64 i),(5,.ref 900 0 i)]) (fun i:Nat=> [(900,⟨true,false,false,2,(ts.take i).map aL,0⟩)]) (fun i:Nat=>ts.length - i) (fun i:Nat=>i≤ts.length) (0) (by refine Le.trans ?_ (Le.nil (i:=5) (T:=900) (es:=2) rfl);exact(Le.sub4 rfl (by simp[go_sem,List.take_zero,List.map_nil,List.length_nil]))) ⟨?_⟩ ?_
  ·exact Nat.zero_le _
  intro i hi AA hAA;simp only[kL,Nat.reduceBEq,Nat.reduceEqDiff,if_true,if_false,List.cons_append,List.nil_append,List.append_nil]
  by_cases hlt:i<ts.length
  ·have hsz:=zC hlt
   have htn:=iX hlt
   have hcc:=P2 ts[i]
   have hAl:(ts.take i).length=i:=by rw[List.length_take];omega
   generalize ts.take i=A at*
   generalize hti:ts[i]=t at*
   obtain⟨s,us⟩:=t
   rw[iK,cS]at hsz
   rw[P3]at hcc
   by_cases h0:us.length=0
   ·rw[decide_eq_true h0,Bool.true_and]at hcc
    obtain rfl:=List.eq_nil_of_length_eq_zero h0
    have hcl:=bZb s
    cases hc:lL s
    all_goals rw[hc]at hcc
    all_goals repeat' (first|(refine aC fun _ _=>?_)|refine zHg ?_|refine aV rfl (hcc) (by simp) ?_|refine aV rfl (hcl) (by simp) ?_|(refine(hAA.next (i+1) (by refine Le.trans ?_ (Le.looseRow 900 rfl (by show(0:Nat)≠1;decide));exact(Le.sub4 rfl (by simp[go_sem,hAl,htn,mQ,bM]))) (by(try dsimp only);omega) ?_))|simp(disch:=omega) [go_sem,hlt,hti,hAl]|refine zAo ?_|fail)
    all_goals(first|omega|skip)
    all_goals exact⟨hlt⟩
   ·rw[decide_eq_false h0,Bool.false_and]at hcc
    have hr:=ih us false false (by omega) (by omega)
    repeat' (first|(refine aC fun _ _=>?_)|refine zHg ?_|(refine zqd ?_ ?_<;>(intro h;first|(exfalso;omega)|(simp only[h,zT])))|refine aV rfl (hcc) (by simp) ?_|refine cU rfl (hr) rfl (by simp) ?_|(refine(hAA.next (i+1) (by refine Le.trans ?_ (Le.looseRow 900 rfl (by show(0:Nat)≠1;decide));exact(Le.sub4 rfl (by simp[go_sem,hAl,htn,mQ,bM]))) (by(try dsimp only);omega) ?_))|simp(disch:=omega) [go_sem,hlt,hti,h0,hAl]|refine zAo ?_|refine zDr 7 aT ?_|fail)
    all_goals(first|omega|skip)
    all_goals exact⟨hlt⟩
  ·obtain rfl:i=ts.length:=by omega
   rw[List.take_length]
   repeat' (first|(refine aC fun _ _=>?_)|refine zHg ?_|(refine aU [] ?_;simp[go_sem])|simp(disch:=omega) [go_sem])
abbrev aZ (n:Int):AObj:=⟨false,false,true,1,[nt .i64 n],0⟩
abbrev bB (m:Mu):AObj:=⟨false,false,true,3,[dM m],0⟩
abbrev bC (C:List ByteArray):AObj:=⟨false,false,true,1,[.list false false (C.map bM)],0⟩
abbrev bI (n:Int) (m:Mu) (C:List ByteArray):aF:= [(1000,aZ n),(1001,bB m),(1002,bC C)]
theorem bZc (m:Mu) (C:List ByteArray) (n:Int) (k p j:Nat) (hk:n+1=(k:Int)) (hk2:k≤3000000) (hKd:m.index.tdiv C.length=(p:Int)) (hpm:(p:Int)≤9223372036854775807) (hJ:m.index.tmod C.length=(j:Int)) (hj:j<C.length) (s:ByteArray):
 MCall prog 40 [.sc (.string s),.ptr 1000 0 0,.ptr 1001 0 0,.ptr 1002 0 0] (bI n m C) (fun r o'=>r= .sc (.string (if k=p then C[j]else s))∧o'=bI (n+1) m C):=by
 have hn0: ¬(C.length:Int)=0:=by omega
 have hne: ¬C= []:=fun h=>by rw[h]at hj;simp at hj
 have hKK:(n+1=(p:Int))↔k=p:=by omega
 by_cases hq:k=p
 ·rw[if_pos hq]
  refine eM func40 call40 rfl (by simp[ntmps40]) ?_;simp only[ntmps40,results40]
  repeat' (first|(refine aC fun _ _=>?_)|refine zHg ?_|simp(disch:=omega) [go_sem,bI,aZ,bB,bC,hKd,hJ,hn0,hne,hKK,hq,hj,bM]|refine zDr 7 aT ?_|fail)
  all_goals(first|omega|skip)
  refine cV ⟨24,[(5,.sc (.string C[j]))],bI (n+1) m C⟩ [.sc (.string C[j])] (Le.renSub [] [] (by simp[go_sem,bI,aZ,bB,bC,bM]) (by simp[go_sem,bI,aZ,bB,bC,bM]) (Le.sub4 rfl (by simp[go_sem,bI,aZ,bB,bC,bM]))) (by simp[go_sem,bI,aZ,bB,bC,bM]) ⟨rfl,rfl⟩
 ·rw[if_neg hq]
  refine eM func40 call40 rfl (by simp[ntmps40]) ?_;simp only[ntmps40,results40]
  repeat' (first|(refine aC fun _ _=>?_)|refine zHg ?_|simp(disch:=omega) [go_sem,bI,aZ,bB,bC,hKd,hJ,hn0,hne,hKK,hq,hj,bM]|refine zDr 7 aT ?_|fail)
  all_goals(first|omega|skip)
  refine cV ⟨24,[(5,.sc (.string s))],bI (n+1) m C⟩ [.sc (.string s)] (Le.renSub [] [] (by simp[go_sem,bI,aZ,bB,bC,bM]) (by simp[go_sem,bI,aZ,bB,bC,bM]) (Le.sub4 rfl (by simp[go_sem,bI,aZ,bB,bC,bM]))) (by simp[go_sem,bI,aZ,bB,bC,bM]) ⟨rfl,rfl⟩
theorem aFo (m:Mu) (C:List ByteArray) (p j:Nat) (hKd:m.index.tdiv C.length=(p:Int)) (hpm:(p:Int)≤9223372036854775807) (hJ:m.index.tmod C.length=(j:Int)) (hj:j<C.length): ∀(n:Nat) (ts:List Tm) (le fu:Bool) (e:Int) (k:Nat),cE ts<n→cE ts≤1000000→e+1=(k:Int)→k+cE ts≤2000000→
 MCall prog 53 [.list le fu (ts.map aL),.clo 40 [.ptr 1000 0 0,.ptr 1001 0 0,.ptr 1002 0 0]] (bI e m C) (fun r o'=>r= .list false false ((dE p C[j] k ts).map aL)∧o'=bI (e+(bL ts).length) m C)
 |0,ts,le,fu,e,k,hn,_,_,_=>absurd hn (Nat.not_lt_zero _)
 |n+1,ts,le,fu,e,k,hn,hz,he,hS=>by
  have ih:=aFo m C p j hKd hpm hJ hj n
  have hlen:=qL ts
  have hch:=bZc m C
  have key:MCall prog 53 [.list le fu (ts.map aL),.clo 40 [.ptr 1000 0 0,.ptr 1001 0 0,.ptr 1002 0 0]] (bI e m C) (fun r o'=>r= .ref 900 0 ts.length∧o'=(900,⟨true,false,false,2,(dE p C[j] k ts).map aL,0⟩)::bI (e+(bL ts).length) m C):=by
   have hcn:bL []= []:=rfl
   have hrz:dE p C[j] k []= []:=bWn
   refine eM func53 call53 rfl (by simp[ntmps53]) ?_;simp only[ntmps53,results53]
   skip
   repeat' (first|(refine aC fun _ _=>?_)|refine zHg ?_|simp(disch:=omega) [go_sem,bI,aZ,bB,bC])
   refine cL [1,8,9] [1000,900] (fun i:Nat=> [(10,nt .i64 i),(5,.ref 900 0 i)]) (fun i:Nat=> [(1000,aZ (e+(bL (ts.take i)).length)),(900,⟨true,false,false,2,(dE p C[j] k (ts.take i)).map aL,0⟩)]) (fun i:Nat=>ts.length - i) (fun i:Nat=>i≤ts.length) (0) (by refine Le.trans ?_ (Le.nil (i:=5) (T:=900) (es:=2) rfl);exact(Le.sub4 rfl (by simp[go_sem,bI,aZ,bB,bC,hcn,hrz,List.append_nil,List.take_zero,List.map_nil,List.length_nil]))) ⟨?_⟩ ?_
   ·exact Nat.zero_le _
   intro i hi AA hAA;simp only[kL,Nat.reduceBEq,Nat.reduceEqDiff,if_true,if_false,List.cons_append,List.nil_append,List.append_nil]
   by_cases hlt:i<ts.length
   ·have hsz:=zC hlt
    have htk:=aB8 hlt
    have htl:=aB9 ts (i+1)
    have hct:=tM (ts.take i)
    have htn:=iX hlt
    have hcx:bL (ts.take (i+1))=bL (ts.take i)++iP ts[i]:=by
     rw[htn,wJ]
     congr 1
     rw[pO,rZ,List.append_nil]
    have hrn:=bWm (K:=p) (c:=C[j]) (k:=k) hlt
    have hrl:(dE p C[j] k (ts.take i)).length=i:=by rw[O5,List.length_take];omega
    have hcc:=P2 ts[i]
    generalize bL (ts.take i)=D at*
    generalize dE p C[j] k (ts.take i)=R at*
    generalize hti:ts[i]=t at*
    obtain⟨s,us⟩:=t
    rw[iK,cS]at hsz htk
    rw[A0]at hcx
    rw[P3]at hcc
    rw[aEg]at hrn
    have hk':e+D.length+1=((k+D.length:Nat):Int):=by omega
    by_cases h0:us.length=0
    ·rw[if_pos h0]at hcx hrn
     rw[decide_eq_true h0,Bool.true_and]at hcc
     obtain rfl:=List.eq_nil_of_length_eq_zero h0
     by_cases hc:lL s=true
     ·rw[if_pos hc]at hcx
      rw[hc]at hcc
      simp only[hc,true_and]at hrn
      have hcl:=hch (e+D.length) (k+D.length) p j hk' (by omega) hKd hpm hJ hj s
      generalize(if k+D.length=p then C[j]else s)=z at*
      repeat' (first|(refine aC fun _ _=>?_)|refine zHg ?_|refine aV rfl (hcc) (by simp) ?_|simp(disch:=omega) [go_sem,hlt,hti,hrl,bI,aZ,bB,bC])
      refine bG [] [] 10000 _ _ (Fits.mk' (by simp[go_sem,bI,aZ,bB,bC]) (by simp[go_sem,bI,aZ,bB,bC])) (by simp[go_sem,bI,aZ,bB,bC]) (by simp[go_sem,bI,aZ,bB,bC]) (hcl) (by simp[go_sem,bI,aZ,bB,bC]) (by simp[go_sem,bI,aZ,bB,bC]) ?_
      repeat' (first|(refine aC fun _ _=>?_)|refine zHg ?_|(refine(hAA.next (i+1) (by refine Le.trans ?_ (Le.looseRow 900 rfl (by show(0:Nat)≠1;decide));exact(Le.sub4 rfl (by simp[go_sem,hrl,hcx,hrn,mQ,bM,Int.add_assoc]))) (by(try dsimp only);omega) ?_))|simp(disch:=omega) [go_sem,hlt,hti,hrl,bI,aZ,bB,bC]|refine zAo ?_|fail)
      all_goals(first|omega|skip)
      all_goals exact⟨hlt⟩
     ·rw[if_neg hc,List.append_nil]at hcx
      simp only[hc,false_and,if_false]at hrn
      rw[Bool.not_eq_true]at hc
      rw[hc]at hcc
      repeat' (first|(refine aC fun _ _=>?_)|refine zHg ?_|refine aV rfl (hcc) (by simp) ?_|(refine(hAA.next (i+1) (by refine Le.trans ?_ (Le.looseRow 900 rfl (by show(0:Nat)≠1;decide));exact(Le.sub4 rfl (by simp[go_sem,hrl,hcx,hrn,mQ,bM]))) (by(try dsimp only);omega) ?_))|simp(disch:=omega) [go_sem,hlt,hti,hrl,bI,aZ,bB,bC]|refine zAo ?_|fail)
      all_goals(first|omega|skip)
      all_goals exact⟨hlt⟩
    ·rw[if_neg h0]at hcx hrn
     rw[decide_eq_false h0,Bool.false_and]at hcc
     have hcu:=tM us
     have hr:=ih us false false (e+D.length) (k+D.length) (by omega) (by omega) hk' (by omega)
     generalize dE p C[j] (k+D.length) us=W at*
     generalize bL us=V at*
     repeat' (first|(refine aC fun _ _=>?_)|refine zHg ?_|(with_reducible refine dA ?_;first|(exact cX)|(refine zSkip ?_)|(refine cY rfl ?_ ?_))|(with_reducible refine cZ ?_;first|(refine zDone ?_)|(refine aD 0 rfl (by decide+kernel) (by decide+kernel) rfl rfl rfl ?_)|(refine aD 1 rfl (by decide+kernel) (by decide+kernel) rfl rfl rfl ?_)|(refine aD 2 rfl (by decide+kernel) (by decide+kernel) rfl rfl rfl ?_)|(refine aD 3 rfl (by decide+kernel) (by decide+kernel) rfl rfl rfl ?_)|(refine aD 4 rfl (by decide+kernel) (by decide+kernel) rfl rfl rfl ?_)|(refine zAll ?_;show cG _ _ _ _ _ _ _))|with_reducible refine dD ?_|(refine zqd ?_ ?_<;>(intro h;first|(exfalso;omega)|(simp only[h,zT])))|refine aV rfl (hcc) (by simp) ?_|simp(disch:=omega) [go_sem,hlt,hti,h0,hrl,bI,aZ,bB,bC]|refine zAny aT ?_|fail)
     all_goals refine bG [] [] 10000 _ _ (Fits.mk' (by simp[go_sem,bI,aZ,bB,bC]) (by simp[go_sem,bI,aZ,bB,bC])) (by simp[go_sem,bI,aZ,bB,bC]) (by simp[go_sem,bI,aZ,bB,bC]) (hr) (by simp[go_sem,bI,aZ,bB,bC]) (by simp[go_sem,bI,aZ,bB,bC]) ?_
     all_goals repeat' (first|(refine aC fun _ _=>?_)|refine zHg ?_|(with_reducible refine dA ?_;first|(exact cX)|(refine zSkip ?_)|(refine cY rfl ?_ ?_))|(with_reducible refine cZ ?_;first|(refine zDone ?_)|(refine aD 0 rfl (by decide+kernel) (by decide+kernel) rfl rfl rfl ?_)|(refine aD 1 rfl (by decide+kernel) (by decide+kernel) rfl rfl rfl ?_)|(refine aD 2 rfl (by decide+kernel) (by decide+kernel) rfl rfl rfl ?_)|(refine aD 3 rfl (by decide+kernel) (by decide+kernel) rfl rfl rfl ?_)|(refine aD 4 rfl (by decide+kernel) (by decide+kernel) rfl rfl rfl ?_)|(refine zAll ?_;show cG _ _ _ _ _ _ _))|with_reducible refine dD ?_|(refine(hAA.next (i+1) (by refine Le.trans ?_ (Le.looseRow 900 rfl (by show(0:Nat)≠1;decide));exact(Le.sub4 rfl (by simp[go_sem,hrl,hcx,hrn,mQ,bM,Int.add_assoc]))) (by(try dsimp only);omega) ?_))|simp(disch:=omega) [go_sem,hlt,hti,h0,hrl,bI,aZ,bB,bC]|refine zAo ?_|fail)
     all_goals(first|omega|skip)
     all_goals exact⟨hlt⟩
   ·obtain rfl:i=ts.length:=by omega
    rw[List.take_length]
    repeat' (first|(refine aC fun _ _=>?_)|refine zHg ?_|simp(disch:=omega) [go_sem,bI,aZ,bB,bC])
    refine cV ⟨40,[(4,.ref 900 0 ts.length)],(900,⟨true,false,false,2,(dE p C[j] k ts).map aL,0⟩)::bI (e+(bL ts).length) m C⟩ [.ref 900 0 ts.length] (Le.renSub [] [] (by simp[go_sem,bI,aZ,bB,bC]) (by simp[go_sem,bI,aZ,bB,bC]) (Le.sub4 rfl (by simp[go_sem,bI,aZ,bB,bC]))) (by simp[go_sem,bI,aZ,bB,bC]) ⟨rfl,rfl⟩
  have hrl:(dE p C[j] k ts).length=ts.length:=O5
  refine key.shared (s':=?_) (y:= .list false false ((dE p C[j] k ts).map aL)) (by simp[go_sem,bS,hrl];rfl) (by simp[go_sem]) (by simp[go_sem]) (by simp[go_sem])
theorem bZd {L lo n:Nat}:Ab.loose1 (.ref L lo n)= .ref L lo n:=rfl
attribute [go_sem] bZd
structure SzM (r:Rl):Prop where
 head:cE r.head.args≤20
 body:r.body.length≤8
 atom: ∀b∈r.body,cE b.atom.args≤20
theorem aFp (r:Rl) (hz:SzM r):
 MCall prog 37 [bZ r,.clo 38 []] []
  (fun v o'=>v= .agg [.sc (.string r.head.name),.list false false (r.head.args.map aL),if r.body.length=0 then .list false true []else .ref 900 0 r.body.length]∧
   o'=(4,⟨false,false,false,3,[.agg [.sc (.string r.head.name),.list false false (r.head.args.map aL),if r.body.length=0 then .list false true []else .ref 900 0 r.body.length]],0⟩)::(if r.body.length=0 then[]else[(900,⟨true,false,false,3,r.body.map bT,0⟩)])):=by
 obtain⟨h,bs⟩:=r
 obtain⟨hz1,hz2,hz3⟩:=hz
 dsimp only at*
 have h1:=P5 _ h.args false false (Nat.lt_succ_self _) (by omega)
 have ih2: ∀(i:Nat) (hi:i<bs.length),ACall prog 53 [.list false false (bs[i].atom.args.map aL),.clo 38 []] (fun r=>r= .list false false (bs[i].atom.args.map aL)):=fun i hi=>P5 _ _ false false (Nat.lt_succ_self _) (Nat.le_trans (hz3 _ (List.getElem_mem hi)) (by decide))
 refine eM func37 call37 rfl (by simp[ntmps37]) ?_;simp only[ntmps37,results37]
 repeat' (first|(refine aC fun _ _=>?_)|refine zHg ?_|refine cU rfl (h1) rfl (by simp) ?_|simp(disch:=omega) [go_sem]|refine zDr 11 aT ?_|fail)
 refine cL [1,4,19,20] [5,900] (fun y:Nat×List Lt=> [(21,nt .i64 y.1),(5,.ptr 5 0 0)]) (fun y:Nat×List Lt=>(5,⟨false,false,false,3,[.agg [.sc (.string h.name),.list false false (h.args.map aL),if y.2.length=0 then .list false true []else .ref 900 0 y.2.length]],0⟩)::(if y.2.length=0 then[]else[(900,⟨true,false,false,3,y.2.map bT,0⟩)])) (fun y:Nat×List Lt=>bs.length - y.1) (fun y:Nat×List Lt=>y.1≤bs.length∧y.2.length=y.1∧y.2++bs.drop y.1=bs) ((0,[])) (Le.sub4 rfl (by simp[go_sem])) ⟨?_⟩ ?_
 ·exact⟨Nat.zero_le _,rfl,rfl⟩
 intro⟨i,a⟩ ⟨hi,ha,hinv⟩ AA hAA;simp only[kL,Nat.reduceBEq,Nat.reduceEqDiff,if_true,if_false,List.cons_append,List.nil_append,List.append_nil]
 dsimp only at*
 by_cases hlt:i<bs.length
 ·have hu:=ih2 i hlt
  rw[List.drop_eq_getElem_cons hlt]at hinv
  clear ih2
  generalize hbi:bs[i]=b at*
  obtain⟨q,⟨s,us⟩⟩:=b
  dsimp only[cS,qK]at*
  by_cases h0:i=0
  ·subst h0
   obtain rfl:=List.eq_nil_of_length_eq_zero ha
   repeat' (first|(refine aC fun _ _=>?_)|refine zHg ?_|refine cU rfl (hu) rfl (by simp) ?_|(refine(hAA.next ((0+1,[⟨q,.mk s us⟩])) (Le.renSub [(40,900)] [(900,40)] (by simp[go_sem]) (by simp[go_sem]) (Le.sub4 rfl (by simp[go_sem]))) (by(try dsimp only);omega) ?_))|simp(disch:=omega) [go_sem,hlt,hbi]|refine zDr 14 aT ?_|fail)
   all_goals(first|omega|skip)
   all_goals exact⟨hlt,rfl,hinv⟩
  ·repeat' (first|(refine aC fun _ _=>?_)|refine zHg ?_|refine cU rfl (hu) rfl (by simp) ?_|(refine(hAA.next ((i+1,a++ [⟨q,.mk s us⟩])) (Le.sub4 rfl (by simp[go_sem,ha])) (by(try dsimp only);omega) ?_))|simp(disch:=omega) [go_sem,hlt,hbi,h0,ha]|refine zAo ?_|refine zDr 14 aT ?_|fail)
   all_goals(first|omega|skip)
   all_goals exact⟨hlt,by simp[ha],by rw[List.append_assoc];exact hinv⟩
 ·obtain rfl:i=bs.length:=by omega
  rw[List.drop_length,List.append_nil]at hinv
  subst hinv
  clear ih2
  by_cases h0:a.length=0
  ·obtain rfl:=List.eq_nil_of_length_eq_zero h0
   repeat' (first|(refine aC fun _ _=>?_)|refine zHg ?_|simp(disch:=omega) [go_sem])
   refine cV ⟨44,[(4,.ptr 4 0 0)],(4,⟨false,false,false,3,[.agg [.sc (.string h.name),.list false false (h.args.map aL),.list false true []]],0⟩):: []⟩ [.agg [.sc (.string h.name),.list false false (h.args.map aL),.list false true []]] (Le.renSub [] [] (by simp[go_sem]) (by simp[go_sem]) (Le.sub4 rfl (by simp[go_sem]))) (by simp[go_sem]) ⟨rfl,rfl⟩
  ·repeat' (first|(refine aC fun _ _=>?_)|refine zHg ?_|simp(disch:=omega) [go_sem,h0])
   refine cV ⟨44,[(4,.ptr 4 0 0)],(4,⟨false,false,false,3,[.agg [.sc (.string h.name),.list false false (h.args.map aL),.ref 900 0 a.length]],0⟩):: [(900,⟨true,false,false,3,a.map bT,0⟩)]⟩ [.agg [.sc (.string h.name),.list false false (h.args.map aL),.ref 900 0 a.length]] (Le.renSub [] [] (by simp[go_sem]) (by simp[go_sem]) (Le.sub4 rfl (by simp[go_sem]))) (by simp[go_sem]) ⟨rfl,rfl⟩
theorem bZe (r:Rl) (hz:SzM r):ACall prog 18 [bZ r] (fun v=>v=bZ r):=by
 have key:=aFp r hz
 by_cases h0:r.body.length=0
 ·obtain⟨h,bs⟩:=r
  obtain rfl:=List.eq_nil_of_length_eq_zero h0
  simp only[List.length_nil,if_true]at key
  have k2:=key.loose (o1:= []) (by simp[go_sem]) (by simp[go_sem]) (by simp[go_sem])
  clear key
  simp only[go_sem]at k2
  refine bF func18 call18 rfl (by simp[ntmps18]) ?_;simp only[ntmps18,results18]
  repeat' (first|(refine aC fun _ _=>?_)|refine zHg ?_|simp(disch:=omega) [go_sem])
  refine bG [] [] 10000 _ _ (Fits.mk' (by simp[go_sem]) (by simp[go_sem])) (by simp[go_sem]) (by simp[go_sem]) (k2) (by simp[go_sem]) (by simp[go_sem]) ?_
  repeat' (first|(refine aC fun _ _=>?_)|refine zHg ?_|(refine aU [] ?_;simp[go_sem])|simp(disch:=omega) [go_sem])
 ·simp only[h0,if_false]at key
  have k2:MCall prog 37 [bZ r,.clo 38 []] [] (fun v o'=>v=bZ r∧o'= []):=by
   refine key.shared (s':=?_) (y:= .agg [.sc (.string r.head.name),.list false false (r.head.args.map aL),.list false false (r.body.map bT)]) (by simp[go_sem,bS];rfl) (by simp[go_sem]) (by simp[go_sem]) (by simp[go_sem])
  clear key
  refine bF func18 call18 rfl (by simp[ntmps18]) ?_;simp only[ntmps18,results18]
  repeat' (first|(refine aC fun _ _=>?_)|refine zHg ?_|simp(disch:=omega) [go_sem])
  refine bG [] [] 10000 _ _ (Fits.mk' (by simp[go_sem]) (by simp[go_sem])) (by simp[go_sem]) (by simp[go_sem]) (k2) (by simp[go_sem]) (by simp[go_sem]) ?_
  repeat' (first|(refine aC fun _ _=>?_)|refine zHg ?_|(refine aU [] ?_;simp[go_sem])|simp(disch:=omega) [go_sem])
theorem bZf (r:Rl) (hz:SzM r) (h0: ¬r.body.length=0):MCall prog 18 [bZ r] [] (fun v o'=>v= .agg [.sc (.string r.head.name),.list false false (r.head.args.map aL),.ref 900 0 r.body.length]∧o'= [(900,⟨true,false,false,3,r.body.map bT,0⟩)]):=by
 have key:=aFp r hz
 simp only[h0,if_false]at key
 have k2:=key.loose (o1:= [(900,⟨true,false,false,3,r.body.map bT,0⟩)]) (by simp[go_sem]) (by simp[go_sem]) (by simp[go_sem])
 clear key
 simp only[go_sem]at k2
 have k3:=MCall.loose (o1:= [(900,⟨true,false,false,3,r.body.map bT,0⟩)]) (f:=18) (P:=prog) (args:= [bZ r]) (o:= []) (x:= .agg [.sc (.string r.head.name),.list false false (r.head.args.map aL),.ref 900 0 r.body.length]) (o2:=(2,⟨false,false,false,3,[.agg [.sc (.string r.head.name),.list false false (r.head.args.map aL),.ref 900 0 r.body.length]],0⟩):: [(900,⟨true,false,false,3,r.body.map bT,0⟩)]) (by
  refine eM func18 call18 rfl (by simp[ntmps18]) ?_;simp only[ntmps18,results18]
  repeat' (first|(refine aC fun _ _=>?_)|refine zHg ?_|simp(disch:=omega) [go_sem])
  refine bG [] [] 10000 _ _ (Fits.mk' (by simp[go_sem]) (by simp[go_sem])) (by simp[go_sem]) (by simp[go_sem]) (k2) (by simp[go_sem]) (by simp[go_sem]) ?_
  repeat' (first|(refine aC fun _ _=>?_)|refine zHg ?_|simp(disch:=omega) [go_sem])
  refine cV ⟨5,[(2,.ptr 2 0 0)],(2,⟨false,false,false,3,[.agg [.sc (.string r.head.name),.list false false (r.head.args.map aL),.ref 900 0 r.body.length]],0⟩):: [(900,⟨true,false,false,3,r.body.map bT,0⟩)]⟩ [.agg [.sc (.string r.head.name),.list false false (r.head.args.map aL),.ref 900 0 r.body.length]] (Le.renSub [(10900,900)] [(900,10900)] (by simp[go_sem]) (by simp[go_sem]) (Le.sub4 rfl (by simp[go_sem]))) (by simp[go_sem]) ⟨rfl,rfl⟩) (by simp[go_sem]) (by simp[go_sem]) (by simp[go_sem])
 simp only[go_sem]at k3
 exact k3
theorem bZg (x y:ByteArray):ACall prog 32 [.sc (.string x),.sc (.string y)] (fun r=>r=nt .i64 (iD x y)):=by
 have h:=fun a b c d=>bU7 x y a b c d
 unfold iD
 generalize cT (.mk x []) (.mk y [])=c at*
 refine bF func32 call32 rfl (by simp[ntmps32]) ?_;simp only[ntmps32,results32]
 repeat' (first|(refine aC fun _ _=>?_)|refine zHg ?_|(refine aU [] ?_;simp[go_sem])|refine aV rfl (h _ _ _ _) (by simp) ?_|simp(disch:=omega) [go_sem])
theorem bZh (t:Tm):ACall prog 35 [eT t] (fun r=>r=bl (oB t)):=by
 obtain⟨s,ts⟩:=t
 unfold oB
 rw[cS]
 by_cases h2:2≤ts.length
 ·rw[decide_eq_true h2,Bool.true_and]
  match ts,h2 with
  |a::b::r,h2=>
   have hc:=aCo a b
   have e1:(a::b::r).getD 0 zT=a:=rfl
   have e2:(a::b::r).getD 1 zT=b:=rfl
   rw[e1,e2]
   generalize cT a b=c at*
   refine bF func35 call35 rfl (by simp[ntmps35]) ?_;simp only[ntmps35,results35]
   repeat' (first|(refine aC fun _ _=>?_)|refine zHg ?_|(refine zdd ?_ ?_<;>(intro h;first|(exfalso;omega)|(simp only[h,zT])))|(refine aU [] ?_;simp[go_sem])|refine cU rfl (hc) rfl (by simp) ?_|simp(disch:=omega) [go_sem]|refine zAo ?_|refine zDr 17 aT ?_|fail)
 ·rw[decide_eq_false h2,Bool.false_and]
  have h2': ¬(2:Int)≤ts.length:=by omega
  refine bF func35 call35 rfl (by simp[ntmps35]) ?_;simp only[ntmps35,results35]
  repeat' (first|(refine aC fun _ _=>?_)|refine zHg ?_|(refine aU [] ?_;simp[go_sem,h2'])|simp(disch:=omega) [go_sem,h2']|refine zDr 17 aT ?_|fail)
theorem bZi (l:List Tm) (le fu:Bool) (h0:0<l.length) (hl:l.length≤1000000):ACall prog 54 [.list le fu (l.map aL)] (fun r=>r= .own 2 (l.map aL)):=by
 match l,h0 with
 |a::r,h0=>
  rw[List.length_cons]at hl
  refine bF func54 call54 rfl (by simp[ntmps54]) ?_;simp only[ntmps54,results54]
  repeat' (first|(refine aC fun _ _=>?_)|refine zHg ?_|(refine aU [] ?_;simp[go_sem])|simp(disch:=omega) [go_sem]|refine zAo ?_|fail)
  all_goals(first|omega|skip)
theorem aFq (t:Tm) (h2:2≤t.args.length) (hl:t.args.length≤1000000):ACall prog 41 [eT t] (fun r=>r=eT (jT t)):=by
 obtain⟨s,ts⟩:=t
 rw[cS]at h2 hl
 match ts,h2 with
 |a::b::r,h2=>
  have hc:=bZi (a::b::r) false false (by simp) hl
  simp only[List.map_cons,tB]at hc
  have e:jT (.mk s (a::b::r))= .mk s (b::a::r):=rfl
  rw[e]
  have key:ACall prog 41 [eT (.mk s (a::b::r))] (fun v=>v= .agg [.sc (.string s),.list false false (eT b::eT a::r.map aL)]):=by
   refine bF func41 call41 rfl (by simp[ntmps41]) ?_;simp only[ntmps41,results41]
   repeat' (first|((fail_if_success (refine qI ?_));refine iJ (fun K hK=>?_))|refine zHg ?_|refine aV rfl (hc) (by simp) ?_|simp(disch:=omega) [go_sem])
   all_goals(first|omega|skip)
   (try refine iJ (fun K hK=>?_));refine qG (Le.frzP 1 rfl (by intro h;cases h)) ?_
   repeat' (first|(refine aC fun _ _=>?_)|refine zHg ?_|(with_reducible refine dA ?_;first|(exact cX)|(refine zSkip ?_)|(refine cY rfl ?_ ?_))|(with_reducible refine cZ ?_;first|(refine zDone ?_)|(refine aD 0 rfl (by decide+kernel) (by decide+kernel) rfl rfl rfl ?_)|(refine aD 1 rfl (by decide+kernel) (by decide+kernel) rfl rfl rfl ?_)|(refine aD 2 rfl (by decide+kernel) (by decide+kernel) rfl rfl rfl ?_)|(refine aD 3 rfl (by decide+kernel) (by decide+kernel) rfl rfl rfl ?_)|(refine aD 4 rfl (by decide+kernel) (by decide+kernel) rfl rfl rfl ?_)|(refine aD 5 rfl (by decide+kernel) (by decide+kernel) rfl rfl rfl ?_)|(refine aD 6 rfl (by decide+kernel) (by decide+kernel) rfl rfl rfl ?_)|(refine aD 7 rfl (by decide+kernel) (by decide+kernel) rfl rfl rfl ?_)|(refine aD 8 rfl (by decide+kernel) (by decide+kernel) rfl rfl rfl ?_)|(refine aD 9 rfl (by decide+kernel) (by decide+kernel) rfl rfl rfl ?_)|(refine aD 10 rfl (by decide+kernel) (by decide+kernel) rfl rfl rfl ?_)|(refine aD 11 rfl (by decide+kernel) (by decide+kernel) rfl rfl rfl ?_)|(refine aD 12 rfl (by decide+kernel) (by decide+kernel) rfl rfl rfl ?_)|(refine aD 14 rfl (by decide+kernel) (by decide+kernel) rfl rfl rfl ?_)|(refine zAll ?_;show cG _ _ _ _ _ _ _))|with_reducible refine dD ?_|(refine aU [] ?_;simp[go_sem])|simp(disch:=omega) [go_sem]|refine zAo ?_|refine zAny aT ?_|fail)
   all_goals(first|omega|skip)
  have k2:=key.loose rfl
  have e2:Ab.loose (.agg [.sc (.string s),.list false false (eT b::eT a::r.map aL)])=eT (.mk s (b::a::r)):=by
   rw[←tB a,←tB b];rfl
  rw[e2]at k2
  exact k2
def fP (h:Tm) (bs:List Lt) (i:Nat):List ByteArray:=bL h.args++eX (bs.take i)
theorem P6 (h:Tm) (bs:List Lt):fP h bs 0=bL h.args:=by simp[fP,eX]
theorem P7 (h:Tm) (bs:List Lt):fP h bs bs.length=eC ⟨h,bs⟩:=by unfold fP eC;rw[List.take_length]
theorem P8 {h:Tm} {bs:List Lt} {i:Nat} (hi:i<bs.length):fP h bs (i+1)=fP h bs i++bL bs[i].atom.args:=by
 unfold fP
 rw[bWp hi,List.append_assoc]
theorem A6 {h:Tm} {bs:List Lt} (hz:SzM ⟨h,bs⟩): ∀i,i≤bs.length→(fP h bs i).length≤20+i*20
 |0,_=>by
  rw[P6]
  have:=tM h.args
  have:=hz.head
  dsimp only at this
  omega
 |i+1,hi=>by
  rw[P8 (by omega),List.length_append]
  have:=A6 hz i (by omega)
  have:=tM bs[i].atom.args
  have hil:i<bs.length:=by omega
  have:=hz.atom bs[i] (List.getElem_mem hil)
  have e:(i+1)*20=i*20+20:=by omega
  omega
theorem sB {r:Rl} (hz:SzM r):(eC r).length≤180:=by
 obtain⟨h,bs⟩:=r
 have:=A6 hz bs.length (Nat.le_refl _)
 rw[P7]at this
 have:=hz.body
 dsimp only at this
 omega
theorem bZj (r:Rl) (hz:SzM r):
 MCall prog 37 [bZ r,.clo 49 [.ptr 1000 0 0]] wN
  (fun v o'=>v= .agg [.sc (.string r.head.name),.list false false (r.head.args.map aL),if r.body.length=0 then .list false true []else .ref 900 0 r.body.length]∧
   o'=(4,⟨false,false,false,3,[.agg [.sc (.string r.head.name),.list false false (r.head.args.map aL),if r.body.length=0 then .list false true []else .ref 900 0 r.body.length]],0⟩)::(1000,bA (eC r).length)::(1001,bD (eC r))::(if r.body.length=0 then[]else[(900,⟨true,false,false,3,r.body.map bT,0⟩)])):=by
 have hsz:=sB hz
 have hle:=A6 (h:=r.head) (bs:=r.body) hz
 obtain⟨h,bs⟩:=r
 obtain⟨hz1,hz2,hz3⟩:=hz
 dsimp only at*
 have hnx:=fun i (hi:i<bs.length)=>P8 (h:=h) hi
 have hn0:=P6 h bs
 have hna:=P7 h bs
 have h1:=P4 _ h.args false false wN [] (Nat.lt_succ_self _) (by omega) (by(try simp);omega) (.inr ⟨rfl,rfl⟩)
 rw[List.nil_append]at h1
 have ih2: ∀(i:Nat) (hi:i<bs.length) (S:List ByteArray),S.length≤1000000→MCall prog 53 [.list false false (bs[i].atom.args.map aL),.clo 49 [.ptr 1000 0 0]] (eP S) (fun r o'=>r= .list false false (bs[i].atom.args.map aL)∧o'=eH (S++bL bs[i].atom.args)):=fun i hi S hS=>P4 _ _ false false _ S (Nat.lt_succ_self _) (Nat.le_trans (hz3 _ (List.getElem_mem hi)) (by decide)) (by have:=hz3 _ (List.getElem_mem hi);omega) (.inl ⟨rfl,trivial⟩)
 refine eM func37 call37 rfl (by simp[ntmps37]) ?_;simp only[ntmps37,results37]
 skip
 repeat' (first|((fail_if_success (refine qI ?_));refine iJ (fun K hK=>?_))|refine zHg ?_|simp(disch:=omega) [go_sem,bA,bD])
 refine aBj ⟨44,[(1,.clo 49 [.ptr 1000 0 0]),(2,.ptr 2 0 0),(4,.ptr 4 0 0),(5,.ptr 5 0 0)],(5,⟨false,false,false,3,[.agg [.sc (.string h.name),.list false false (h.args.map aL),.list false true []]],0⟩)::(4,⟨false,false,false,3,[.agg [.sc (.string ⟨#[]⟩),.list false true [],.list false true []]],0⟩)::(2,⟨false,true,false,3,[bZ ⟨h,bs⟩],0⟩)::(1000,bA (fP h bs 0).length)::(1001,bD (fP h bs 0)):: []⟩ (fun K hK=>?_) ?_
 ·(try refine iJ (fun K hK=>?_));refine qG (s0:=⟨44,[(1,.clo 49 [.ptr 1000 0 0]),(2,.ptr 2 0 0),(4,.ptr 4 0 0)],(2,⟨false,true,false,3,[bZ ⟨h,bs⟩],0⟩)::(4,⟨false,false,false,3,[.agg [.sc (.string ⟨#[]⟩),.list false true [],.list false true []]],0⟩)::wN⟩) (by refine Le.trans ?_ (Le.frzP 2 rfl (by intro h;cases h));exact(Le.sub4 rfl (by simp[go_sem]))) ?_
  repeat' (first|(refine aC fun _ _=>?_)|refine zHg ?_|(with_reducible refine dA ?_;first|(exact cX)|(refine zSkip ?_)|(refine cY rfl ?_ ?_))|(with_reducible refine cZ ?_;first|(refine zDone ?_)|(refine aD 0 rfl (by decide+kernel) (by decide+kernel) rfl rfl rfl ?_)|(refine aD 1 rfl (by decide+kernel) (by decide+kernel) rfl rfl rfl ?_)|(refine aD 2 rfl (by decide+kernel) (by decide+kernel) rfl rfl rfl ?_)|(refine aD 3 rfl (by decide+kernel) (by decide+kernel) rfl rfl rfl ?_)|(refine aD 4 rfl (by decide+kernel) (by decide+kernel) rfl rfl rfl ?_)|(refine aD 5 rfl (by decide+kernel) (by decide+kernel) rfl rfl rfl ?_)|(refine aD 6 rfl (by decide+kernel) (by decide+kernel) rfl rfl rfl ?_)|(refine aD 7 rfl (by decide+kernel) (by decide+kernel) rfl rfl rfl ?_)|(refine aD 8 rfl (by decide+kernel) (by decide+kernel) rfl rfl rfl ?_)|(refine aD 9 rfl (by decide+kernel) (by decide+kernel) rfl rfl rfl ?_)|(refine aD 10 rfl (by decide+kernel) (by decide+kernel) rfl rfl rfl ?_)|(refine aD 16 rfl (by decide+kernel) (by decide+kernel) rfl rfl rfl ?_)|(refine zAll ?_;show cG _ _ _ _ _ _ _))|with_reducible refine dD ?_|simp(disch:=omega) [go_sem,bA,bD]|refine zAny aT ?_|fail)
  all_goals refine bG [] [] 10000 _ _ (Fits.mk' (by simp[go_sem,eH,bA,bD]) (by simp[go_sem,eH,bA,bD])) (by simp[go_sem,eH,bA,bD]) (by simp[go_sem,eH,bA,bD]) (h1) (by simp[go_sem,eH,bA,bD]) (by simp[go_sem,eH,bA,bD]) ?_
  all_goals repeat' (first|(refine aC fun _ _=>?_)|refine zHg ?_|(with_reducible refine dA ?_;first|(exact cX)|(refine zSkip ?_)|(refine cY rfl ?_ ?_))|(with_reducible refine cZ ?_;first|(refine zDone ?_)|(refine aD 0 rfl (by decide+kernel) (by decide+kernel) rfl rfl rfl ?_)|(refine aD 1 rfl (by decide+kernel) (by decide+kernel) rfl rfl rfl ?_)|(refine aD 2 rfl (by decide+kernel) (by decide+kernel) rfl rfl rfl ?_)|(refine aD 3 rfl (by decide+kernel) (by decide+kernel) rfl rfl rfl ?_)|(refine aD 4 rfl (by decide+kernel) (by decide+kernel) rfl rfl rfl ?_)|(refine aD 5 rfl (by decide+kernel) (by decide+kernel) rfl rfl rfl ?_)|(refine aD 6 rfl (by decide+kernel) (by decide+kernel) rfl rfl rfl ?_)|(refine aD 7 rfl (by decide+kernel) (by decide+kernel) rfl rfl rfl ?_)|(refine aD 8 rfl (by decide+kernel) (by decide+kernel) rfl rfl rfl ?_)|(refine aD 9 rfl (by decide+kernel) (by decide+kernel) rfl rfl rfl ?_)|(refine aD 10 rfl (by decide+kernel) (by decide+kernel) rfl rfl rfl ?_)|(refine aD 16 rfl (by decide+kernel) (by decide+kernel) rfl rfl rfl ?_)|(refine zAll ?_;show cG _ _ _ _ _ _ _))|with_reducible refine dD ?_|refine(hK _ (Le.renSub [(11001,1001),(1001,11001)] [(11001,1001),(1001,11001)] (by simp[go_sem,hn0]) (by simp[go_sem,hn0]) (Le.sub4 rfl (by simp[go_sem,hn0]))))|simp(disch:=omega) [go_sem,bA,bD])
 repeat' (first|(refine aC fun _ _=>?_)|refine zHg ?_|simp(disch:=omega) [go_sem,bA,bD])
 refine cL [1,4,5,19,20] [5,900,1000,1001,2] (fun y:Nat×List Lt=> [(21,nt .i64 y.1)]) (fun y:Nat×List Lt=>(5,⟨false,false,false,3,[.agg [.sc (.string h.name),.list false false (h.args.map aL),if y.2.length=0 then .list false true []else .ref 900 0 y.2.length]],0⟩)::(1000,bA (fP h bs y.1).length)::(1001,bD (fP h bs y.1))::(if y.2.length=0 then[]else[(900,⟨true,false,false,3,y.2.map bT,0⟩)])) (fun y:Nat×List Lt=>bs.length - y.1) (fun y:Nat×List Lt=>y.1≤bs.length∧y.2.length=y.1∧y.2++bs.drop y.1=bs) ((0,[])) (Le.sub4 rfl (by simp[go_sem,bA,bD])) ⟨?_⟩ ?_
 ·exact⟨Nat.zero_le _,rfl,rfl⟩
 intro⟨i,a⟩ ⟨hi,ha,hinv⟩ AA hAA;simp only[kL,Nat.reduceBEq,Nat.reduceEqDiff,if_true,if_false,List.cons_append,List.nil_append,List.append_nil]
 dsimp only at*
 by_cases hlt:i<bs.length
 ·have hu:=ih2 i hlt (fP h bs i) (by have:=hle i hi;omega)
  have hcn:=hnx i hlt
  rw[List.drop_eq_getElem_cons hlt]at hinv
  clear ih2 hnx hn0 hna hle hsz
  generalize fP h bs i=S at*
  generalize hbi:bs[i]=b at*
  obtain⟨q,⟨s,us⟩⟩:=b
  dsimp only[cS,qK]at*
  rw[A5]at hu
  generalize bL us=V at*
  by_cases h0:i=0
  ·subst h0
   obtain rfl:=List.eq_nil_of_length_eq_zero ha
   repeat' (first|((fail_if_success (refine qI ?_));refine iJ (fun K hK=>?_))|refine zHg ?_|simp(disch:=omega) [go_sem,hlt,hbi,bA,bD])
   (try refine iJ (fun K hK=>?_));refine qG (s0:=⟨44,[(1,.clo 49 [.ptr 1000 0 0]),(4,.ptr 4 0 0),(5,.ptr 5 0 0),(7,.ptr 7 0 0),(19,.list false false (bs.map bT)),(20,nt .i64 bs.length),(21,nt .i64 0)],(5,⟨false,false,false,3,[.agg [.sc (.string h.name),.list false false (h.args.map aL),.list false true []]],0⟩)::(7,⟨false,true,false,3,[bT ⟨q,.mk s us⟩],0⟩)::(1000,bA S.length)::(1001,bD S)::(4,⟨false,false,false,3,[.agg [.sc (.string ⟨#[]⟩),.list false true [],.list false true []]],0⟩):: []⟩) (by refine Le.trans ?_ (Le.frzP 7 rfl (by intro h;cases h));exact(Le.sub4 rfl (by simp[go_sem,bA,bD,ha]))) ?_
   repeat' (first|(refine aC fun _ _=>?_)|refine zHg ?_|(with_reducible refine dA ?_;first|(exact cX)|(refine zSkip ?_)|(refine cY rfl ?_ ?_))|(with_reducible refine cZ ?_;first|(refine zDone ?_)|(refine aD 0 rfl (by decide+kernel) (by decide+kernel) rfl rfl rfl ?_)|(refine aD 1 rfl (by decide+kernel) (by decide+kernel) rfl rfl rfl ?_)|(refine aD 2 rfl (by decide+kernel) (by decide+kernel) rfl rfl rfl ?_)|(refine aD 3 rfl (by decide+kernel) (by decide+kernel) rfl rfl rfl ?_)|(refine aD 4 rfl (by decide+kernel) (by decide+kernel) rfl rfl rfl ?_)|(refine aD 5 rfl (by decide+kernel) (by decide+kernel) rfl rfl rfl ?_)|(refine aD 6 rfl (by decide+kernel) (by decide+kernel) rfl rfl rfl ?_)|(refine aD 7 rfl (by decide+kernel) (by decide+kernel) rfl rfl rfl ?_)|(refine aD 8 rfl (by decide+kernel) (by decide+kernel) rfl rfl rfl ?_)|(refine aD 9 rfl (by decide+kernel) (by decide+kernel) rfl rfl rfl ?_)|(refine aD 10 rfl (by decide+kernel) (by decide+kernel) rfl rfl rfl ?_)|(refine aD 16 rfl (by decide+kernel) (by decide+kernel) rfl rfl rfl ?_)|(refine zAll ?_;show cG _ _ _ _ _ _ _))|with_reducible refine dD ?_|simp(disch:=omega) [go_sem,hlt,hbi,bA,bD]|refine zAny aT ?_|fail)
   all_goals refine bG [] [] 10000 _ _ (Fits.mk' (by simp[go_sem,eP,bA,bD]) (by simp[go_sem,eP,bA,bD])) (by simp[go_sem,eP,bA,bD]) (by simp[go_sem,eP,bA,bD]) (hu) (by simp[go_sem,eP,bA,bD]) (by simp[go_sem,eP,bA,bD]) ?_
   all_goals repeat' (first|(refine aC fun _ _=>?_)|refine zHg ?_|(with_reducible refine dA ?_;first|(exact cX)|(refine zSkip ?_)|(refine cY rfl ?_ ?_))|(with_reducible refine cZ ?_;first|(refine zDone ?_)|(refine aD 0 rfl (by decide+kernel) (by decide+kernel) rfl rfl rfl ?_)|(refine aD 1 rfl (by decide+kernel) (by decide+kernel) rfl rfl rfl ?_)|(refine aD 2 rfl (by decide+kernel) (by decide+kernel) rfl rfl rfl ?_)|(refine aD 3 rfl (by decide+kernel) (by decide+kernel) rfl rfl rfl ?_)|(refine aD 4 rfl (by decide+kernel) (by decide+kernel) rfl rfl rfl ?_)|(refine aD 5 rfl (by decide+kernel) (by decide+kernel) rfl rfl rfl ?_)|(refine aD 6 rfl (by decide+kernel) (by decide+kernel) rfl rfl rfl ?_)|(refine aD 7 rfl (by decide+kernel) (by decide+kernel) rfl rfl rfl ?_)|(refine aD 8 rfl (by decide+kernel) (by decide+kernel) rfl rfl rfl ?_)|(refine aD 9 rfl (by decide+kernel) (by decide+kernel) rfl rfl rfl ?_)|(refine aD 10 rfl (by decide+kernel) (by decide+kernel) rfl rfl rfl ?_)|(refine aD 16 rfl (by decide+kernel) (by decide+kernel) rfl rfl rfl ?_)|(refine zAll ?_;show cG _ _ _ _ _ _ _))|with_reducible refine dD ?_|(refine(hAA.next ((0+1,[⟨q,.mk s us⟩])) (Le.renSub [(40,900),(11001,1001),(1001,11001)] [(900,40),(11001,1001),(1001,11001)] (by simp[go_sem,hcn]) (by simp[go_sem,hcn]) (Le.sub4 rfl (by simp[go_sem,hcn]))) (by(try dsimp only);omega) ?_))|simp(disch:=omega) [go_sem,hlt,hbi,bA,bD])
   all_goals(first|omega|skip)
   all_goals exact⟨hlt,rfl,hinv⟩
  ·repeat' (first|((fail_if_success (refine qI ?_));refine iJ (fun K hK=>?_))|refine zHg ?_|simp(disch:=omega) [go_sem,hlt,hbi,h0,ha,bA,bD])
   (try refine iJ (fun K hK=>?_));refine qG (s0:=⟨44,[(1,.clo 49 [.ptr 1000 0 0]),(4,.ptr 4 0 0),(5,.ptr 5 0 0),(7,.ptr 7 0 0),(19,.list false false (bs.map bT)),(20,nt .i64 bs.length),(21,nt .i64 i)],(5,⟨false,false,false,3,[.agg [.sc (.string h.name),.list false false (h.args.map aL),.ref 900 0 a.length]],0⟩)::(7,⟨false,true,false,3,[bT ⟨q,.mk s us⟩],0⟩)::(1000,bA S.length)::(1001,bD S)::(4,⟨false,false,false,3,[.agg [.sc (.string ⟨#[]⟩),.list false true [],.list false true []]],0⟩):: [(900,⟨true,false,false,3,a.map bT,0⟩)]⟩) (by refine Le.trans ?_ (Le.frzP 7 rfl (by intro h;cases h));exact(Le.sub4 rfl (by simp[go_sem,bA,bD,ha]))) ?_
   repeat' (first|(refine aC fun _ _=>?_)|refine zHg ?_|(with_reducible refine dA ?_;first|(exact cX)|(refine zSkip ?_)|(refine cY rfl ?_ ?_))|(with_reducible refine cZ ?_;first|(refine zDone ?_)|(refine aD 0 rfl (by decide+kernel) (by decide+kernel) rfl rfl rfl ?_)|(refine aD 1 rfl (by decide+kernel) (by decide+kernel) rfl rfl rfl ?_)|(refine aD 2 rfl (by decide+kernel) (by decide+kernel) rfl rfl rfl ?_)|(refine aD 3 rfl (by decide+kernel) (by decide+kernel) rfl rfl rfl ?_)|(refine aD 4 rfl (by decide+kernel) (by decide+kernel) rfl rfl rfl ?_)|(refine aD 5 rfl (by decide+kernel) (by decide+kernel) rfl rfl rfl ?_)|(refine aD 6 rfl (by decide+kernel) (by decide+kernel) rfl rfl rfl ?_)|(refine aD 7 rfl (by decide+kernel) (by decide+kernel) rfl rfl rfl ?_)|(refine aD 8 rfl (by decide+kernel) (by decide+kernel) rfl rfl rfl ?_)|(refine aD 9 rfl (by decide+kernel) (by decide+kernel) rfl rfl rfl ?_)|(refine aD 10 rfl (by decide+kernel) (by decide+kernel) rfl rfl rfl ?_)|(refine aD 16 rfl (by decide+kernel) (by decide+kernel) rfl rfl rfl ?_)|(refine zAll ?_;show cG _ _ _ _ _ _ _))|with_reducible refine dD ?_|simp(disch:=omega) [go_sem,hlt,hbi,h0,ha,bA,bD]|refine zAny aT ?_|fail)
   all_goals refine bG [] [] 10000 _ _ (Fits.mk' (by simp[go_sem,eP,bA,bD]) (by simp[go_sem,eP,bA,bD])) (by simp[go_sem,eP,bA,bD]) (by simp[go_sem,eP,bA,bD]) (hu) (by simp[go_sem,eP,bA,bD]) (by simp[go_sem,eP,bA,bD]) ?_
   all_goals repeat' (first|(refine aC fun _ _=>?_)|refine zHg ?_|(with_reducible refine dA ?_;first|(exact cX)|(refine zSkip ?_)|(refine cY rfl ?_ ?_))|(with_reducible refine cZ ?_;first|(refine zDone ?_)|(refine aD 0 rfl (by decide+kernel) (by decide+kernel) rfl rfl rfl ?_)|(refine aD 1 rfl (by decide+kernel) (by decide+kernel) rfl rfl rfl ?_)|(refine aD 2 rfl (by decide+kernel) (by decide+kernel) rfl rfl rfl ?_)|(refine aD 3 rfl (by decide+kernel) (by decide+kernel) rfl rfl rfl ?_)|(refine aD 4 rfl (by decide+kernel) (by decide+kernel) rfl rfl rfl ?_)|(refine aD 5 rfl (by decide+kernel) (by decide+kernel) rfl rfl rfl ?_)|(refine aD 6 rfl (by decide+kernel) (by decide+kernel) rfl rfl rfl ?_)|(refine aD 7 rfl (by decide+kernel) (by decide+kernel) rfl rfl rfl ?_)|(refine aD 8 rfl (by decide+kernel) (by decide+kernel) rfl rfl rfl ?_)|(refine aD 9 rfl (by decide+kernel) (by decide+kernel) rfl rfl rfl ?_)|(refine aD 10 rfl (by decide+kernel) (by decide+kernel) rfl rfl rfl ?_)|(refine aD 16 rfl (by decide+kernel) (by decide+kernel) rfl rfl rfl ?_)|(refine zAll ?_;show cG _ _ _ _ _ _ _))|with_reducible refine dD ?_|(refine(hAA.next ((i+1,a++ [⟨q,.mk s us⟩])) (Le.renSub [(11001,1001),(1001,11001)] [(11001,1001),(1001,11001)] (by simp[go_sem,hcn,ha]) (by simp[go_sem,hcn,ha]) (Le.sub4 rfl (by simp[go_sem,hcn,ha]))) (by(try dsimp only);omega) ?_))|simp(disch:=omega) [go_sem,hlt,hbi,h0,ha,bA,bD]|refine zAo ?_|fail)
   all_goals(first|omega|skip)
   all_goals exact⟨hlt,by simp[ha],by rw[List.append_assoc];exact hinv⟩
 ·obtain rfl:i=bs.length:=by omega
  rw[List.drop_length,List.append_nil]at hinv
  rw[hna]
  subst hinv
  clear ih2 hnx hn0 hna hle
  generalize eC ⟨h,a⟩=S at*
  by_cases h0:a.length=0
  ·obtain rfl:=List.eq_nil_of_length_eq_zero h0
   repeat' (first|(refine aC fun _ _=>?_)|refine zHg ?_|simp(disch:=omega) [go_sem,bA,bD])
   refine cV ⟨44,[(4,.ptr 4 0 0)],(4,⟨false,false,false,3,[.agg [.sc (.string h.name),.list false false (h.args.map aL),.list false true []]],0⟩)::(1000,bA S.length)::(1001,bD S):: []⟩ [.agg [.sc (.string h.name),.list false false (h.args.map aL),.list false true []]] (Le.renSub [] [] (by simp[go_sem,bA,bD]) (by simp[go_sem,bA,bD]) (Le.sub4 rfl (by simp[go_sem,bA,bD]))) (by simp[go_sem,bA,bD]) ⟨rfl,rfl⟩
  ·have h0': ¬a= []:=fun h=>h0 (by rw[h];rfl)
   repeat' (first|(refine aC fun _ _=>?_)|refine zHg ?_|simp(disch:=omega) [go_sem,h0,h0',bA,bD])
   refine cV ⟨44,[(4,.ptr 4 0 0)],(4,⟨false,false,false,3,[.agg [.sc (.string h.name),.list false false (h.args.map aL),.ref 900 0 a.length]],0⟩)::(1000,bA S.length)::(1001,bD S):: [(900,⟨true,false,false,3,a.map bT,0⟩)]⟩ [.agg [.sc (.string h.name),.list false false (h.args.map aL),.ref 900 0 a.length]] (Le.renSub [] [] (by simp[go_sem,bA,bD]) (by simp[go_sem,bA,bD]) (Le.sub4 rfl (by simp[go_sem,bA,bD]))) (by simp[go_sem,bA,bD]) ⟨rfl,rfl⟩
theorem aFr (r:Rl) (hz:SzM r):ACall prog 30 [bZ r] (fun v=>v= .own 1 ((eC r).map bM)):=by
 have key:=bZj r hz
 have k2:MCall prog 37 [bZ r,.clo 49 [.ptr 1000 0 0]] wN (fun v o'=>v=bZ r∧o'=eH (eC r)):=by
  by_cases h0:r.body.length=0
  ·obtain⟨h,bs⟩:=r
   obtain rfl:=List.eq_nil_of_length_eq_zero h0
   simp only[List.length_nil,if_true]at key
   exact key.loose (o1:=eH (eC ⟨h,[]⟩)) (by simp[go_sem]) (by simp[go_sem]) (by simp[go_sem])
  ·simp only[h0,if_false]at key
   refine key.shared (s':=?_) (y:= .agg [.sc (.string r.head.name),.list false false (r.head.args.map aL),.list false false (r.body.map bT)]) (by simp[go_sem,bS];rfl) (by simp[go_sem]) (by simp[go_sem]) (by simp[go_sem])
 clear key
 generalize eC r=S at*
 refine bF func30 call30 rfl (by simp[ntmps30]) ?_;simp only[ntmps30,results30]
 repeat' (first|(refine aC fun _ _=>?_)|refine zHg ?_|simp(disch:=omega) [go_sem])
 refine bG [(1000,3)] [(3,1000)] 10000 _ _ (Fits.mk' (by simp[go_sem,eH,bA,bD]) (by simp[go_sem,eH,bA,bD])) (by simp[go_sem,eH,bA,bD]) (by simp[go_sem,eH,bA,bD]) (k2) (by simp[go_sem,eH,bA,bD]) (by simp[go_sem,eH,bA,bD]) ?_
 repeat' (first|(refine aC fun _ _=>?_)|refine zHg ?_|(refine aU [] ?_;simp[go_sem,eH,bA,bD])|simp(disch:=omega) [go_sem,eH,bA,bD])
end Go.Proofs.YtbgckcdddlmiaaaDoor
