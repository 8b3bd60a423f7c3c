import Derived.Test.YtkbglbcphjmiiaaGreatDoorS5
import Derived.Test.YtkbglbcphjmiiaaGreatDoorS3
import Derived.Test.YtkbglbcphjmiiaaGreatDoorA11
import Derived.Test.YtkbglbcphjmiiaaGreatDoorA12
set_option linter.unusedSimpArgs false
set_option linter.unusedVariables false
open Go.Proofs.Tryz
namespace Go.Proofs.YtkbglbcphjmiiaaGreatDoor
open Go.Ab
set_option maxRecDepth 100000
set_option maxHeartbeats 8000000
theorem aG3 (t:Tm):ACall prog 130 [eT t] (fun r=>r=bl (mX t)):=by
 unfold mX
 have he: ∀b:ByteArray,b.size=0→b=⟨#[]⟩:=fun b h=>by
  obtain⟨d⟩:=b
  congr 1
  exact Array.eq_empty_of_size_eq_zero h
 by_cases h0:t.args.length=0
 ·by_cases h1:t.name.size=0
  ·have h1':=he _ h1
   rw[decide_eq_true h0,show decide (t.name.size≠0)=false from decide_eq_false (fun h=>h h1)]
   refine bD func130 call130 rfl (by simp[ntmps130]) ?_;simp only[ntmps130,results130]
   repeat' (first|(refine aC fun _ _=>?_)|refine zHg ?_|(refine aT [] ?_;simp[go_sem,h0,h1'])|simp(disch:=omega) [go_sem,h0,h1'])
  ·have h1': ¬t.name=⟨#[]⟩:=fun h=>h1 (by rw[h];rfl)
   by_cases h2:65≤bt t.name 0
   ·by_cases h3:bt t.name 0≤90
    ·rw[decide_eq_true h0,decide_eq_true (show t.name.size≠0 from h1),decide_eq_true h2,decide_eq_true h3]
     refine bD func130 call130 rfl (by simp[ntmps130]) ?_;simp only[ntmps130,results130]
     repeat' (first|(refine aC fun _ _=>?_)|refine zHg ?_|(refine aT [] ?_;simp[go_sem,h0,h1,h1',h2,h3])|simp(disch:=omega) [go_sem,h0,h1,h1',h2,h3]|refine zAo ?_|fail)
    ·rw[decide_eq_true h0,decide_eq_true (show t.name.size≠0 from h1),decide_eq_true h2,decide_eq_false h3]
     refine bD func130 call130 rfl (by simp[ntmps130]) ?_;simp only[ntmps130,results130]
     repeat' (first|(refine aC fun _ _=>?_)|refine zHg ?_|(refine aT [] ?_;simp[go_sem,h0,h1,h1',h2,h3])|simp(disch:=omega) [go_sem,h0,h1,h1',h2,h3]|refine zAo ?_|fail)
   ·rw[decide_eq_true h0,decide_eq_true (show t.name.size≠0 from h1),decide_eq_false h2]
    refine bD func130 call130 rfl (by simp[ntmps130]) ?_;simp only[ntmps130,results130]
    repeat' (first|(refine aC fun _ _=>?_)|refine zHg ?_|(refine aT [] ?_;simp[go_sem,h0,h1,h1',h2])|simp(disch:=omega) [go_sem,h0,h1,h1',h2]|refine zAo ?_|fail)
 ·rw[decide_eq_false h0]
  refine bD func130 call130 rfl (by simp[ntmps130]) ?_;simp only[ntmps130,results130]
  repeat' (first|(refine aC fun _ _=>?_)|refine zHg ?_|(refine aT [] ?_;simp[go_sem,h0])|simp(disch:=omega) [go_sem,h0])
theorem aG4: ∀l:List Tm,l.length≤eS l
 | []=>by simp
 |t::r=>by have:=aG4 r;rw[eS,List.length_cons];omega
theorem Z1: ∀t:Tm,fP t≤2305843009213693952→ACall prog 88 [eT t] (fun r=>r= .sc (.string (fD t))):=by
 refine dS fun t ih hz=>?_
 obtain⟨n,ts⟩:=t
 simp only[cT]at ih
 rw[vV]at hz
 rw[fD]
 have hsz: ∀i,(jS (n++⟨#[40]⟩) (ts.take i)).size≤n.size+1+eS ts:=fun i=>by
  rw[V8 fun t _=>aF2 t,yY]
  have h1:(⟨#[40]⟩:ByteArray).size=1:=rfl
  have:=cEv (ts:=ts) (i:=i)
  omega
 have hs0:jS (n++⟨#[40]⟩) []=n++⟨#[40]⟩:=rfl
 refine bD func88 call88 rfl (by simp[ntmps88]) ?_;simp only[ntmps88,results88]
 repeat' (first|(refine aC fun _ _=>?_)|refine zHg ?_|simp(disch:=omega) [go_sem]|refine zAo ?_|fail)
 refine bR [1,10] [] (fun i:Nat=> [(11,nt .i64 i),(3,.sc (.string (jS (n++⟨#[40]⟩) (ts.take i))))]) (fun i:Nat=> []) (fun i:Nat=>ts.length - i) (fun i:Nat=>i≤ts.length) (0) (Le.sub4 rfl (by simp[go_sem,hs0,List.take_zero])) ⟨?_⟩ ?_
 ·exact Nat.zero_le _
 intro i hi AA hAA;simp only[kL,Nat.reduceBEq,Nat.reduceEqDiff,if_true,if_false,List.cons_append,List.nil_append,List.append_nil]
 have h1:=hsz i
 have hll:=aG4 ts
 by_cases hlt:i<ts.length
 ·have hm:=aF5 (List.getElem_mem hlt)
  have hu:=ih ts[i] (List.getElem_mem hlt) (by omega)
  have hn:=cEu (a:=n++⟨#[40]⟩) hlt
  have h2:=aF2 ts[i]
  generalize jS (n++⟨#[40]⟩) (ts.take i)=A at*
  generalize fD ts[i]=B at*
  repeat' (first|(refine aC fun _ _=>?_)|refine zHg ?_|refine aP rfl (hu) (by simp) ?_|(refine(hAA.next (i+1) (Le.sub4 rfl (by simp[go_sem,hn])) (by(try dsimp only);omega) ?_))|simp(disch:=omega) [go_sem,hlt]|refine zAo ?_|fail)
  all_goals(first|omega|skip)
  exact⟨by omega⟩
 ·obtain rfl:i=ts.length:=by omega
  rw[List.take_length]at*
  generalize jS (n++⟨#[40]⟩) ts=A at*
  repeat' (first|(refine aC fun _ _=>?_)|refine zHg ?_|(refine aT [] ?_;simp[go_sem])|simp(disch:=omega) [go_sem]|refine zAo ?_|fail)
theorem aG5 {q M:Nat} (hq:q≤1000000): ∀t:Tm,eE q M t→t.depth≤1000000→ACall prog 89 [eT t] (fun r=>r=nt .i64 t.depth):=by
 refine dS fun t ih ho hs=>?_
 obtain⟨s,ts⟩:=t
 simp only[cT]at ih
 obtain⟨-,hl,ho⟩:=pV.1 ho
 have ho:=uE.1 ho
 have hda: ∀t∈ts,t.depth+1≤(Tm.mk s ts).depth:=fun t ht=>W4 ht
 rw[pS]at*
 simp only[cT]at*
 have hdi: ∀i,eV (ts.take i)≤eV ts:=fun i=>by
  have:=U6 (ts.take i) (ts.drop i)
  rw[List.take_append_drop]at this;omega
 refine bD func89 call89 rfl (by simp[ntmps89]) ?_;simp only[ntmps89,results89]
 repeat' (first|(refine aC fun _ _=>?_)|refine zHg ?_|simp(disch:=omega) [go_sem])
 refine bR [1,7] [] (fun i:Nat=> [(8,nt .i64 i),(3,nt .i64 (eV (ts.take i)))]) (fun i:Nat=> []) (fun i:Nat=>ts.length - i) (fun i:Nat=>i≤ts.length) (0) (Le.sub4 rfl (by simp[go_sem,eV,List.take_zero])) ⟨?_⟩ ?_
 ·exact Nat.zero_le _
 intro i hi AA hAA;simp only[kL,Nat.reduceBEq,Nat.reduceEqDiff,if_true,if_false,List.cons_append,List.nil_append,List.append_nil]
 have hd1:=hdi i
 by_cases hlt:i<ts.length
 ·have hu:=ih ts[i] (List.getElem_mem hlt) (ho _ (List.getElem_mem hlt)) (by have:=hda _ (List.getElem_mem hlt);omega)
  have hn:=cDq hlt
  repeat' (first|(refine aC fun _ _=>?_)|refine zHg ?_|refine aP rfl (hu) (by simp) ?_|(refine(hAA.next (i+1) (Le.sub4 rfl (by simp[go_sem,hn,cDs])) (by(try dsimp only);omega) ?_))|simp(disch:=omega) [go_sem,hlt])
  all_goals(first|omega|skip)
  exact⟨by omega⟩
 ·obtain rfl:i=ts.length:=by omega
  rw[List.take_length]at*
  repeat' (first|(refine aC fun _ _=>?_)|refine zHg ?_|(refine aT [] ?_;simp[go_sem])|simp(disch:=omega) [go_sem])
theorem J8 {s:List Bd} {n:ByteArray} {i:Nat} (h:i<s.length) (he:s[i].v=n) (hn: ∀(k:Nat) (hk:k<s.length),k<i→ ¬s[k].v=n):fH s n=some s[i].t:=by
 have:s.find? (fun b=>decide (b.v=n))=some s[i]:=by
  rw[List.find?_eq_some_iff_getElem]
  exact⟨by simpa using he,i,h,rfl,fun j hj=>by simpa using hn j (by omega) hj⟩
 unfold fH
 rw[this];rfl
theorem J9 {s:List Bd} {n:ByteArray} (hn: ∀(k:Nat) (hk:k<s.length),k<s.length→ ¬s[k].v=n):fH s n=none:=by
 have:s.find? (fun b=>decide (b.v=n))=none:=by
  rw[List.find?_eq_none]
  intro x hx
  obtain⟨k,hk,rfl⟩:=List.mem_iff_getElem.1 hx
  simpa using hn k hk hk
 unfold fH
 rw[this];rfl
def rF (s:List Bd) (ts a:List Tm):Option (List Tm):=(kP ts s).map fun l=>a++l
theorem aG6 {s:List Bd} {t:Tm} {ts a:List Tm}:rF s (t::ts) a=if(gL t s).2=true then rF s ts (a++ [(gL t s).1])else none:=by
 unfold rF
 rw[W2]
 split
 ·cases kP ts s<;>simp
 ·rfl
theorem cGz (s:List Bd) (le fu:Bool) {q M:Nat} (hq:q≤1000000): ∀t:Tm,eE q M t→ACall prog 91 [eT t,.list false fu (s.map bK)] (fun r=>r= .tup [eT (gL t s).1,bl (gL t s).2]):=by
 refine dS fun t ih ho=>?_
 obtain⟨n,ts⟩:=t
 simp only[cT]at ih
 obtain⟨-,hl,ho⟩:=pV.1 ho
 have ho:=uE.1 ho
 have hv:=aG3 (.mk n ts)
 rw[aF7]
 cases hU:mX (.mk n ts)
 ·rw[hU]at hv
  simp only[Bool.false_eq_true,if_false]
  cases hG:kP ts s with
  |none=>
   show ACall _ _ _ (fun r=>r= .tup [eT (.mk n ts),bl false])
   refine bD func91 call91 rfl (by simp[ntmps91]) ?_;simp only[ntmps91,results91]
   repeat' (first|(refine aC fun _ _=>?_)|refine zHg ?_|refine aP rfl (hv) (by simp) ?_|simp(disch:=omega) [go_sem])
   refine bR [1,2,4,7,38] [7,900,9] (fun y:Nat×List Tm=> [(39,nt .i64 y.1)]) (fun y:Nat×List Tm=>(7,⟨false,false,false,2,[.agg [.sc (.string n),if y.2.length=0 then .list false true []else .ref 900 0 y.2.length]],0⟩)::(if y.2.length=0 then[]else[(900,⟨true,false,false,2,y.2.map bO,0⟩)])) (fun y:Nat×List Tm=>ts.length - y.1) (fun y:Nat×List Tm=>y.1≤ts.length∧y.2.length=y.1∧rF s (ts.drop y.1) y.2=none) ((0,[])) (Le.sub4 rfl (by simp[go_sem])) ⟨?_⟩ ?_
   ·exact⟨Nat.zero_le _,rfl,by unfold rF;rw[List.drop_zero,hG];rfl⟩
   intro⟨i,a⟩ ⟨hi,ha,hinv⟩ AA hAA;simp only[kL,Nat.reduceBEq,Nat.reduceEqDiff,if_true,if_false,List.cons_append,List.nil_append,List.append_nil]
   dsimp only at*
   by_cases hlt:i<ts.length
   ·have hu:=ih _ (List.getElem_mem hlt) (ho _ (List.getElem_mem hlt))
    rw[List.drop_eq_getElem_cons hlt,aG6]at hinv
    generalize gL ts[i] s=x at*
    obtain⟨x,b⟩:=x
    dsimp only at*
    cases b
    ·by_cases h0:i=0
     ·subst h0
      obtain rfl:=List.eq_nil_of_length_eq_zero ha
      repeat' (first|(refine aC fun _ _=>?_)|refine zHg ?_|(refine aT [] ?_;simp[go_sem,hlt])|refine aP rfl (hu) (by simp) ?_|simp(disch:=omega) [go_sem,hlt])
     ·repeat' (first|(refine aC fun _ _=>?_)|refine zHg ?_|(refine aT [] ?_;simp[go_sem,hlt,h0,ha])|refine aP rfl (hu) (by simp) ?_|simp(disch:=omega) [go_sem,hlt,h0,ha])
    ·by_cases h0:i=0
     ·subst h0
      obtain rfl:=List.eq_nil_of_length_eq_zero ha
      repeat' (first|(refine aC fun _ _=>?_)|refine zHg ?_|refine aP rfl (hu) (by simp) ?_|(refine(hAA.next ((0+1,[x])) (Le.renSub [(59,900)] [(900,59)] (by simp[go_sem]) (by simp[go_sem]) (Le.sub4 rfl (by simp[go_sem]))) (by(try dsimp only);omega) ?_))|simp(disch:=omega) [go_sem,hlt])
      all_goals(first|omega|skip)
      exact⟨hlt,rfl,hinv⟩
     ·repeat' (first|(refine aC fun _ _=>?_)|refine zHg ?_|refine aP rfl (hu) (by simp) ?_|(refine(hAA.next ((i+1,a++ [x])) (Le.sub4 rfl (by simp[go_sem,ha])) (by(try dsimp only);omega) ?_))|simp(disch:=omega) [go_sem,hlt,h0,ha]|refine zAo ?_|fail)
      all_goals(first|omega|skip)
      exact⟨hlt,by simp[ha],hinv⟩
   ·obtain rfl:i=ts.length:=by omega
    rw[List.drop_length]at hinv
    simp[rF,H9]at hinv
  |some l=>
   show ACall _ _ _ (fun r=>r= .tup [eT (.mk n l),bl true])
   have hll:=W3 hG
   refine ACall.looseT (x:= .agg [.sc (.string n),.list false (decide (ts.length=0)) (l.map bO)]) rfl ?_
   refine bD func91 call91 rfl (by simp[ntmps91]) ?_;simp only[ntmps91,results91]
   repeat' (first|(refine aC fun _ _=>?_)|refine zHg ?_|refine aP rfl (hv) (by simp) ?_|simp(disch:=omega) [go_sem])
   refine bR [1,2,4,7,38] [7,900,9] (fun y:Nat×List Tm=> [(39,nt .i64 y.1)]) (fun y:Nat×List Tm=>(7,⟨false,false,false,2,[.agg [.sc (.string n),if y.2.length=0 then .list false true []else .ref 900 0 y.2.length]],0⟩)::(if y.2.length=0 then[]else[(900,⟨true,false,false,2,y.2.map bO,0⟩)])) (fun y:Nat×List Tm=>ts.length - y.1) (fun y:Nat×List Tm=>y.1≤ts.length∧y.2.length=y.1∧rF s (ts.drop y.1) y.2=some l) ((0,[])) (Le.sub4 rfl (by simp[go_sem])) ⟨?_⟩ ?_
   ·exact⟨Nat.zero_le _,rfl,by unfold rF;rw[List.drop_zero,hG];rfl⟩
   intro⟨i,a⟩ ⟨hi,ha,hinv⟩ AA hAA;simp only[kL,Nat.reduceBEq,Nat.reduceEqDiff,if_true,if_false,List.cons_append,List.nil_append,List.append_nil]
   dsimp only at*
   by_cases hlt:i<ts.length
   ·have hu:=ih _ (List.getElem_mem hlt) (ho _ (List.getElem_mem hlt))
    rw[List.drop_eq_getElem_cons hlt,aG6]at hinv
    generalize gL ts[i] s=x at*
    obtain⟨x,b⟩:=x
    dsimp only at*
    cases b
    ·cases hinv
    ·by_cases h0:i=0
     ·subst h0
      obtain rfl:=List.eq_nil_of_length_eq_zero ha
      repeat' (first|(refine aC fun _ _=>?_)|refine zHg ?_|refine aP rfl (hu) (by simp) ?_|(refine(hAA.next ((0+1,[x])) (Le.renSub [(59,900)] [(900,59)] (by simp[go_sem]) (by simp[go_sem]) (Le.sub4 rfl (by simp[go_sem]))) (by(try dsimp only);omega) ?_))|simp(disch:=omega) [go_sem,hlt])
      all_goals(first|omega|skip)
      exact⟨hlt,rfl,hinv⟩
     ·repeat' (first|(refine aC fun _ _=>?_)|refine zHg ?_|refine aP rfl (hu) (by simp) ?_|(refine(hAA.next ((i+1,a++ [x])) (Le.sub4 rfl (by simp[go_sem,ha])) (by(try dsimp only);omega) ?_))|simp(disch:=omega) [go_sem,hlt,h0,ha]|refine zAo ?_|fail)
      all_goals(first|omega|skip)
      exact⟨hlt,by simp[ha],hinv⟩
   ·obtain rfl:i=ts.length:=by omega
    rw[List.drop_length]at hinv
    simp only[rF,H9,Option.map_some,List.append_nil,Option.some.injEq]at hinv
    subst hinv
    by_cases h0:ts.length=0
    ·obtain rfl:=List.eq_nil_of_length_eq_zero (ha.trans h0)
     repeat' (first|(refine aC fun _ _=>?_)|refine zHg ?_|(refine aT [] ?_;simp[go_sem,h0])|simp(disch:=omega) [go_sem,h0])
    ·repeat' (first|(refine aC fun _ _=>?_)|refine zHg ?_|(refine aT [] ?_;simp[go_sem,h0,ha])|simp(disch:=omega) [go_sem,h0,ha])
 ·rw[hU]at hv
  simp only[if_true]
  clear ih ho
  generalize hR:uD (.mk n ts) (fH s n)=R
  refine ACall.bound (i:=1) rfl call91 fun hb=>?_
  rw[List.length_map]at hb
  have hb:s.length≤140737488355328:=hb
  refine bD func91 call91 rfl (by simp[ntmps91]) ?_;simp only[ntmps91,results91]
  repeat' (first|(refine aC fun _ _=>?_)|refine zHg ?_|refine aP rfl (hv) (by simp) ?_|simp(disch:=omega) [go_sem])
  refine bR [1,2,4,14] [] (fun i:Nat=> [(15,nt .i64 i)]) (fun i:Nat=> []) (fun i:Nat=>s.length - i) (fun i:Nat=>i≤s.length∧ ∀(k:Nat) (hk:k<s.length),k<i→ ¬s[k].v=n) (0) (Le.sub4 rfl (by simp[go_sem])) ⟨?_⟩ ?_
  ·exact⟨Nat.zero_le _,fun k _ hk=>absurd hk (Nat.not_lt_zero _)⟩
  intro i ⟨hi,hn⟩ AA hAA;simp only[kL,Nat.reduceBEq,Nat.reduceEqDiff,if_true,if_false,List.cons_append,List.nil_append,List.append_nil]
  by_cases hlt:i<s.length
  ·by_cases hq:s[i].v=n
   ·rw[J8 hlt hq hn]at hR
    subst hR
    repeat' (first|(refine aC fun _ _=>?_)|refine zHg ?_|(refine aT [] ?_;simp[go_sem,hlt,hq,uD])|simp(disch:=omega) [go_sem,hlt,hq,uD]|refine zDr 8 bE ?_|fail)
   ·repeat' (first|(refine aC fun _ _=>?_)|refine zHg ?_|(refine(hAA.next (i+1) (Le.sub4 rfl (by simp[go_sem])) (by(try dsimp only);omega) ?_))|simp(disch:=omega) [go_sem,hlt,hq]|refine zDr 8 bE ?_|fail)
    all_goals(first|omega|skip)
    exact⟨hlt,fun k hk hki=>by rcases Nat.lt_or_eq_of_le (Nat.le_of_lt_succ hki)with h|rfl;exact hn k hk h;exact hq⟩
  ·obtain rfl:i=s.length:=by omega
   rw[J9 hn]at hR
   subst hR
   repeat' (first|(refine aC fun _ _=>?_)|refine zHg ?_|(refine aT [] ?_;simp[go_sem,uD])|simp(disch:=omega) [go_sem,uD])
theorem cG0 (n:ByteArray) (ts:List Tm):ACall prog 159 [eT (.mk n ts)] (fun r=>r=bl (decide (ts.length=0∧cA n=true))):=by
 have h1:=H0 n
 by_cases h0:ts.length=0
 ·have e:decide (ts.length=0∧cA n=true)=cA n:=by simp[h0]
  rw[e]
  generalize cA n=a at*
  refine bD func159 call159 rfl (by simp[ntmps159]) ?_;simp only[ntmps159,results159]
  repeat' (first|(refine aC fun _ _=>?_)|refine zHg ?_|(refine aT [] ?_;simp[go_sem,h0])|refine aP rfl (h1) (by simp) ?_|simp(disch:=omega) [go_sem,h0])
 ·have e:decide (ts.length=0∧cA n=true)=false:=by simp[h0]
  rw[e]
  refine bD func159 call159 rfl (by simp[ntmps159]) ?_;simp only[ntmps159,results159]
  repeat' (first|(refine aC fun _ _=>?_)|refine zHg ?_|(refine aT [] ?_;simp[go_sem,h0])|simp(disch:=omega) [go_sem,h0])
theorem Z2 (n:ByteArray) (ts:List Tm):ACall prog 127 [eT (.mk n ts)] (fun r=>r=bl (decide (ts.length=0∧cA n=true))):=by
 have h1:=aFa n
 by_cases h0:ts.length=0
 ·have e:decide (ts.length=0∧cA n=true)=cA n:=by simp[h0]
  rw[e]
  generalize cA n=a at*
  refine bD func127 call127 rfl (by simp[ntmps127]) ?_;simp only[ntmps127,results127]
  repeat' (first|(refine aC fun _ _=>?_)|refine zHg ?_|(refine aT [] ?_;simp[go_sem,h0])|refine aP rfl (h1) (by simp) ?_|simp(disch:=omega) [go_sem,h0])
 ·have e:decide (ts.length=0∧cA n=true)=false:=by simp[h0]
  rw[e]
  refine bD func127 call127 rfl (by simp[ntmps127]) ?_;simp only[ntmps127,results127]
  repeat' (first|(refine aC fun _ _=>?_)|refine zHg ?_|(refine aT [] ?_;simp[go_sem,h0])|simp(disch:=omega) [go_sem,h0])
theorem cG1: ∀t:Tm,t.size≤1000000→ACall prog 124 [eT t] (fun r=>r=eT t):=by
 refine dS fun t ih hsz=>?_
 obtain⟨n,ts⟩:=t
 simp only[cT]at ih
 rw[iA,cT]at hsz
 have hlen:=sG ts
 have ih': ∀(i:Nat) (h:i<ts.length),ACall prog 124 [eT ts[i]] (fun r=>r=eT ts[i]):=fun i h=>ih _ (List.getElem_mem h) (by have:=vT h;omega)
 clear ih
 refine ACall.loose (x:= .agg [.sc (.string n),.list false (decide (ts.length=0)) (ts.map bO)]) rfl ?_
 refine bD func124 call124 rfl (by simp[ntmps124]) ?_;simp only[ntmps124,results124]
 repeat' (first|(refine aC fun _ _=>?_)|refine zHg ?_|simp(disch:=omega) [go_sem])
 refine bR [2,3,10,11] [3,900,5] (fun y:Nat×List Tm=> [(12,nt .i64 y.1)]) (fun y:Nat×List Tm=>(3,⟨false,false,false,2,[.agg [.sc (.string n),if y.2.length=0 then .list false true []else .ref 900 0 y.2.length]],0⟩)::(if y.2.length=0 then[]else[(900,⟨true,false,false,2,y.2.map bO,0⟩)])) (fun y:Nat×List Tm=>ts.length - y.1) (fun y:Nat×List Tm=>y.1≤ts.length∧y.2.length=y.1∧y.2++ts.drop y.1=ts) ((0,[])) (Le.sub4 rfl (by simp[go_sem])) ⟨?_⟩ ?_
 ·exact⟨Nat.zero_le _,rfl,rfl⟩
 intro⟨i,a⟩ ⟨hi,ha,hinv⟩ AA hAA;simp only[kL,Nat.reduceBEq,Nat.reduceEqDiff,if_true,if_false,List.cons_append,List.nil_append,List.append_nil]
 dsimp only at*
 by_cases hlt:i<ts.length
 ·have hu:=ih' i hlt
  rw[List.drop_eq_getElem_cons hlt]at hinv
  by_cases h0:i=0
  ·subst h0
   obtain rfl:=List.eq_nil_of_length_eq_zero ha
   repeat' (first|(refine aC fun _ _=>?_)|refine zHg ?_|refine cP rfl (hu) rfl (by simp) ?_|(refine(hAA.next ((0+1,[ts[0]])) (Le.renSub [(21,900)] [(900,21)] (by simp[go_sem]) (by simp[go_sem]) (Le.sub4 rfl (by simp[go_sem]))) (by(try dsimp only);omega) ?_))|simp(disch:=omega) [go_sem,hlt]|refine zDr 4 bE ?_|fail)
   all_goals(first|omega|skip)
   all_goals exact⟨hlt,rfl,hinv⟩
  ·repeat' (first|(refine aC fun _ _=>?_)|refine zHg ?_|refine cP rfl (hu) rfl (by simp) ?_|(refine(hAA.next ((i+1,a++ [ts[i]])) (Le.sub4 rfl (by simp[go_sem,ha])) (by(try dsimp only);omega) ?_))|simp(disch:=omega) [go_sem,hlt,h0,ha]|refine zAo ?_|refine zDr 4 bE ?_|fail)
   all_goals(first|omega|skip)
   all_goals exact⟨hlt,by simp[ha],by rw[List.append_assoc];exact hinv⟩
 ·obtain rfl:i=ts.length:=by omega
  rw[List.drop_length,List.append_nil]at hinv
  subst hinv
  clear ih'
  by_cases h0:a.length=0
  ·obtain rfl:=List.eq_nil_of_length_eq_zero h0
   repeat' (first|(refine aC fun _ _=>?_)|refine zHg ?_|(refine aT [] ?_;simp[go_sem])|simp(disch:=omega) [go_sem])
  ·repeat' (first|(refine aC fun _ _=>?_)|refine zHg ?_|(refine aT [] ?_;simp[go_sem,h0])|simp(disch:=omega) [go_sem,h0])
def rG (s:List Bd):Prop:=s.Pairwise fun a b=>cD a.v b.v<0
theorem aG7 (v:ByteArray): ∀{s:List Bd},rG s→ ∃c,c≤s.length∧(∀(k:Nat) (hk:k<s.length),k<c→cD s[k].v v<0)∧(∀(k:Nat) (hk:k<s.length),c≤k→0≤cD s[k].v v)
 | [],_=>⟨0,Nat.le_refl _,fun k hk=>absurd hk (Nat.not_lt_zero _),fun k hk=>absurd hk (Nat.not_lt_zero _)⟩
 |b::r,h=>by
  obtain⟨h1,h2⟩:=List.pairwise_cons.1 h
  by_cases hb:cD b.v v<0
  ·obtain⟨c,c1,c2,c3⟩:=aG7 v h2
   refine⟨c+1,by(try simp);omega,fun k hk hkc=>?_,fun k hk hkc=>?_⟩
   ·cases k with
    |zero=>exact hb
    |succ k=>exact c2 k (by simpa using hk) (by omega)
   ·cases k with
    |zero=>omega
    |succ k=>exact c3 k (by simpa using hk) (by omega)
  ·refine⟨0,Nat.zero_le _,fun k _ hk=>absurd hk (Nat.not_lt_zero _),fun k hk _=>?_⟩
   cases k with
   |zero=>exact Int.not_lt.1 hb
   |succ k=>
    have hk':k<r.length:=by simpa using hk
    have h3:=h1 r[k] (List.getElem_mem hk')
    refine Int.not_lt.1 fun h4=>?_
    have:=rC.lt_le h3 (Int.le_of_lt h4)
    exact hb this
theorem cG2 {v:ByteArray} {s:List Bd} {c:Nat} (hs:rG s) (h1: ∀(k:Nat) (hk:k<s.length),k<c→cD s[k].v v<0) (h2: ∀(k:Nat) (hk:k<s.length),c≤k→0≤cD s[k].v v):
 (∃h:c<s.length,cD s[c].v v=0∧fH s v=some s[c].t)∨((∀h:c<s.length,cD s[c].v v≠0)∧fH s v=none):=by
 have hne: ∀(k:Nat) (hk:k<s.length),k<c→ ¬s[k].v=v:=fun k hk hkc e=>by
  have:=h1 k hk hkc
  rw[e,rC.self]at this;omega
 by_cases hc: ∃h:c<s.length,cD s[c].v v=0
 ·obtain⟨h,e⟩:=hc
  exact .inl ⟨h,e,J8 h (sH.1 e) hne⟩
 ·refine .inr ⟨fun h e=>hc ⟨h,e⟩,J9 fun k hk _ e=>?_⟩
  by_cases hkc:k<c
  ·exact hne k hk hkc e
  ·by_cases hk2:k=c
   ·subst hk2;exact hc ⟨hk,sH.2 e⟩
   ·have h3:=List.pairwise_iff_getElem.1 hs c k (by omega) hk (by omega)
    rw[e]at h3
    have:=h2 c (by omega) (Nat.le_refl _)
    omega
theorem cG3 (b:Bd) (v:ByteArray):ACall prog 161 [bK b,.sc (.string v)] (fun r=>r=nt .i64 (cD b.v v)):=by
 have h:=aFf b.v v
 refine bD func161 call161 rfl (by simp[ntmps161]) ?_;simp only[ntmps161,results161]
 repeat' (first|(refine aC fun _ _=>?_)|refine zHg ?_|(refine aT [] ?_;simp[go_sem])|refine aP rfl (h) (by simp) ?_|simp(disch:=omega) [go_sem])
theorem cG4 (l:List Bd) (le fu:Bool) (v:ByteArray) (cf:Bd→Int) (hcmp: ∀r∈l,ACall prog 161 [bK r,.sc (.string v)] (fun x=>x=nt .i64 (cf r))) (c:Nat) (hc:c≤l.length)
 (h1: ∀(k:Nat) (hk:k<l.length),k<c→cf l[k]<0) (h2: ∀(k:Nat) (hk:k<l.length),c≤k→0≤cf l[k]):
 ACall prog 160 [.list le fu (l.map bK),.sc (.string v),.clo 161 []] (fun x=>x= .tup [nt .i64 c,bl (match l[c]? with
  |some r=>decide (cf r=0)
  |none=>false)]):=by
 refine ACall.bound (i:=0) rfl call160 fun hb=>?_
 rw[List.length_map]at hb
 have hb:l.length≤140737488355328:=hb
 generalize hR:(match l[c]? with
  |some r=>decide (cf r=0)
  |none=>false)=R
 refine bD func160 call160 rfl (by simp[ntmps160]) ?_;simp only[ntmps160,results160]
 repeat' (first|(refine aC fun _ _=>?_)|refine zHg ?_|simp(disch:=omega) [go_sem])
 refine bR [0,1,2,8] [] (fun x:Nat×Nat=> [(9,nt .i64 x.1),(10,nt .i64 x.2)]) (fun x:Nat×Nat=> []) (fun x:Nat×Nat=>x.2 - x.1) (fun x:Nat×Nat=>x.1≤c∧c≤x.2∧x.2≤l.length) ((0,l.length)) (Le.sub4 rfl (by simp[go_sem])) ⟨?_⟩ ?_
 ·exact⟨Nat.zero_le _,hc,Nat.le_refl _⟩
 intro⟨i,j⟩ ⟨hi,hj,hl⟩ AA hAA;simp only[kL,Nat.reduceBEq,Nat.reduceEqDiff,if_true,if_false,List.cons_append,List.nil_append,List.append_nil]
 dsimp only at*
 by_cases hij:i<j
 ·obtain⟨m,hm⟩: ∃m,m=(i+j) / 2:=⟨_,rfl⟩
  have hm':((i:Int)+j).fdiv 2=(m:Int):=by rw[Int.fdiv_eq_ediv_of_nonneg _ (by decide)];omega
  have hm2:((i:Int)+j) / 2=(m:Int):=by omega
  have hml:m<l.length:=by omega
  have hu:=hcmp l[m] (List.getElem_mem hml)
  try unfold bK at hu
  by_cases hq:cf l[m]<0
  ·have hlt:m<c:=Nat.lt_of_not_le fun hh=>by have:=h2 m hml hh;omega
   repeat' (first|(refine aC fun _ _=>?_)|refine zHg ?_|(refine zqd ?_ ?_<;>(intro h;first|(exfalso;omega)|(simp only[h,zT])))|refine aP rfl (hu) (by simp) ?_|(refine(hAA.next ((m+1,j)) (Le.sub4 rfl (by simp[go_sem])) (by(try dsimp only);omega) ?_))|simp(disch:=omega) [go_sem,bK,hml,hm',hm2])
   exact⟨⟨by omega,hj,hl⟩⟩
  ·have hge:c≤m:=Nat.le_of_not_lt fun hh=>hq (h1 m hml hh)
   repeat' (first|(refine aC fun _ _=>?_)|refine zHg ?_|(refine zqd ?_ ?_<;>(intro h;first|(exfalso;omega)|(simp only[h,zT])))|refine aP rfl (hu) (by simp) ?_|(refine(hAA.next ((i,m)) (Le.sub4 rfl (by simp[go_sem])) (by(try dsimp only);omega) ?_))|simp(disch:=omega) [go_sem,bK,hml,hm',hm2])
   exact⟨⟨hi,hge,by omega⟩⟩
 ·obtain rfl:i=c:=by omega
  obtain rfl:j=i:=by omega
  by_cases hcl:j<l.length
  ·have hu:=hcmp l[j] (List.getElem_mem hcl)
   try unfold bK at hu
   rw[List.getElem?_eq_getElem hcl]at hR
   dsimp only at hR
   subst hR
   repeat' (first|(refine aC fun _ _=>?_)|refine zHg ?_|(refine aT [] ?_;simp[go_sem,bK,hcl])|refine aP rfl (hu) (by simp) ?_|simp(disch:=omega) [go_sem,bK,hcl])
  ·rw[List.getElem?_eq_none (by omega)]at hR
   dsimp only at hR
   subst hR
   repeat' (first|(refine aC fun _ _=>?_)|refine zHg ?_|(refine aT [] ?_;simp[go_sem,bK,hcl])|simp(disch:=omega) [go_sem,bK,hcl])
def kU (s:List Bd) (v:ByteArray):Tm×Bool:=match fH s v with
 |some t=>(t,true)
 |none=>(.mk ⟨#[]⟩ [],false)
theorem cG5 (s:List Bd) (v:ByteArray) (le fu:Bool) (c:Nat) (hc:c≤s.length) (h1: ∀(k:Nat) (hk:k<s.length),k<c→cD s[k].v v<0) (h2: ∀(k:Nat) (hk:k<s.length),c≤k→0≤cD s[k].v v):
 ACall prog 123 [.list le fu (s.map bK),.sc (.string v)] (fun r=>r= .tup [nt .i64 c,bl (match s[c]? with
  |some b=>decide (cD b.v v=0)
  |none=>false)]):=by
 have h:=cG4 s le fu v (fun b=>cD b.v v) (fun b _=>cG3 b v) c hc h1 h2
 generalize(match s[c]? with
  |some b=>decide (cD b.v v=0)
  |none=>false)=R at*
 refine bD func123 call123 rfl (by simp[ntmps123]) ?_;simp only[ntmps123,results123]
 repeat' (first|(refine aC fun _ _=>?_)|refine zHg ?_|(refine aT [] ?_;simp[go_sem])|refine aP rfl (h) (by simp) ?_|simp(disch:=omega) [go_sem])
theorem cG6 (s:List Bd) (v:ByteArray) (le fu:Bool) (hs:rG s) (hz: ∀b∈s,b.t.size≤1000000):ACall prog 81 [.list le fu (s.map bK),.sc (.string v)] (fun r=>r= .tup [eT (kU s v).1,bl (kU s v).2]):=by
 obtain⟨c,hc,h1,h2⟩:=aG7 v hs
 have h:=cG5 s v le fu c hc h1 h2
 unfold kU
 rcases cG2 hs h1 h2 with⟨hcl,e1,e2⟩|⟨e1,e2⟩
 ·rw[e2]
  have hcn:=cG1 s[c].t (hz _ (List.getElem_mem hcl))
  rw[List.getElem?_eq_getElem hcl]at h
  dsimp only at h
  rw[decide_eq_true e1]at h
  clear e1 e2 h1 h2 hz hs
  refine bD func81 call81 rfl (by simp[ntmps81]) ?_;simp only[ntmps81,results81]
  repeat' (first|(refine aC fun _ _=>?_)|refine zHg ?_|(refine aT [] ?_;simp[go_sem,hcl])|refine aP rfl (h) (by simp) ?_|refine aP rfl (hcn) (by simp) ?_|simp(disch:=omega) [go_sem,hcl])
 ·rw[e2]
  have h':ACall prog 123 [.list le fu (s.map bK),.sc (.string v)] (fun r=>r= .tup [nt .i64 c,bl false]):=by
   by_cases hcl:c<s.length
   ·rw[List.getElem?_eq_getElem hcl]at h
    dsimp only at h
    rw[decide_eq_false (e1 hcl)]at h
    exact h
   ·rw[List.getElem?_eq_none (by omega)]at h
    exact h
  clear e1 e2 h1 h2 h hz hs
  refine ACall.looseT (x:= .agg [.sc (.string ⟨#[]⟩),.list false true []]) rfl ?_
  refine bD func81 call81 rfl (by simp[ntmps81]) ?_;simp only[ntmps81,results81]
  repeat' (first|(refine aC fun _ _=>?_)|refine zHg ?_|(refine aT [] ?_;simp[go_sem])|refine aP rfl (h') (by simp) ?_|simp(disch:=omega) [go_sem])
theorem cG7 (s:List Bd) (v:ByteArray) (le fu:Bool) (hs:rG s) (hz: ∀b∈s,b.t.size≤1000000):ACall prog 80 [.sc (.string v),.iptr true [.list le fu (s.map bK)] 0 0] (fun r=>r= .tup [eT (kU s v).1,bl (kU s v).2]):=by
 have h:=cG6 s v le fu hs hz
 generalize kU s v=q at*
 obtain⟨t,b⟩:=q
 dsimp only at*
 refine bD func80 call80 rfl (by simp[ntmps80]) ?_;simp only[ntmps80,results80]
 repeat' (first|(refine aC fun _ _=>?_)|refine zHg ?_|(refine aT [] ?_;simp[go_sem])|refine aP rfl (h) (by simp) ?_|simp(disch:=omega) [go_sem])
theorem aG8 (s:List Bd) (le fu:Bool) (hs:rG s) (hz: ∀b∈s,b.t.size≤1000000): ∀t:Tm,t.size≤1000000→ACall prog 122 [eT t,.clo 80 [.iptr true [.list le fu (s.map bK)] 0 0]] (fun r=>r=eT (cF s t)):=by
 refine dS fun t ih hsz=>?_
 obtain⟨n,ts⟩:=t
 simp only[cT]at ih
 rw[iA,cT]at hsz
 have hlen:=sG ts
 have ih': ∀(i:Nat) (h:i<ts.length),ACall prog 122 [eT ts[i],.clo 80 [.iptr true [.list le fu (s.map bK)] 0 0]] (fun r=>r=eT (cF s ts[i])):=fun i h=>ih _ (List.getElem_mem h) (by have:=vT h;omega)
 clear ih
 have hv:=cG0 n ts
 have hb:=cG7 s n le fu hs hz
 rw[Y5]
 by_cases hvar:ts.length=0∧cA n=true
 ·rw[if_pos hvar]
  rw[decide_eq_true hvar]at hv
  obtain rfl:=List.eq_nil_of_length_eq_zero hvar.1
  unfold kU at hb
  cases hq:fH s n with
  |some t=>
   rw[hq]at hb
   dsimp only at hb
   show ACall _ _ _ (fun r=>r=eT t)
   clear ih' hlen hsz hvar hs hz hq
   refine bD func122 call122 rfl (by simp[ntmps122]) ?_;simp only[ntmps122,results122]
   repeat' (first|(refine aC fun _ _=>?_)|refine zHg ?_|(refine aT [] ?_;simp[go_sem])|refine aP rfl (hv) (by simp) ?_|refine aP rfl (hb) (by simp) ?_|simp(disch:=omega) [go_sem])
  |none=>
   rw[hq]at hb
   dsimp only at hb
   show ACall _ _ _ (fun r=>r=eT (.mk n []))
   clear ih' hlen hsz hvar hs hz hq
   refine ACall.loose (x:= .agg [.sc (.string n),.list false true []]) rfl ?_
   refine bD func122 call122 rfl (by simp[ntmps122]) ?_;simp only[ntmps122,results122]
   repeat' (first|(refine aC fun _ _=>?_)|refine zHg ?_|refine aP rfl (hv) (by simp) ?_|refine aP rfl (hb) (by simp) ?_|simp(disch:=omega) [go_sem])
   refine bR [1,4,7,25,26] [7,5] (fun i:Nat=> [(27,nt .i64 i)]) (fun i:Nat=>(7,⟨false,false,false,2,[.agg [.sc (.string n),.list false true []]],0⟩):: []) (fun i:Nat=>0) (fun i:Nat=>i=0) (0) (Le.sub4 rfl (by simp[go_sem])) ⟨?_⟩ ?_
   ·rfl
   intro i rfl AA hAA;simp only[kL,Nat.reduceBEq,Nat.reduceEqDiff,if_true,if_false,List.cons_append,List.nil_append,List.append_nil]
   repeat' (first|(refine aC fun _ _=>?_)|refine zHg ?_|(refine aT [] ?_;simp[go_sem])|simp(disch:=omega) [go_sem])
 ·rw[if_neg hvar]
  rw[decide_eq_false hvar]at hv
  clear hb hvar hs hz
  refine ACall.loose (x:= .agg [.sc (.string n),.list false (decide (ts.length=0)) ((ts.map (cF s)).map bO)]) rfl ?_
  generalize hL:ts.map (cF s)=L at*
  have hLl:L.length=ts.length:=by rw[←hL,List.length_map]
  have ih2: ∀(i:Nat) (h:i<ts.length),∃x,ACall prog 122 [eT ts[i],.clo 80 [.iptr true [.list le fu (s.map bK)] 0 0]] (fun r=>r=eT x)∧L.drop i=x::L.drop (i+1):=fun i h=>⟨_,ih' i h,by
   have h':i<L.length:=by omega
   rw[List.drop_eq_getElem_cons h']
   congr 1
   subst hL
   rw[List.getElem_map]⟩
  clear ih' hL
  refine bD func122 call122 rfl (by simp[ntmps122]) ?_;simp only[ntmps122,results122]
  repeat' (first|(refine aC fun _ _=>?_)|refine zHg ?_|refine aP rfl (hv) (by simp) ?_|simp(disch:=omega) [go_sem])
  refine bR [1,4,7,25,26] [7,900,9] (fun y:Nat×List Tm=> [(27,nt .i64 y.1)]) (fun y:Nat×List Tm=>(7,⟨false,false,false,2,[.agg [.sc (.string n),if y.2.length=0 then .list false true []else .ref 900 0 y.2.length]],0⟩)::(if y.2.length=0 then[]else[(900,⟨true,false,false,2,y.2.map bO,0⟩)])) (fun y:Nat×List Tm=>ts.length - y.1) (fun y:Nat×List Tm=>y.1≤ts.length∧y.2.length=y.1∧y.2++L.drop y.1=L) ((0,[])) (Le.sub4 rfl (by simp[go_sem])) ⟨?_⟩ ?_
  ·exact⟨Nat.zero_le _,rfl,rfl⟩
  intro⟨i,a⟩ ⟨hi,ha,hinv⟩ AA hAA;simp only[kL,Nat.reduceBEq,Nat.reduceEqDiff,if_true,if_false,List.cons_append,List.nil_append,List.append_nil]
  dsimp only at*
  by_cases hlt:i<ts.length
  ·obtain⟨x,hu,hd⟩:=ih2 i hlt
   rw[hd]at hinv
   clear ih2 hd
   by_cases h0:i=0
   ·subst h0
    obtain rfl:=List.eq_nil_of_length_eq_zero ha
    repeat' (first|(refine aC fun _ _=>?_)|refine zHg ?_|refine cP rfl (hu) rfl (by simp) ?_|(refine(hAA.next ((0+1,[x])) (Le.renSub [(37,900)] [(900,37)] (by simp[go_sem]) (by simp[go_sem]) (Le.sub4 rfl (by simp[go_sem]))) (by(try dsimp only);omega) ?_))|simp(disch:=omega) [go_sem,hlt]|refine zDr 5 bE ?_|fail)
    all_goals(first|omega|skip)
    all_goals exact⟨hlt,rfl,hinv⟩
   ·repeat' (first|(refine aC fun _ _=>?_)|refine zHg ?_|refine cP rfl (hu) rfl (by simp) ?_|(refine(hAA.next ((i+1,a++ [x])) (Le.sub4 rfl (by simp[go_sem,ha])) (by(try dsimp only);omega) ?_))|simp(disch:=omega) [go_sem,hlt,h0,ha]|refine zAo ?_|refine zDr 5 bE ?_|fail)
    all_goals(first|omega|skip)
    all_goals exact⟨hlt,by simp[ha],by rw[List.append_assoc];exact hinv⟩
  ·obtain rfl:i=ts.length:=by omega
   rw[←hLl,List.drop_length,List.append_nil]at hinv
   subst hinv
   clear ih2
   by_cases h0:ts.length=0
   ·obtain rfl:=List.eq_nil_of_length_eq_zero (hLl.trans h0)
    repeat' (first|(refine aC fun _ _=>?_)|refine zHg ?_|(refine aT [] ?_;simp[go_sem,h0])|simp(disch:=omega) [go_sem,h0])
   ·repeat' (first|(refine aC fun _ _=>?_)|refine zHg ?_|(refine aT [] ?_;simp[go_sem,h0,ha])|simp(disch:=omega) [go_sem,h0,ha])
theorem cG8 {L lo n:Nat}:Ab.loose1 (.ref L lo n)= .ref L lo n:=rfl
attribute [go_sem] cG8
theorem aG9 (s:List Bd) (fu:Bool) (hs:rG s) (hz: ∀b∈s,b.t.size≤1000000) (r:Rl) (hr:r.head.size≤1000000) (hb: ∀b∈r.body,b.atom.size≤1000000) (hl:r.body.length≤1000000):
 MCall prog 79 [bN r,.clo 80 [.ptr 1000 0 0]] [(1000,⟨false,false,true,1,[.list false fu (s.map bK)],0⟩)]
  (fun v o'=>v= .agg [.sc (.string (cF s r.head).name),.list false false ((cF s r.head).args.map bO),if r.body.length=0 then .list false true []else .ref 900 0 r.body.length]∧
   o'=(4,⟨false,false,false,3,[.agg [.sc (.string (cF s r.head).name),.list false false ((cF s r.head).args.map bO),if r.body.length=0 then .list false true []else .ref 900 0 r.body.length]],0⟩)::(1000,⟨false,false,true,1,[.list false fu (s.map bK)],0⟩)::(if r.body.length=0 then[]else[(900,⟨true,false,false,3,(r.body.map (dA s)).map bW,0⟩)])):=by
 obtain⟨h,bs⟩:=r
 dsimp only at*
 have h1:=aG8 s false fu hs hz h hr
 generalize cF s h=H at*
 generalize hL:bs.map (dA s)=L at*
 have hLl:L.length=bs.length:=by rw[←hL,List.length_map]
 have ih2: ∀(i:Nat) (hi:i<bs.length),∃x,ACall prog 122 [eT bs[i].atom,.clo 80 [.iptr true [.list false fu (s.map bK)] 0 0]] (fun r=>r=eT x)∧L.drop i=⟨bs[i].neg,x⟩::L.drop (i+1):=fun i hi=>⟨_,aG8 s false fu hs hz bs[i].atom (hb _ (List.getElem_mem hi)),by
  have h':i<L.length:=by omega
  rw[List.drop_eq_getElem_cons h']
  congr 1
  subst hL
  rw[List.getElem_map];rfl⟩
 clear hL hb hs hz
 refine cL func79 call79 rfl (by simp[ntmps79]) ?_;simp only[ntmps79,results79]
 repeat' (first|(refine aC fun _ _=>?_)|refine zHg ?_|refine aP rfl (h1) (by simp) ?_|simp(disch:=omega) [go_sem])
 refine bR [1,4,5,14,15] [5,900,7,1000] (fun y:Nat×List Lt=> [(16,nt .i64 y.1)]) (fun y:Nat×List Lt=>(5,⟨false,false,false,3,[.agg [.sc (.string H.name),.list false false (H.args.map bO),if y.2.length=0 then .list false true []else .ref 900 0 y.2.length]],0⟩)::(1000,⟨false,false,true,1,[.list false fu (s.map bK)],0⟩)::(if y.2.length=0 then[]else[(900,⟨true,false,false,3,y.2.map bW,0⟩)])) (fun y:Nat×List Lt=>bs.length - y.1) (fun y:Nat×List Lt=>y.1≤bs.length∧y.2.length=y.1∧y.2++L.drop y.1=L) ((0,[])) (Le.sub4 rfl (by simp[go_sem])) ⟨?_⟩ ?_
 ·exact⟨Nat.zero_le _,rfl,rfl⟩
 intro⟨i,a⟩ ⟨hi,ha,hinv⟩ AA hAA;simp only[kL,Nat.reduceBEq,Nat.reduceEqDiff,if_true,if_false,List.cons_append,List.nil_append,List.append_nil]
 dsimp only at*
 by_cases hlt:i<bs.length
 ·obtain⟨x,hu,hd⟩:=ih2 i hlt
  rw[hd]at hinv
  clear ih2 hd
  by_cases h0:i=0
  ·subst h0
   obtain rfl:=List.eq_nil_of_length_eq_zero ha
   repeat' (first|(refine aC fun _ _=>?_)|refine zHg ?_|refine cP rfl (hu) rfl (by simp) ?_|(refine(hAA.next ((0+1,[⟨bs[0].neg,x⟩])) (Le.renSub [(30,900)] [(900,30)] (by simp[go_sem]) (by simp[go_sem]) (Le.sub4 rfl (by simp[go_sem]))) (by(try dsimp only);omega) ?_))|simp(disch:=omega) [go_sem,hlt]|refine zDr 9 bE ?_|fail)
   all_goals(first|omega|skip)
   all_goals exact⟨hlt,rfl,hinv⟩
  ·repeat' (first|(refine aC fun _ _=>?_)|refine zHg ?_|refine cP rfl (hu) rfl (by simp) ?_|(refine(hAA.next ((i+1,a++ [⟨bs[i].neg,x⟩])) (Le.sub4 rfl (by simp[go_sem,ha])) (by(try dsimp only);omega) ?_))|simp(disch:=omega) [go_sem,hlt,h0,ha]|refine zAo ?_|refine zDr 9 bE ?_|fail)
   all_goals(first|omega|skip)
   all_goals exact⟨hlt,by simp[ha],by rw[List.append_assoc];exact hinv⟩
 ·obtain rfl:i=bs.length:=by omega
  rw[←hLl,List.drop_length,List.append_nil]at hinv
  subst hinv
  clear ih2
  by_cases h0:bs.length=0
  ·obtain rfl:=List.eq_nil_of_length_eq_zero (hLl.trans h0)
   repeat' (first|(refine aC fun _ _=>?_)|refine zHg ?_|simp(disch:=omega) [go_sem,h0])
   refine cS ⟨34,[(4,.ptr 4 0 0)],(4,⟨false,false,false,3,[.agg [.sc (.string H.name),.list false false (H.args.map bO),.list false true []]],0⟩):: [(1000,⟨false,false,true,1,[.list false fu (s.map bK)],0⟩)]⟩ [.agg [.sc (.string H.name),.list false false (H.args.map bO),.list false true []]] (Le.renSub [] [] (by simp[go_sem]) (by simp[go_sem]) (Le.sub4 rfl (by simp[go_sem]))) (by simp[go_sem]) ⟨rfl,rfl⟩
  ·repeat' (first|(refine aC fun _ _=>?_)|refine zHg ?_|simp(disch:=omega) [go_sem,h0,ha])
   refine cS ⟨34,[(4,.ptr 4 0 0)],(4,⟨false,false,false,3,[.agg [.sc (.string H.name),.list false false (H.args.map bO),.ref 900 0 bs.length]],0⟩)::(1000,⟨false,false,true,1,[.list false fu (s.map bK)],0⟩):: [(900,⟨true,false,false,3,a.map bW,0⟩)]⟩ [.agg [.sc (.string H.name),.list false false (H.args.map bO),.ref 900 0 bs.length]] (Le.renSub [] [] (by simp[go_sem]) (by simp[go_sem]) (Le.sub4 rfl (by simp[go_sem]))) (by simp[go_sem]) ⟨rfl,rfl⟩
theorem wA (s:List Bd) (fu:Bool) (hs:rG s) (hz: ∀b∈s,b.t.size≤1000000) (h:Tm) (hr:h.size≤1000000):
 ACall prog 40 [.list false fu (s.map bK),bN ⟨h,[]⟩] (fun v=>v=bN ⟨cF s h,[]⟩):=by
 have key:=aG9 s fu hs hz ⟨h,[]⟩ hr (by simp) (by simp)
 simp only[List.length_nil,if_true]at key
 have k2:=key.loose (o1:= [(1000,⟨false,false,true,1,[.list false fu (s.map bK)],0⟩)]) (by simp[go_sem]) (by simp[go_sem]) (by simp[go_sem])
 clear key
 generalize cF s h=H at*
 simp only[go_sem]at k2
 refine bD func40 call40 rfl (by simp[ntmps40]) ?_;simp only[ntmps40,results40]
 repeat' (first|(refine aC fun _ _=>?_)|refine zHg ?_|simp(disch:=omega) [go_sem])
 refine bC [(1000,2)] [(2,1000)] 10000 _ _ (Fits.mk' (by simp[go_sem]) (by simp[go_sem])) (by simp[go_sem]) (by simp[go_sem]) (k2) (by simp[go_sem]) (by simp[go_sem]) ?_
 repeat' (first|refine zHg ?_|(refine aT [] ?_;simp[go_sem])|simp(disch:=omega) [go_sem])
theorem wB (s:List Bd) (fu:Bool) (hs:rG s) (hz: ∀b∈s,b.t.size≤1000000) (r:Rl) (hr:r.head.size≤1000000) (hb: ∀b∈r.body,b.atom.size≤1000000) (hl:r.body.length≤1000000) (h0: ¬r.body.length=0):
 MCall prog 40 [.list false fu (s.map bK),bN r] [] (fun v o'=>v= .agg [.sc (.string (cF s r.head).name),.list false false ((cF s r.head).args.map bO),.ref 900 0 r.body.length]∧
  o'= [(900,⟨true,false,false,3,(r.body.map (dA s)).map bW,0⟩)]):=by
 have key:=aG9 s fu hs hz r hr hb hl
 simp only[h0,if_false]at key
 have k2:=key.loose (o1:=(1000,⟨false,false,true,1,[.list false fu (s.map bK)],0⟩):: [(900,⟨true,false,false,3,(r.body.map (dA s)).map bW,0⟩)]) (by simp[go_sem]) (by simp[go_sem]) (by simp[go_sem])
 clear key
 generalize cF s r.head=H at*
 have hll:(r.body.map (dA s)).length=r.body.length:=List.length_map _
 generalize r.body.map (dA s)=L at*
 simp only[go_sem]at k2
 have k3:=MCall.loose (o1:= [(900,⟨true,false,false,3,L.map bW,0⟩)]) (f:=40) (P:=prog) (args:= [.list false fu (s.map bK),bN r]) (o:= []) (x:= .agg [.sc (.string H.name),.list false false (H.args.map bO),.ref 900 0 r.body.length]) (o2:=(4,⟨false,false,false,3,[.agg [.sc (.string H.name),.list false false (H.args.map bO),.ref 900 0 r.body.length]],0⟩):: [(900,⟨true,false,false,3,L.map bW,0⟩)]) (by
  refine cL func40 call40 rfl (by simp[ntmps40]) ?_;simp only[ntmps40,results40]
  repeat' (first|(refine aC fun _ _=>?_)|refine zHg ?_|simp(disch:=omega) [go_sem])
  refine bC [(1000,2)] [(2,1000)] 10000 _ _ (Fits.mk' (by simp[go_sem]) (by simp[go_sem])) (by simp[go_sem]) (by simp[go_sem]) (k2) (by simp[go_sem]) (by simp[go_sem]) ?_
  repeat' (first|refine zHg ?_|simp(disch:=omega) [go_sem])
  refine cS ⟨8,[(4,.ptr 4 0 0)],(4,⟨false,false,false,3,[.agg [.sc (.string H.name),.list false false (H.args.map bO),.ref 900 0 r.body.length]],0⟩):: [(900,⟨true,false,false,3,L.map bW,0⟩)]⟩ [.agg [.sc (.string H.name),.list false false (H.args.map bO),.ref 900 0 r.body.length]] (Le.renSub [(10900,900)] [(900,10900)] (by simp[go_sem]) (by simp[go_sem]) (Le.sub4 rfl (by simp[go_sem]))) (by simp[go_sem]) ⟨rfl,rfl⟩) (by simp[go_sem]) (by simp[go_sem]) (by simp[go_sem])
 simp only[go_sem]at k3
 exact k3
end Go.Proofs.YtkbglbcphjmiiaaGreatDoor
