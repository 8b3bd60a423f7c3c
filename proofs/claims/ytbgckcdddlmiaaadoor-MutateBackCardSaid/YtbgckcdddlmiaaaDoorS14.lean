import Derived.Test.YtbgckcdddlmiaaaDoorS12
import Derived.Test.YtbgckcdddlmiaaaDoorS13
import Derived.Test.YtbgckcdddlmiaaaDoorS9
import Derived.Test.YtbgckcdddlmiaaaDoorS6
import Derived.Test.YtbgckcdddlmiaaaDoorS8
set_option linter.unusedSimpArgs false
set_option linter.unusedVariables false
open Go.Proofs.Tryd
namespace Go.Proofs.YtbgckcdddlmiaaaDoor
open Go.Ab
set_option maxRecDepth 100000
set_option maxHeartbeats 8000000
def A7:ByteArray:=⟨#[110,101,103,97,116,101,32,108,105,116,101,114,97,108,32,48,32,111,102,32,114,117,108,101,32,49]⟩
def fE:Nat→ByteArray
 |0=>⟨#[]⟩
 |1=>⟨#[110,101,103,97,116,101,32,108,105,116,101,114,97,108,32]⟩
 |2=>⟨#[110,101,103,97,116,101,32,108,105,116,101,114,97,108,32,48]⟩
 |3=>⟨#[110,101,103,97,116,101,32,108,105,116,101,114,97,108,32,48,32,111,102,32,114,117,108,101,32]⟩
 |_=>A7
theorem bZ1:ACall prog 14 [dM ⟨3,1,0⟩] (fun r=>r= .sc (.string A7)):=by
 have h0:ACall prog 29 [nt .i64 0] (fun r=>r= .sc (.string ⟨#[48]⟩)):=(aF3 0 (by decide)).up
 have h1:ACall prog 29 [nt .i64 1] (fun r=>r= .sc (.string ⟨#[49]⟩)):=(aF3 1 (by decide)).up
 have e0:fE 0++⟨#[110,101,103,97,116,101,32,108,105,116,101,114,97,108,32]⟩=fE 1:=by kernel_rfl
 have e1:fE 1++⟨#[48]⟩=fE 2:=by kernel_rfl
 have e2:fE 2++⟨#[32,111,102,32,114,117,108,101,32]⟩=fE 3:=by kernel_rfl
 have e3:fE 3++⟨#[49]⟩=fE 4:=by kernel_rfl
 have ez:(⟨#[]⟩:ByteArray)=fE 0:=rfl
 have ef:fE 4=A7:=rfl
 have n0R:(⟨#[110,101,103,97,116,101,32,108,105,116,101,114,97,108,32]⟩:ByteArray)≠⟨#[82]⟩:=by decide
 have n1R:(⟨#[73]⟩:ByteArray)≠⟨#[82]⟩:=by decide
 have n2R:(⟨#[32,111,102,32,114,117,108,101,32]⟩:ByteArray)≠⟨#[82]⟩:=by decide
 have n0I:(⟨#[110,101,103,97,116,101,32,108,105,116,101,114,97,108,32]⟩:ByteArray)≠⟨#[73]⟩:=by decide
 have n2I:(⟨#[32,111,102,32,114,117,108,101,32]⟩:ByteArray)≠⟨#[73]⟩:=by decide
 have z0:(fE 0).size≤100:=by decide
 have z1:(fE 1).size≤100:=by decide
 have z2:(fE 2).size≤100:=by decide
 have z3:(fE 3).size≤100:=by decide
 refine bF func14 call14 rfl (by simp[ntmps14]) ?_;simp only[ntmps14,results14]
 repeat' (first|(refine aC fun _ _=>?_)|refine zHg ?_|simp(disch:=omega) [go_sem,tI])
 refine cL [1,17,18] [] (fun i:Nat=> [(19,nt .i64 i),(3,.sc (.string (fE i)))]) (fun i:Nat=> []) (fun i:Nat=>4 - i) (fun i:Nat=>i≤4) (0) (Le.sub4 rfl (by simp[go_sem,tI,ez])) ⟨?_⟩ ?_
 ·exact Nat.zero_le _
 intro i hi AA hAA;simp only[kL,Nat.reduceBEq,Nat.reduceEqDiff,if_true,if_false,List.cons_append,List.nil_append,List.append_nil]
 have hc:i=0∨i=1∨i=2∨i=3∨i=4:=by omega
 clear hi
 rcases hc with rfl|rfl|rfl|rfl|rfl
 ·generalize hp0:fE 0=p0 at*
  generalize hq0:fE 1=q0 at*
  repeat' (first|(refine aC fun _ _=>?_)|refine zHg ?_|(refine(hAA.next (1) (Le.sub4 rfl (by simp[go_sem,hq0])) (by(try dsimp only);omega) ?_))|simp(disch:=omega) [go_sem,n0R,n1R,n2R,n0I,n2I,e0]|refine zAo ?_|fail)
  all_goals(first|omega|decide|skip)
  all_goals exact⟨by omega⟩
 ·generalize hp1:fE 1=p1 at*
  generalize hq1:fE 2=q1 at*
  repeat' (first|(refine aC fun _ _=>?_)|refine zHg ?_|refine aV rfl (h0) (by simp) ?_|(refine(hAA.next (2) (Le.sub4 rfl (by simp[go_sem,hq1])) (by(try dsimp only);omega) ?_))|simp(disch:=omega) [go_sem,n0R,n1R,n2R,n0I,n2I,e1]|refine zAo ?_|fail)
  all_goals(first|omega|decide|skip)
  all_goals exact⟨by omega⟩
 ·generalize hp2:fE 2=p2 at*
  generalize hq2:fE 3=q2 at*
  repeat' (first|(refine aC fun _ _=>?_)|refine zHg ?_|(refine(hAA.next (3) (Le.sub4 rfl (by simp[go_sem,hq2])) (by(try dsimp only);omega) ?_))|simp(disch:=omega) [go_sem,n0R,n1R,n2R,n0I,n2I,e2]|refine zAo ?_|fail)
  all_goals(first|omega|decide|skip)
  all_goals exact⟨by omega⟩
 ·generalize hp3:fE 3=p3 at*
  generalize hq3:fE 4=q3 at*
  repeat' (first|(refine aC fun _ _=>?_)|refine zHg ?_|refine aV rfl (h1) (by simp) ?_|(refine(hAA.next (4) (Le.sub4 rfl (by simp[go_sem,hq3])) (by(try dsimp only);omega) ?_))|simp(disch:=omega) [go_sem,n0R,n1R,n2R,n0I,n2I,e3]|refine zAo ?_|fail)
  all_goals(first|omega|decide|skip)
  all_goals exact⟨by omega⟩
 ·rw[ef]
  repeat' (first|(refine aC fun _ _=>?_)|refine zHg ?_|(refine aU [] ?_;simp[go_sem])|simp(disch:=omega) [go_sem])
set_option maxHeartbeats 16000000
theorem Q5: ∀r∈ [jV,kW],SzM r:=by
 intro r hr
 simp only[List.mem_cons,List.not_mem_nil,or_false]at hr
 rcases hr with rfl|rfl
 ·exact⟨by decide,by decide,by decide⟩
 ·exact⟨by decide,by decide,by decide⟩
theorem bZ2:ACall prog 7 [] (fun r=>r=bl true):=by
 have h1:=(aDi cA (by decide)).up
 have h2:=(aDi cB (by decide)).up
 rw[bX1]at h1
 rw[bY8]at h2
 have h3:=(aFz [jV,kW] true false Q5 (by decide)).up
 rw[P1]at h3
 have h4:=(Q4 [jV,kW] true false ⟨4,1,5⟩ Q5 (by decide)).up
 have h5:=(Q4 [jV,kW] true false ⟨4,1,0⟩ Q5 (by decide)).up
 have e4:jE [jV,kW] ⟨4,1,5⟩=0:=by rw[aF1,P1];decide
 have e5:jE [jV,kW] ⟨4,1,0⟩=12:=by
  unfold jE
  rw[P1,if_neg (by decide),if_neg (by decide)]
 unfold oG at h4 h5
 rw[e4,if_pos rfl,bY9]at h4
 rw[e5,if_neg (by decide)]at h5
 have h6:=(aDl [oD,pQ] [oD,pQ] true false true false (by
  intro r hr
  simp only[List.mem_cons,List.not_mem_nil,or_false]at hr
  rcases hr with rfl|rfl<;>decide)).up
 rw[decide_eq_true rfl]at h6
 have h7:=bZ1
 have hds:A7=⟨#[110,101,103,97,116,101,32,108,105,116,101,114,97,108,32,48,32,111,102,32,114,117,108,101,32,49]⟩:=rfl
 clear e4 e5
 unfold cA at h1
 unfold cB at h2
 simp only[List.map_cons,List.map_nil]at h1 h2 h3 h4 h5 h6
 generalize jV=x0 at*
 generalize kW=x1 at*
 generalize oD=y0 at*
 generalize pQ=y1 at*
 refine bF func7 call7 rfl (by simp[ntmps7]) ?_;simp only[ntmps7,results7]
 repeat' (first|(refine aC fun _ _=>?_)|refine zHg ?_|(refine aU [] ?_;simp[go_sem,dM,hds])|refine aV rfl (h1) (by simp) ?_|refine aV rfl (h2) (by simp) ?_|refine aV rfl (h3) (by simp) ?_|refine aV rfl (h4) (by simp) ?_|refine aV rfl (h5) (by simp) ?_|refine aV rfl (h6) (by simp) ?_|refine aV rfl (h7) (by simp) ?_|simp(disch:=omega) [go_sem,dM,hds])
 trace_state
open Go.RowKit
theorem bZ3 {m:Int} {l:List Rl} (h:pN m l=true):(∀r∈l,SzM r)∧(l.length:Int)≤m:=by
 unfold pN at h
 rw[Bool.and_eq_true,Bool.and_eq_true,List.all_eq_true,decide_eq_true_eq]at h
 refine⟨fun r hr=>?_,h.1⟩
 have h1:=h.2.1 r hr
 unfold nZ at h1
 rw[Bool.and_eq_true,Bool.and_eq_true,decide_eq_true_eq,List.all_eq_true]at h1
 obtain⟨a1,a2,a3⟩:=h1
 refine⟨?_,by omega,fun b hb=>?_⟩
 ·have:=zD (by decide) a1
  rw[iK]at this;omega
 ·have:=zD (by decide) (a3 b hb)
  rw[iK]at this;omega
theorem bZ4 (l:List Rl) (m:Int) (hm:0≤m∧m≤100) (h:(∀r∈l,zX r)∧l.length≤cK):ACall prog 6 [.list false false (l.map bZ),nt .i64 m] (fun r=>r=bl (pN m l)):=
 (bWb (M:=reachBytes) (by decide) (by decide+kernel) l false m hm (fun r hr=>(h.1 r hr).1) h.2 (fun r hr=>(h.1 r hr).2)).up
theorem bZ5 {l:List Rl} {le fu:Bool} {m:Mu} (h:ACall prog 9 [.list le fu (l.map bZ),dM m] (fun v=>v= .tup [oG l m,nt .i64 (jE l m)])) (hm:m∈eR l):
 ACall prog 9 [.list le fu (l.map bZ),dM m] (fun v=>v= .tup [.own 3 ((jD l m).map bZ),nt .i64 0]):=by
 unfold oG at h
 rw[aF1.2 hm,if_pos rfl]at h
 exact h
theorem aF4 {l:List Rl} {m:Mu} (hz: ∀r∈l,SzM r) (h:m∈eR l): ∀r∈jD l m,r.body.length≤1000000:=by
 obtain⟨i,hi,hm⟩:=tL.1 h
 have hr:=wM hm
 intro r hr'
 by_cases hk:m.kind=1
 ·rw[aEq hr hi hk]at hr'
  have:=(hz r (List.mem_of_mem_eraseIdx hr')).body
  omega
 ·rw[aEr hr hi hk]at hr'
  rcases List.mem_or_eq_of_mem_set hr' with h1|rfl
  ·have:=(hz r h1).body;omega
  ·obtain⟨_,g2,g3⟩:=aEv hm hk
   rw[jU hi]at g2 g3 ⊢
   have:=(hz l[i] (List.getElem_mem hi)).body
   by_cases h2:m.kind=2
   ·have:=g2 h2;omega
   ·have:=g3 h2;omega
theorem cAd (l:List Rl) (n:Int) (h:(∀r∈l,zX r)∧l.length≤cK) (hn:IntKind.i64.min≤n∧n≤IntKind.i64.max):ACall prog 3 [.list false false (l.map bZ),nt .i64 n] (fun r=>r=bl true):=by
 have haw:=bZ2
 have hlenT:True:=trivial
 have hs:=bZ4 l 40 (by decide) h
 cases hq:pN 40 l
 ·rw[hq]at hs
  refine bF func3 call3 rfl (by simp[ntmps3]) ?_;simp only[ntmps3,results3]
  repeat' (first|(refine aC fun _ _=>?_)|refine zHg ?_|(refine aU [] ?_;simp[go_sem])|refine aV rfl (hs) (by simp) ?_|refine aV rfl (haw) (by simp) ?_|simp(disch:=omega) [go_sem])
 ·rw[hq]at hs
  obtain⟨hz,hl⟩:=bZ3 hq
  have hal:=(aFz l false false hz (by omega)).up.frz
  by_cases h0:n<0
  ·generalize eR l=A at*
   refine bF func3 call3 rfl (by simp[ntmps3]) ?_;simp only[ntmps3,results3]
   repeat' (first|(refine aC fun _ _=>?_)|refine zHg ?_|(refine aU [] ?_;simp[go_sem,h0])|refine aV rfl (hs) (by simp) ?_|refine aV rfl (hal) (by simp) ?_|refine aV rfl (haw) (by simp) ?_|simp(disch:=omega) [go_sem,h0])
  ·by_cases h1:((eR l).length:Int)≤n
   ·generalize eR l=A at*
    refine bF func3 call3 rfl (by simp[ntmps3]) ?_;simp only[ntmps3,results3]
    repeat' (first|(refine aC fun _ _=>?_)|refine zHg ?_|(refine aU [] ?_;simp[go_sem,h0,h1])|refine aV rfl (hs) (by simp) ?_|refine aV rfl (hal) (by simp) ?_|refine aV rfl (haw) (by simp) ?_|simp(disch:=omega) [go_sem,h0,h1])
   ·obtain⟨k,rfl⟩: ∃k:Nat,n=k:=⟨n.toNat,by omega⟩
    have hk:k<(eR l).length:=by omega
    have hm:(eR l)[k]∈eR l:=List.getElem_mem hk
    have hap:=bZ5 (Q4 l false false (eR l)[k] hz (by omega)).up hm
    obtain⟨i,hr,hil,hne,hd1,hd2⟩:=bWu hm
    have hpr:=fun a b c d=>(aDl (jD l (eR l)[k]) l a b c d (aF4 hz hm)).up
    have hdb:=aF4 hz hm
    generalize hD:jD l (eR l)[k]=D at*
    rw[decide_eq_false hne]at hpr
    generalize hA:eR l=A at*
    generalize hmu:A[k]=m at*
    obtain⟨kd,ru,ix⟩:=m
    dsimp only at*
    subst hr
    have hgl:l.getD i yR=l[i]:=jU hil
    clear hD hm hq hz hn
    by_cases hk1:kd=1
    ·subst hk1
     have hd:=hd1 rfl
     have hdz:(D.length:Int)=(l.length:Int) - 1:=by omega
     clear hd1 hd2
     refine bF func3 call3 rfl (by simp[ntmps3]) ?_;simp only[ntmps3,results3]
     repeat' (first|(refine aC fun _ _=>?_)|refine zHg ?_|((first|refine zqd ?_ ?_|refine zgd ?_ ?_)<;>(intro h;first|(exfalso;omega)|(simp only[h,zT])))|(refine aU [] ?_;simp[go_sem,hlenT,h0,h1,hk,hmu,hil,hdz])|refine aV rfl (hs) (by simp) ?_|refine aV rfl (hal) (by simp) ?_|refine aV rfl (hap) (by simp) ?_|refine aV rfl (haw) (by simp) ?_|(refine aV ?hl (hpr true false false false) (by simp) ?_;(case hl=>(simp[go_sem,hlenT,h0,h1,hk,hmu,hil,hdz];done)))|simp(disch:=omega) [go_sem,hlenT,h0,h1,hk,hmu,hil,hdz])
     all_goals(first|omega|skip)
    ·obtain⟨g1,g2,g3⟩:=hd2 hk1
     have hiD:i<D.length:=by omega
     have hgD:D.getD i yR=D[i]:=jU hiD
     rw[hgD,hgl]at g2 g3
     have hxb:=hdb D[i] (List.getElem_mem hiD)
     generalize hx:D[i]=x at*
     generalize hy:l[i]=y at*
     have g1z:(D.length:Int)=l.length:=by omega
     by_cases hk2:kd=2
     ·subst hk2
      have g2:=g2 rfl
      have g2z:y.body.length=x.body.length+1:=by omega
      clear g2
      clear hd1 hd2 g3
      refine bF func3 call3 rfl (by simp[ntmps3]) ?_;simp only[ntmps3,results3]
      repeat' (first|(refine aC fun _ _=>?_)|refine zHg ?_|((first|refine zqd ?_ ?_|refine zgd ?_ ?_)<;>(intro h;first|(exfalso;omega)|(simp only[h,zT])))|(refine aU [] ?_;simp[go_sem,hlenT,h0,h1,hk,hmu,hil,hiD,hx,hy,g1,g2z])|refine aV rfl (hs) (by simp) ?_|refine aV rfl (hal) (by simp) ?_|refine aV rfl (hap) (by simp) ?_|refine cU rfl (haw) rfl (by simp) ?_|(refine aV ?hl (hpr true false false false) (by simp) ?_;(case hl=>(simp[go_sem,hlenT,h0,h1,hk,hmu,hil,hiD,hx,hy,g1,g2z];done)))|simp(disch:=omega) [go_sem,hlenT,h0,h1,hk,hmu,hil,hiD,hx,hy,g1,g2z]|refine zDr 19 aT ?_|fail)
      all_goals(first|omega|skip)
     ·have g3:=g3 hk2
      clear hd1 hd2 g2
      refine bF func3 call3 rfl (by simp[ntmps3]) ?_;simp only[ntmps3,results3]
      repeat' (first|(refine aC fun _ _=>?_)|refine zHg ?_|((first|refine zqd ?_ ?_|refine zgd ?_ ?_)<;>(intro h;first|(exfalso;omega)|(simp only[h,zT])))|(refine aU [] ?_;simp[go_sem,hlenT,h0,h1,hk,hmu,hil,hiD,hx,hy,hk1,hk2,g1,g3])|refine aV rfl (hs) (by simp) ?_|refine aV rfl (hal) (by simp) ?_|refine aV rfl (hap) (by simp) ?_|refine cU rfl (haw) rfl (by simp) ?_|(refine aV ?hl (hpr true false false false) (by simp) ?_;(case hl=>(simp[go_sem,hlenT,h0,h1,hk,hmu,hil,hiD,hx,hy,hk1,hk2,g1,g3];done)))|simp(disch:=omega) [go_sem,hlenT,h0,h1,hk,hmu,hil,hiD,hx,hy,hk1,hk2,g1,g3]|refine zDr 19 aT ?_|fail)
      all_goals(first|omega|skip)
end Go.Proofs.YtbgckcdddlmiaaaDoor
