import Derived.Test.YtkbglbcphjmiiaaGreatDoorS11
import Derived.Test.YtkbglbcphjmiiaaGreatDoorS2
import Derived.Test.YtkbglbcphjmiiaaGreatDoorS1
import Derived.Test.YtkbglbcphjmiiaaGreatDoorA5
import Derived.ChangeMaps5
import Derived.Test.YtkbglbcphjmiiaaGreatDoorA10
set_option linter.unusedSimpArgs false
set_option linter.unusedVariables false
namespace Go.Proofs.YtkbglbcphjmiiaaGreatDoor
open Go.Ab
set_option maxRecDepth 100000
set_option maxHeartbeats 16000000
def eqRB (a b:List Rl):Bool:=if rlsE a=0 then(if rlsE b=0 then decide (rlsR a=rlsR b)else false)else false
def eqRE (a b:List Rl):Int:=if rlsE a=0 then(if rlsE b=0 then 0 else rlsE b)else rlsE a
theorem eqRl1_ok (a b:Rl):ACall Tryz.prog 55 [eRl a,eRl b] (fun v=>v=bl (decide (a=b))):=by
 have h:=cmpRl_ok a b false false false false
 have e:decide (a=b)=decide (rlC a b=0):=by
  rw[decide_eq_decide]
  exact(tot_R.zero a b).symm
 rw[e]
 generalize rlC a b=c at*
 refine acall_of_awp Tryz.func55 Tryz.call55 rfl (by simp[Tryz.ntmps55]) ?_;simp only[Tryz.ntmps55,Tryz.results55]
 repeat' (first|(refine awK fun _ _=>?_)|refine zHg ?_|refine end_ret [] ?_;simp[go_sem]|refine stepK_is rfl (h) (by simp) ?_|(fail_if_success with_reducible refine Owe.mk ?_);(simp(disch:=omega) [go_sem]))
theorem EqFn_ok (a b:List Rl) (le fu le' fu':Bool):ACall Tryz.prog 54 [.list le fu (a.map eRl),.list le' fu' (b.map eRl),.clo 55 []] (fun r=>r=bl (decide (a=b))):=by
 refine ACall.bound (i:=0) rfl Tryz.call54 fun hb=>?_
 rw[List.length_map]at hb
 have hb:a.length≤140737488355328:=hb
 by_cases h0:a.length=b.length
 ·generalize hR:decide (a=b)=R
  refine acall_of_awp Tryz.func54 Tryz.call54 rfl (by simp[Tryz.ntmps54]) ?_;simp only[Tryz.ntmps54,Tryz.results54]
  repeat' (first|(refine awK fun _ _=>?_)|refine zHg ?_|(fail_if_success with_reducible refine Owe.mk ?_);(simp(disch:=omega) [go_sem,h0]))
  all_goals(first|(exfalso;omega)|skip)
  refine awp_for [1,2,15,16] [] (fun i:Nat=> [(17,nt .i64 i)]) (fun i:Nat=> []) (fun i:Nat=>b.length - i) (fun i:Nat=>i≤b.length∧ ∀(k:Nat) (hk:k<a.length) (hk':k<b.length),k<i→a[k]=b[k]) (0) (Le.sub4 rfl (by simp[go_sem])) ⟨?_⟩ ?_
  ·exact⟨Nat.zero_le _,fun k _ _ hk=>absurd hk (Nat.not_lt_zero _)⟩
  intro i ⟨hi,hn⟩ AA hAA;simp only[kL,Nat.reduceBEq,Nat.reduceEqDiff,if_true,if_false,List.cons_append,List.nil_append,List.append_nil]
  by_cases hlt:i<b.length
  ·have hla:i<a.length:=by omega
   have hs:=eqRl1_ok a[i] b[i]
   by_cases hq:a[i]=b[i]
   ·rw[decide_eq_true hq]at hs
    repeat' (first|(refine awK fun _ _=>?_)|refine zHg ?_|refine stepK_is rfl (hs) (by simp) ?_|refine(hAA.next (i+1) (Le.sub4 rfl (by simp[go_sem])) (by(try dsimp only);omega) ?_)|(fail_if_success with_reducible refine Owe.mk ?_);(simp(disch:=omega) [go_sem,hlt,hla]))
    all_goals(first|omega|skip)
    all_goals exact⟨hlt,fun k hk hk' hki=>by rcases Nat.lt_or_eq_of_le (Nat.le_of_lt_succ hki)with h|rfl;exact hn k hk hk' h;exact hq⟩
   ·have hu:R=false:=by
     rw[←hR,decide_eq_false_iff_not]
     intro h
     apply hq
     simp only[h]
    subst hu
    rw[decide_eq_false hq]at hs
    repeat' (first|(refine awK fun _ _=>?_)|refine zHg ?_|refine end_ret [] ?_;simp[go_sem,hlt,hla]|refine stepK_is rfl (hs) (by simp) ?_|(fail_if_success with_reducible refine Owe.mk ?_);(simp(disch:=omega) [go_sem,hlt,hla]))
  ·obtain rfl:i=b.length:=by omega
   have hu:R=true:=by
    rw[←hR,decide_eq_true_eq]
    exact List.ext_getElem h0 fun k h1 h2=>hn k h1 h2 h2
   subst hu
   repeat' (first|(refine awK fun _ _=>?_)|refine zHg ?_|refine end_ret [] ?_;simp[go_sem]|(fail_if_success with_reducible refine Owe.mk ?_);(simp(disch:=omega) [go_sem]))
 ·rw[decide_eq_false (fun h=>h0 (by rw[h]))]
  refine acall_of_awp Tryz.func54 Tryz.call54 rfl (by simp[Tryz.ntmps54]) ?_;simp only[Tryz.ntmps54,Tryz.results54]
  repeat' (first|(refine awK fun _ _=>?_)|refine zHg ?_|refine zqn ?_ ?_<;>(intro h;first|(exfalso;omega)|(simp only[h,zT]))|refine end_ret [] ?_;simp[go_sem,h0]|(fail_if_success with_reducible refine Owe.mk ?_);(simp(disch:=omega) [go_sem,h0]))
  all_goals(first|(exfalso;omega)|skip)
theorem Equal_ok (a b:List Rl) (le fu le' fu':Bool) (hla:a.length≤100) (hlb:b.length≤100) (hda: ∀i,(outN a i).length≤12) (hdb: ∀i,(outN b i).length≤12) (hza: ∀r∈a,SzR r) (hzb: ∀r∈b,SzR r):
 ACall Tryz.prog 24 [.list le fu (a.map eRl),.list le' fu' (b.map eRl)] (fun v=>v= .tup [bl (eqRB a b),nt .i64 (eqRE a b)]):=by
 have h1:=Rules_ok a le fu hla hda hza
 have h2:=Rules_ok b le' fu' hlb hdb hzb
 have h3:=EqFn_ok (rlsR a) (rlsR b) true false true false
 unfold rlsV at h1 h2
 unfold eqRB eqRE
 generalize rlsR a=x at*
 generalize rlsR b=y at*
 generalize rlsE a=e at*
 generalize rlsE b=f at*
 generalize decide (x=y)=q at*
 have hlenT:True:=trivial
 by_cases he:e=0
 ·subst he
  by_cases hf:f=0
  ·subst hf
   simp only[if_true]at h1 h2 ⊢
   refine acall_of_awp Tryz.func24 Tryz.call24 rfl (by simp[Tryz.ntmps24]) ?_;simp only[Tryz.ntmps24,Tryz.results24]
   repeat' (first|(refine awK fun _ _=>?_)|refine zHg ?_|refine end_ret [] ?_;simp[go_sem,hlenT]|refine stepK_is rfl (h1) (by simp) ?_|refine stepK_is rfl (h2) (by simp) ?_|refine stepK_is ?hl (h3) (by simp) ?_;(case hl=>(simp[go_sem,hlenT];done))|(fail_if_success with_reducible refine Owe.mk ?_);(simp(disch:=omega) [go_sem,hlenT]))
  ·simp only[if_true,if_neg hf]at h1 h2 ⊢
   refine acall_of_awp Tryz.func24 Tryz.call24 rfl (by simp[Tryz.ntmps24]) ?_;simp only[Tryz.ntmps24,Tryz.results24]
   repeat' (first|(refine awK fun _ _=>?_)|refine zHg ?_|refine end_ret [] ?_;simp[go_sem,hlenT,hf]|refine stepK_is rfl (h1) (by simp) ?_|refine stepK_is rfl (h2) (by simp) ?_|(fail_if_success with_reducible refine Owe.mk ?_);(simp(disch:=omega) [go_sem,hlenT,hf]))
 ·simp only[if_neg he]at h1 ⊢
  refine acall_of_awp Tryz.func24 Tryz.call24 rfl (by simp[Tryz.ntmps24]) ?_;simp only[Tryz.ntmps24,Tryz.results24]
  repeat' (first|(refine awK fun _ _=>?_)|refine zHg ?_|refine end_ret [] ?_;simp[go_sem,he]|refine stepK_is rfl (h1) (by simp) ?_|(fail_if_success with_reducible refine Owe.mk ?_);(simp(disch:=omega) [go_sem,he]))
theorem addA_has {A:List Tm} {t:Tm} (h:hasK A t=true):addA A t=A:=by
 unfold addA
 rw[if_neg]
 intro⟨h1,_⟩
 unfold hasK at h
 rw[h]at h1;cases h1
theorem addA_deep {A:List Tm} {t:Tm} (h: ¬t.depth≤4):addA A t=A:=by
 unfold addA
 rw[if_neg fun h'=>h h'.2]
theorem addA_yes {A:List Tm} {t:Tm} (h:hasK A t=false) (h':t.depth≤4):addA A t=A++ [t]:=by
 unfold addA
 rw[if_pos ⟨h,h'⟩]
theorem foldl_next {α β:Type} {f:β→α→β} {b:β} {l:List α} {i:Nat} (h:i<l.length):(l.take (i+1)).foldl f b=f ((l.take i).foldl f b) l[i]:=by
 rw[take_next h,List.foldl_append];rfl
def adN (A X:List Tm) (i:Nat):List Tm:=(X.take i).foldl addA A
theorem adN_zero {A X:List Tm}:adN A X 0=A:=rfl
theorem adN_next {A X:List Tm} {i:Nat} (h:i<X.length):adN A X (i+1)=addA (adN A X i) X[i]:=foldl_next h
theorem adN_all {A X:List Tm}:adN A X X.length=X.foldl addA A:=by unfold adN;rw[List.take_length]
theorem adN_len {A X:List Tm} {i:Nat} (h:i≤X.length):(adN A X i).length≤A.length+i:=by
 have:=(addL_len (X:=X.take i) (A:=A)).2
 rw[List.length_take,Nat.min_eq_left h]at this
 exact this
theorem mr_next {h:Tm} {W:List (List Bd)} {k:Nat} (hk:k<W.length):mrR h (W.take (k+1))=mrR h (W.take k)++(if(inzT h W[k]).2=true then[(inzT h W[k]).1]else[]):=by
 unfold mrR
 rw[take_next hk,List.filterMap_append]
 congr 1
 rw[List.filterMap_cons,List.filterMap_nil]
 split<;>rename_i he
 ·split at he
  ·cases he
  ·rename_i hn;rw[if_neg hn]
 ·split at he
  ·rename_i hy;rw[if_pos hy];obtain rfl:=Option.some.inj he;rfl
  ·cases he
theorem ext_next {A:List Tm} {j:Nat} (h:j<A.length):extL (A.take (j+1))=extL (A.take j)++extR A[j]:=by
 unfold extL
 rw[take_next h,List.flatMap_append]
 simp
theorem rndL_nil {A:List Tm} {m:List Tm} {lf:Int}:rndL A [] m lf=(some m,lf):=rfl
theorem rndL_cons {A:List Tm} {r:Rl} {rs:List Rl} {m:List Tm} {lf:Int}:rndL A (r::rs) m lf=match wyI A r.body [[]] lf with
 |(some W,lf')=>rndL A rs (m++mrR r.head W) lf'
 |(none,lf')=>(none,lf'):=by rw[rndL];rfl
def lgtR (l:List Rl) (f:Nat) (A:List Tm):Option (List Tm)×Int→Bool
 |(some m,lf')=>lgtN l f A.length ((m++extL A).foldl addA A) lf'
 |(none,_)=>false
theorem lgtN_go {l:List Rl} {f:Nat} {n:Int} {A:List Tm} {lf:Int} (h:n<A.length∧A.length≤1000):lgtN l (f+1) n A lf=lgtR l f A (rndL A l [] lf):=by
 rw[lgtN,if_pos h]
 generalize rndL A l [] lf=R
 obtain⟨x,y⟩:=R
 cases x<;>rfl
theorem lgtN_end {l:List Rl} {f:Nat} {n:Int} {A:List Tm} {lf:Int} (h: ¬(n<A.length∧A.length≤1000)):lgtN l (f+1) n A lf=decide (A.length≤1000):=by
 rw[lgtN,if_neg h]
theorem Light_ok {q M:Nat} (hq:q≤1000000) (hM:5≤M) (hBG:BG q M≤2305843009213693952) (l:List Rl) (G:List Tm) (fl lg fg:Bool) (hl: ∀r∈l,okR q M r) (hll:l.length≤100) (hG:okX q M G) (hGl:G.length≤1000):
 ACall Tryz.prog 49 [.list false fl (l.map eRl),.list lg fg (G.map eTm)] (fun r=>r=bl (lgtF l G)):=by
 generalize hV:lgtF l G=V
 unfold lgtF at hV
 have hGb: ∀t∈G,kzT t≤2305843009213693952:=fun t h=>Nat.le_trans (hG t h).2.1 hBG
 replace hG: ∀t∈G,okT q M t∧kzT t≤2305843009213693952∧t.depth≤1000:=fun t h=>⟨(hG t h).1,hGb t h,(hG t h).2.2⟩
 clear hGb
 refine acall_of_awp Tryz.func49 Tryz.call49 rfl (by simp[Tryz.ntmps49]) ?_;simp only[Tryz.ntmps49,Tryz.results49]
 repeat' (first|(refine awK fun _ _=>?_)|refine zHg ?_|(fail_if_success with_reducible refine Owe.mk ?_);(simp(disch:=omega) [go_sem]))
 refine awp_for [0,1,5,7,8,26] [7,23,900,6] (fun i:Nat=> [(27,nt .i64 i)]) (fun i:Nat=> [(7,slB false 900 (adN [] G i).length),(23,mpO false (adN [] G i)),(900,atR false (adN [] G i)),(6,knB false 23)]) (fun i:Nat=>G.length - i) (fun i:Nat=>i≤G.length) (0) (by refine Le.trans ?_ (Le.nilBox 7 900 2 rfl (by decide) (by decide));exact(Le.sub4 rfl (by simp[go_sem,slB,mpO,atR,knB,adN_zero,List.map_nil,List.length_nil]))) ⟨?_⟩ ?_
 ·exact Nat.zero_le _
 intro i hi AA hAA;simp only[kL,Nat.reduceBEq,Nat.reduceEqDiff,if_true,if_false,List.cons_append,List.nil_append,List.append_nil]
 by_cases hlt:i<G.length
 ·skip
  have hnx:=adN_next (A:= []) hlt
  have hAl:(adN [] G i).length≤0+i:=adN_len (A:= []) (Nat.le_of_lt hlt)
  have hAo:okA q M (adN [] G i):=addL_ok (fun u hu=>by simp at hu) fun u hu=>(hG u (List.mem_of_mem_take hu)).1
  have ht:=hG _ (List.getElem_mem hlt)
  generalize adN [] G i=Z at*
  generalize hte:G[i]=t at*
  cases hh:hasK Z t
  ·by_cases h4:t.depth≤4
   ·have hu:=add_yes hq Z t ht.1 (by omega) (by omega) (by omega) hh h4
    rw[addA_yes hh h4]at hnx
    repeat' (first|(refine awK fun _ _=>?_)|refine zHg ?_|(fail_if_success with_reducible refine Owe.mk ?_);(simp(disch:=omega) [go_sem,hlt,hte,slB,mpO,atR,knB]))
    refine stepK_fis [(1000,6),(1001,7),(1002,23),(1003,900)] [(6,1000),(7,1001),(23,1002),(900,1003)] 10000 _ _ (Fits.mk' (by simp[go_sem,adO,adP,slB,mpO,atR,knB]) (by simp[go_sem,adO,adP,slB,mpO,atR,knB])) (by simp[go_sem,adO,adP,slB,mpO,atR,knB]) (by simp[go_sem,adO,adP,slB,mpO,atR,knB]) (hu) (by simp[go_sem,adO,adP,slB,mpO,atR,knB]) (by simp[go_sem,adO,adP,slB,mpO,atR,knB]) ?_
    repeat' (first|refine zHg ?_|refine(hAA.next (i+1) (Le.renSub [(11004,900),(900,11004)] [(900,11004),(11004,900)] (by simp[go_sem,hnx,slB,mpO,atR,knB,adP]) (by simp[go_sem,hnx,slB,mpO,atR,knB,adP]) (Le.sub4 rfl (by simp[go_sem,hnx,slB,mpO,atR,knB,adP]))) (by(try dsimp only);omega) ?_)|(fail_if_success with_reducible refine Owe.mk ?_);(simp(disch:=omega) [go_sem,hlt,hte,slB,mpO,atR,knB,adP]))
    all_goals(first|omega|skip)
    exact⟨hlt⟩
   ·have hu:=add_deep hq Z t ht.1 (by omega) (by omega) (by omega) hh h4
    rw[addA_deep h4]at hnx
    repeat' (first|(refine awK fun _ _=>?_)|refine zHg ?_|(fail_if_success with_reducible refine Owe.mk ?_);(simp(disch:=omega) [go_sem,hlt,hte,slB,mpO,atR,knB]))
    refine stepK_fis [(1000,6),(1001,7),(1002,23),(1003,900)] [(6,1000),(7,1001),(23,1002),(900,1003)] 10000 _ _ (Fits.mk' (by simp[go_sem,adO,adP,slB,mpO,atR,knB]) (by simp[go_sem,adO,adP,slB,mpO,atR,knB])) (by simp[go_sem,adO,adP,slB,mpO,atR,knB]) (by simp[go_sem,adO,adP,slB,mpO,atR,knB]) (hu) (by simp[go_sem,adO,adP,slB,mpO,atR,knB]) (by simp[go_sem,adO,adP,slB,mpO,atR,knB]) ?_
    repeat' (first|refine zHg ?_|refine(hAA.next (i+1) (Le.sub4 rfl (by simp[go_sem,hnx,slB,mpO,atR,knB,adO])) (by(try dsimp only);omega) ?_)|(fail_if_success with_reducible refine Owe.mk ?_);(simp(disch:=omega) [go_sem,hlt,hte,slB,mpO,atR,knB,adO]))
    all_goals(first|omega|skip)
    exact⟨hlt⟩
  ·have hu:=add_has hq Z t ht.1 (by omega) (by omega) (by omega) hh
   rw[addA_has hh]at hnx
   repeat' (first|(refine awK fun _ _=>?_)|refine zHg ?_|(fail_if_success with_reducible refine Owe.mk ?_);(simp(disch:=omega) [go_sem,hlt,hte,slB,mpO,atR,knB]))
   refine stepK_fis [(1000,6),(1001,7),(1002,23),(1003,900)] [(6,1000),(7,1001),(23,1002),(900,1003)] 10000 _ _ (Fits.mk' (by simp[go_sem,adO,adP,slB,mpO,atR,knB]) (by simp[go_sem,adO,adP,slB,mpO,atR,knB])) (by simp[go_sem,adO,adP,slB,mpO,atR,knB]) (by simp[go_sem,adO,adP,slB,mpO,atR,knB]) (hu) (by simp[go_sem,adO,adP,slB,mpO,atR,knB]) (by simp[go_sem,adO,adP,slB,mpO,atR,knB]) ?_
   repeat' (first|refine zHg ?_|refine(hAA.next (i+1) (Le.sub4 rfl (by simp[go_sem,hnx,slB,mpO,atR,knB,adO])) (by(try dsimp only);omega) ?_)|(fail_if_success with_reducible refine Owe.mk ?_);(simp(disch:=omega) [go_sem,hlt,hte,slB,mpO,atR,knB,adO]))
   all_goals(first|omega|skip)
   exact⟨hlt⟩
 ·obtain rfl:i=G.length:=by omega
  rw[←adN_all]at hV
  have hAl:=adN_len (A:= []) (X:=G) (Nat.le_refl _)
  have hAo:okA q M (adN [] G G.length):=addL_ok (fun u hu=>by simp at hu) fun u hu=>(hG u (List.mem_of_mem_take hu)).1
  simp only[List.length_nil,Nat.zero_add]at hAl
  generalize adN [] G G.length=Z at*
  clear hlt hi
  repeat' (first|(refine awK fun _ _=>?_)|refine zHg ?_|(fail_if_success with_reducible refine Owe.mk ?_);(simp(disch:=omega) [go_sem,slB,mpO,atR,knB]))
  refine awp_for [0,5,7,8] [7,23,900,22] (fun y:Nat×Int×List Tm×Int=> [(10,nt .i64 y.2.1)]) (fun y:Nat×Int×List Tm×Int=> [(7,slB false 900 y.2.2.1.length),(23,mpO false y.2.2.1),(900,atR false y.2.2.1),(22,wkB false y.2.2.2)]) (fun y:Nat×Int×List Tm×Int=>(1002 - y.2.1).toNat) (fun y:Nat×Int×List Tm×Int=> -1≤y.2.1∧y.2.1≤1000∧1001≤y.1+y.2.1∧okA q M y.2.2.1∧y.2.2.1.length≤1000000∧0≤y.2.2.2∧y.2.2.2≤1000000∧lgtN l (y.1+1) y.2.1 y.2.2.1 y.2.2.2=V) ((1002,-1,Z,1000000)) (Le.sub4 rfl (by simp[go_sem,slB,mpO,atR,knB,wkB])) ⟨?_⟩ ?_
  ·exact⟨by dsimp only;omega,by dsimp only;omega,by dsimp only;omega,hAo,by dsimp only;omega,by dsimp only;omega,by dsimp only;omega,hV⟩
  clear hV hAo hAl hG
  intro⟨f,n,A,lf⟩ ⟨hn1,hn2,hf,hA,hAl,h0,h1,hV⟩ AA hAA;simp only[kL,Nat.reduceBEq,Nat.reduceEqDiff,if_true,if_false,List.cons_append,List.nil_append,List.append_nil]
  dsimp only at*
  by_cases c1:n<A.length
  ·by_cases c2:(A.length:Int)≤1000
   ·rw[lgtN_go ⟨c1,by omega⟩]at hV
    have hAB:=hAA
    repeat' (first|(refine awK fun _ _=>?_)|refine zHg ?_|(fail_if_success with_reducible refine Owe.mk ?_);(simp(disch:=omega) [go_sem,c1,c2,slB,mpO,atR,knB,wkB]))
    refine awp_for [0,5,7,8,11,52] [901,22] (fun x:Nat×List Tm×Int=> [(10,nt .i64 A.length),(53,nt .i64 x.1),(12,.ref 901 0 x.2.1.length)]) (fun x:Nat×List Tm×Int=> [(901,atR false x.2.1),(22,wkB false x.2.2)]) (fun x:Nat×List Tm×Int=>l.length - x.1) (fun x:Nat×List Tm×Int=>x.1≤l.length∧okX q M x.2.1∧x.2.1.length≤x.1*5000∧0≤x.2.2∧x.2.2≤1000000∧lgtR l f A (rndL A (l.drop x.1) x.2.1 x.2.2)=V) ((0,[],lf)) (by refine Le.trans ?_ (Le.nil (i:=12) (T:=901) (es:=2) rfl);exact(Le.sub4 rfl (by simp[go_sem,slB,mpO,atR,knB,wkB,List.map_nil,List.length_nil]))) ⟨?_⟩ ?_
    ·exact⟨Nat.zero_le _,fun t ht=>by simp at ht,by simp,h0,h1,hV⟩
    clear hV h0 h1
    intro⟨i,m,lf⟩ ⟨hi,hm,hml,h0,h1,hV⟩ AA hAA;simp only[kL,Nat.reduceBEq,Nat.reduceEqDiff,if_true,if_false,List.cons_append,List.nil_append,List.append_nil]
    dsimp only at*
    by_cases hil:i<l.length
    ·have hr:=hl _ (List.getElem_mem hil)
     rw[List.drop_eq_getElem_cons hil]at hV
     generalize hre:l[i]=r at*
     rw[rndL_cons]at hV
     have hw:=ways_ok A r.body false lf hA hAl hr.2.2.1 (fun b hb=>(hr.2.2.2 b hb).2) h0 h1
     have hwk:=wyI_ok (M:=M) (B:=r.body) (k:=0) (W:= [[]]) hA (fun s hs=>by
      obtain rfl:=List.mem_singleton.1 hs
      exact⟨fun b hb=>by simp at hb,by simp⟩) (by simp) h0
     generalize wyI A r.body [[]] lf=R at*
     obtain⟨W,l1⟩:=R
     dsimp only at*
     cases W with
     |none=>
      have hV:false=V:=hV
      subst hV
      have hw2:MCall Tryz.prog 90 [.ptr 1000 0 0,.list false false (r.body.map eLt),.ref 1001 0 A.length] [(1000,wkB true lf),(1001,atR true A)] (fun r o'=>r= .tup [.list false true [],bl false]∧o'= [(1000,wkB true l1),(1001,atR true A)]):=hw
      repeat' (first|(refine awK fun _ _=>?_)|refine zHg ?_|(fail_if_success with_reducible refine Owe.mk ?_);(simp(disch:=omega) [go_sem,hil,hre,slB,mpO,atR,knB,wkB]))
      refine stepK_fis [(1000,22),(1001,900)] [(22,1000),(900,1001)] 20000 _ _ (Fits.mk' (by simp[go_sem,slB,mpO,atR,knB,wkB]) (by simp[go_sem,slB,mpO,atR,knB,wkB])) (by simp[go_sem,slB,mpO,atR,knB,wkB]) (by simp[go_sem,slB,mpO,atR,knB,wkB]) (hw2) (by simp[go_sem,slB,mpO,atR,knB,wkB]) (by simp[go_sem,slB,mpO,atR,knB,wkB]) ?_
      repeat' (first|(refine awK fun _ _=>?_)|refine zHg ?_|refine end_ret [] ?_;simp[go_sem,hil,hre,slB,mpO,atR,knB,wkB]|(fail_if_success with_reducible refine Owe.mk ?_);(simp(disch:=omega) [go_sem,hil,hre,slB,mpO,atR,knB,wkB]))
     |some W=>
      obtain⟨w1,w2,w3⟩:=hwk
      obtain⟨w3,w4,w5⟩:=w3 W rfl
      have hV:lgtR l f A (rndL A (l.drop (i+1)) (m++mrR r.head W) l1)=V:=hV
      have hw2:MCall Tryz.prog 90 [.ptr 1000 0 0,.list false false (r.body.map eLt),.ref 1001 0 A.length] [(1000,wkB true lf),(1001,atR true A)] (fun r o'=>r= .tup [.ref 1002 0 W.length,bl true]∧o'= [(1002,wyR W),(1000,wkB true l1),(1001,atR true A)]):=hw
      have hAC:=hAA
      repeat' (first|(refine awK fun _ _=>?_)|refine zHg ?_|(fail_if_success with_reducible refine Owe.mk ?_);(simp(disch:=omega) [go_sem,hil,hre,slB,mpO,atR,knB,wkB]))
      refine stepK_fis [(1000,22),(1001,900)] [(22,1000),(900,1001)] 20000 _ _ (Fits.mk' (by simp[go_sem,slB,mpO,atR,knB,wkB,wyR]) (by simp[go_sem,slB,mpO,atR,knB,wkB,wyR])) (by simp[go_sem,slB,mpO,atR,knB,wkB,wyR]) (by simp[go_sem,slB,mpO,atR,knB,wkB,wyR]) (hw2) (by simp[go_sem,slB,mpO,atR,knB,wkB,wyR]) (by simp[go_sem,slB,mpO,atR,knB,wkB,wyR]) ?_
      repeat' (first|(refine awK fun _ _=>?_)|refine zHg ?_|(fail_if_success with_reducible refine Owe.mk ?_);(simp(disch:=omega) [go_sem,hil,hre,slB,mpO,atR,knB,wkB,wyR]))
      refine awp_for [0,5,7,8,10,11,13,14,52,53,70] [901] (fun z:Nat×List Tm=> [(71,nt .i64 z.1),(12,.ref 901 0 z.2.length)]) (fun z:Nat×List Tm=> [(901,atR false z.2)]) (fun z:Nat×List Tm=>W.length - z.1) (fun z:Nat×List Tm=>z.1≤W.length∧z.2=m++mrR r.head (W.take z.1)) ((0,m)) (Le.sub4 rfl (by simp[go_sem,slB,mpO,atR,knB,wkB,wyR])) ⟨?_⟩ ?_
      ·exact⟨Nat.zero_le _,by simp[mrR]⟩
      intro⟨k,m'⟩ ⟨hk,hm'⟩ AA hAA;simp only[kL,Nat.reduceBEq,Nat.reduceEqDiff,if_true,if_false,List.cons_append,List.nil_append,List.append_nil]
      dsimp only at*
      have hln:m'.length≤m.length+k:=by
       have h2:=mrR_len (h:=r.head) (W:=W.take k)
       rw[hm',List.length_append]
       rw[List.length_take]at h2
       omega
      by_cases hkl:k<W.length
      ·have hu:=instance_ok W[k] false false hq r.head hr.1
       have hmn:=mr_next (h:=r.head) hkl
       generalize hs:W[k]=s at*
       generalize inzT r.head s=y at*
       obtain⟨u,c⟩:=y
       dsimp only at*
       cases c
       ·repeat' (first|(refine awK fun _ _=>?_)|refine zHg ?_|refine dstepK_is rfl (hu) rfl (by simp) ?_|refine(hAA.next ((k+1,m')) (Le.sub4 rfl (by simp[go_sem,slB,mpO,atR,knB,wkB,wyR])) (by(try dsimp only);omega) ?_)|(fail_if_success with_reducible refine Owe.mk ?_);(simp(disch:=omega) [go_sem,hil,hre,hkl,hs,slB,mpO,atR,knB,wkB,wyR])|refine zDr 14 mix ?_|fail)
        all_goals(first|omega|skip)
        exact⟨hkl,by rw[hm',hmn];simp⟩
       ·repeat' (first|(refine awK fun _ _=>?_)|refine zHg ?_|refine dstepK_is rfl (hu) rfl (by simp) ?_|refine(hAA.next ((k+1,m'++ [u])) (Le.sub4 rfl (by simp[go_sem,slB,mpO,atR,knB,wkB,wyR])) (by(try dsimp only);omega) ?_)|(fail_if_success with_reducible refine Owe.mk ?_);(simp(disch:=omega) [go_sem,hil,hre,hkl,hs,slB,mpO,atR,knB,wkB,wyR])|refine zAo ?_|refine zDr 14 mix ?_|fail)
        all_goals(first|omega|skip)
        exact⟨hkl,by rw[hm',hmn];simp⟩
      ·obtain rfl:k=W.length:=by omega
       rw[List.take_length]at hm'
       repeat' (first|(refine awK fun _ _=>?_)|refine zHg ?_|refine(hAC.next ((i+1,m',l1)) (Le.sub4 rfl (by simp[go_sem,slB,mpO,atR,knB,wkB,wyR])) (by(try dsimp only);omega) ?_)|(fail_if_success with_reducible refine Owe.mk ?_);(simp(disch:=omega) [go_sem,slB,mpO,atR,knB,wkB,wyR]))
       all_goals(first|omega|skip)
       refine⟨hil,fun u hu=>?_,by dsimp only;omega,w5,by dsimp only;omega,by rw[hm'];exact hV⟩
       rw[hm']at hu
       exact(List.mem_append.1 hu).elim (hm u) (mrR_ok hr.1 hr.2.1 w3 u)
    ·obtain rfl:i=l.length:=by omega
     rw[List.drop_length,rndL_nil]at hV
     have hV:lgtN l f A.length ((m++extL A).foldl addA A) lf=V:=hV
     repeat' (first|(refine awK fun _ _=>?_)|refine zHg ?_|(fail_if_success with_reducible refine Owe.mk ?_);(simp(disch:=omega) [go_sem,slB,mpO,atR,knB,wkB]))
     refine awp_for [0,5,7,8,10,11,95] [901] (fun z:Nat×List Tm=> [(96,nt .i64 z.1),(12,.ref 901 0 z.2.length)]) (fun z:Nat×List Tm=> [(901,atR false z.2)]) (fun z:Nat×List Tm=>A.length - z.1) (fun z:Nat×List Tm=>z.1≤A.length∧z.2=m++extL (A.take z.1)) ((0,m)) (Le.sub4 rfl (by simp[go_sem,slB,mpO,atR,knB,wkB])) ⟨?_⟩ ?_
     ·exact⟨Nat.zero_le _,by simp[extL]⟩
     intro⟨j,m'⟩ ⟨hj,hm'⟩ AA hAA;simp only[kL,Nat.reduceBEq,Nat.reduceEqDiff,if_true,if_false,List.cons_append,List.nil_append,List.append_nil]
     dsimp only at*
     have hln:m'.length≤m.length+j:=by
      have h2:=extL_len (A.take j)
      rw[hm',List.length_append]
      rw[List.length_take]at h2
      omega
     by_cases hjl:j<A.length
     ·have hen:=ext_next hjl
      generalize hta:A[j]=t at*
      by_cases e1:t.args.length=1
      ·have e1': ¬t.args.length=2:=by omega
       by_cases e2:t.name=initS
       ·have hx:extR t= [.mk trueS t.args]:=by unfold extR;rw[if_pos ⟨e1,.inl e2⟩]
        repeat' (first|(refine awK fun _ _=>?_)|refine zHg ?_|refine(hAA.next ((j+1,m'++ [.mk trueS t.args])) (Le.sub4 rfl (by simp[go_sem,slB,mpO,atR,knB,wkB])) (by(try dsimp only);omega) ?_)|(fail_if_success with_reducible refine Owe.mk ?_);(simp(disch:=omega) [go_sem,hjl,hta,e1,e2,slB,mpO,atR,knB,wkB])|refine zAo ?_|fail)
        all_goals(first|omega|skip)
        exact⟨hjl,by rw[hm',hen,hx];simp⟩
       ·by_cases e3:t.name=nextS
        ·have hx:extR t= [.mk trueS t.args]:=by unfold extR;rw[if_pos ⟨e1,.inr e3⟩]
         repeat' (first|(refine awK fun _ _=>?_)|refine zHg ?_|refine(hAA.next ((j+1,m'++ [.mk trueS t.args])) (Le.sub4 rfl (by simp[go_sem,slB,mpO,atR,knB,wkB])) (by(try dsimp only);omega) ?_)|(fail_if_success with_reducible refine Owe.mk ?_);(simp(disch:=omega) [go_sem,hjl,hta,e1,e2,e3,slB,mpO,atR,knB,wkB])|refine zAo ?_|fail)
         all_goals(first|omega|skip)
         exact⟨hjl,by rw[hm',hen,hx];simp⟩
        ·have hx:extR t= []:=by unfold extR;rw[if_neg (fun h=>h.2.elim e2 e3),if_neg (fun h=>e1' h.1)]
         repeat' (first|(refine awK fun _ _=>?_)|refine zHg ?_|refine(hAA.next ((j+1,m')) (Le.sub4 rfl (by simp[go_sem,slB,mpO,atR,knB,wkB])) (by(try dsimp only);omega) ?_)|(fail_if_success with_reducible refine Owe.mk ?_);(simp(disch:=omega) [go_sem,hjl,hta,e1,e1',e2,e3,slB,mpO,atR,knB,wkB]))
         all_goals(first|omega|skip)
         exact⟨hjl,by rw[hm',hen,hx];simp⟩
      ·by_cases e2:t.args.length=2
       ·by_cases e3:t.name=legalS
        ·have hx:extR t= [.mk doesS t.args]:=by unfold extR;rw[if_neg (fun h=>e1 h.1),if_pos ⟨e2,e3⟩]
         repeat' (first|(refine awK fun _ _=>?_)|refine zHg ?_|refine(hAA.next ((j+1,m'++ [.mk doesS t.args])) (Le.sub4 rfl (by simp[go_sem,slB,mpO,atR,knB,wkB])) (by(try dsimp only);omega) ?_)|(fail_if_success with_reducible refine Owe.mk ?_);(simp(disch:=omega) [go_sem,hjl,hta,e1,e2,e3,slB,mpO,atR,knB,wkB])|refine zAo ?_|fail)
         all_goals(first|omega|skip)
         exact⟨hjl,by rw[hm',hen,hx];simp⟩
        ·have hx:extR t= []:=by unfold extR;rw[if_neg (fun h=>e1 h.1),if_neg (fun h=>e3 h.2)]
         repeat' (first|(refine awK fun _ _=>?_)|refine zHg ?_|refine(hAA.next ((j+1,m')) (Le.sub4 rfl (by simp[go_sem,slB,mpO,atR,knB,wkB])) (by(try dsimp only);omega) ?_)|(fail_if_success with_reducible refine Owe.mk ?_);(simp(disch:=omega) [go_sem,hjl,hta,e1,e2,e3,slB,mpO,atR,knB,wkB]))
         all_goals(first|omega|skip)
         exact⟨hjl,by rw[hm',hen,hx];simp⟩
       ·have hx:extR t= []:=by unfold extR;rw[if_neg (fun h=>e1 h.1),if_neg (fun h=>e2 h.1)]
        repeat' (first|(refine awK fun _ _=>?_)|refine zHg ?_|refine zgd ?_ ?_<;>(intro h;first|(exfalso;omega)|(simp only[h,zT]))|refine(hAA.next ((j+1,m')) (Le.sub4 rfl (by simp[go_sem,slB,mpO,atR,knB,wkB])) (by(try dsimp only);omega) ?_)|(fail_if_success with_reducible refine Owe.mk ?_);(simp(disch:=omega) [go_sem,hjl,hta,e1,e2,slB,mpO,atR,knB,wkB]))
        all_goals(first|omega|skip)
        exact⟨hjl,by rw[hm',hen,hx];simp⟩
     ·obtain rfl:j=A.length:=by omega
      rw[List.take_length]at hm'
      rw[←hm']at hV
      have hX: ∀t∈m',okT q M t∧kzT t≤2305843009213693952∧t.depth≤1000:=fun t h=>by
       rw[hm']at h
       have:=(List.mem_append.1 h).elim (hm t) (extL_ok hM hA t)
       exact⟨this.1,Nat.le_trans this.2.1 hBG,this.2.2⟩
      obtain⟨g,rfl⟩: ∃g,f=g+1:=⟨f - 1,by omega⟩
      generalize m'=X at*
      clear hm' hm
      repeat' (first|(refine awK fun _ _=>?_)|refine zHg ?_|(fail_if_success with_reducible refine Owe.mk ?_);(simp(disch:=omega) [go_sem,slB,mpO,atR,knB,wkB]))
      refine awp_for [0,5,7,8,10,12,159] [7,23,900] (fun z:Nat=> [(160,nt .i64 z)]) (fun z:Nat=> [(7,slB false 900 (adN A X z).length),(23,mpO false (adN A X z)),(900,atR false (adN A X z))]) (fun z:Nat=>X.length - z) (fun z:Nat=>z≤X.length) (0) (Le.sub4 rfl (by simp[go_sem,slB,mpO,atR,knB,wkB,adN_zero])) ⟨?_⟩ ?_
      ·exact Nat.zero_le _
      intro z hz AA hAA;simp only[kL,Nat.reduceBEq,Nat.reduceEqDiff,if_true,if_false,List.cons_append,List.nil_append,List.append_nil]
      by_cases hlt:z<X.length
      ·skip
       have hnx:=adN_next (A:=A) hlt
       have hAl:=adN_len (A:=A) (Nat.le_of_lt hlt)
       have hAo:okA q M (adN A X z):=addL_ok hA fun u hu=>(hX u (List.mem_of_mem_take hu)).1
       have ht:=hX _ (List.getElem_mem hlt)
       generalize adN A X z=Z at*
       generalize hte:X[z]=t at*
       cases hh:hasK Z t
       ·by_cases h4:t.depth≤4
        ·have hu:=add_yes hq Z t ht.1 (by omega) (by omega) (by omega) hh h4
         rw[addA_yes hh h4]at hnx
         repeat' (first|(refine awK fun _ _=>?_)|refine zHg ?_|(fail_if_success with_reducible refine Owe.mk ?_);(simp(disch:=omega) [go_sem,hlt,hte,slB,mpO,atR,knB]))
         refine stepK_fis [(1000,6),(1001,7),(1002,23),(1003,900)] [(6,1000),(7,1001),(23,1002),(900,1003)] 40000 _ _ (Fits.mk' (by simp[go_sem,adO,adP,slB,mpO,atR,knB]) (by simp[go_sem,adO,adP,slB,mpO,atR,knB])) (by simp[go_sem,adO,adP,slB,mpO,atR,knB]) (by simp[go_sem,adO,adP,slB,mpO,atR,knB]) (hu) (by simp[go_sem,adO,adP,slB,mpO,atR,knB]) (by simp[go_sem,adO,adP,slB,mpO,atR,knB]) ?_
         repeat' (first|refine zHg ?_|refine(hAA.next (z+1) (Le.renSub [(41004,900),(900,41004)] [(900,41004),(41004,900)] (by simp[go_sem,hnx,slB,mpO,atR,knB,adP]) (by simp[go_sem,hnx,slB,mpO,atR,knB,adP]) (Le.sub4 rfl (by simp[go_sem,hnx,slB,mpO,atR,knB,adP]))) (by(try dsimp only);omega) ?_)|(fail_if_success with_reducible refine Owe.mk ?_);(simp(disch:=omega) [go_sem,hlt,hte,slB,mpO,atR,knB,adP]))
         all_goals(first|omega|skip)
         exact⟨hlt⟩
        ·have hu:=add_deep hq Z t ht.1 (by omega) (by omega) (by omega) hh h4
         rw[addA_deep h4]at hnx
         repeat' (first|(refine awK fun _ _=>?_)|refine zHg ?_|(fail_if_success with_reducible refine Owe.mk ?_);(simp(disch:=omega) [go_sem,hlt,hte,slB,mpO,atR,knB]))
         refine stepK_fis [(1000,6),(1001,7),(1002,23),(1003,900)] [(6,1000),(7,1001),(23,1002),(900,1003)] 40000 _ _ (Fits.mk' (by simp[go_sem,adO,adP,slB,mpO,atR,knB]) (by simp[go_sem,adO,adP,slB,mpO,atR,knB])) (by simp[go_sem,adO,adP,slB,mpO,atR,knB]) (by simp[go_sem,adO,adP,slB,mpO,atR,knB]) (hu) (by simp[go_sem,adO,adP,slB,mpO,atR,knB]) (by simp[go_sem,adO,adP,slB,mpO,atR,knB]) ?_
         repeat' (first|refine zHg ?_|refine(hAA.next (z+1) (Le.sub4 rfl (by simp[go_sem,hnx,slB,mpO,atR,knB,adO])) (by(try dsimp only);omega) ?_)|(fail_if_success with_reducible refine Owe.mk ?_);(simp(disch:=omega) [go_sem,hlt,hte,slB,mpO,atR,knB,adO]))
         all_goals(first|omega|skip)
         exact⟨hlt⟩
       ·have hu:=add_has hq Z t ht.1 (by omega) (by omega) (by omega) hh
        rw[addA_has hh]at hnx
        repeat' (first|(refine awK fun _ _=>?_)|refine zHg ?_|(fail_if_success with_reducible refine Owe.mk ?_);(simp(disch:=omega) [go_sem,hlt,hte,slB,mpO,atR,knB]))
        refine stepK_fis [(1000,6),(1001,7),(1002,23),(1003,900)] [(6,1000),(7,1001),(23,1002),(900,1003)] 40000 _ _ (Fits.mk' (by simp[go_sem,adO,adP,slB,mpO,atR,knB]) (by simp[go_sem,adO,adP,slB,mpO,atR,knB])) (by simp[go_sem,adO,adP,slB,mpO,atR,knB]) (by simp[go_sem,adO,adP,slB,mpO,atR,knB]) (hu) (by simp[go_sem,adO,adP,slB,mpO,atR,knB]) (by simp[go_sem,adO,adP,slB,mpO,atR,knB]) ?_
        repeat' (first|refine zHg ?_|refine(hAA.next (z+1) (Le.sub4 rfl (by simp[go_sem,hnx,slB,mpO,atR,knB,adO])) (by(try dsimp only);omega) ?_)|(fail_if_success with_reducible refine Owe.mk ?_);(simp(disch:=omega) [go_sem,hlt,hte,slB,mpO,atR,knB,adO]))
        all_goals(first|omega|skip)
        exact⟨hlt⟩
      ·obtain rfl:z=X.length:=by omega
       have hAl2:=adN_len (A:=A) (X:=X) (Nat.le_refl _)
       have hAo:=addL_ok hA fun u hu=>(hX u hu).1
       rw[adN_all]at*
       repeat' (first|(refine awK fun _ _=>?_)|refine zHg ?_|refine(hAB.next ((g,A.length,X.foldl addA A,lf)) (Le.sub4 rfl (by simp[go_sem,slB,mpO,atR,knB,wkB])) (by(try dsimp only);omega) ?_)|(fail_if_success with_reducible refine Owe.mk ?_);(simp(disch:=omega) [go_sem,slB,mpO,atR,knB,wkB]))
       all_goals(first|omega|skip)
       exact⟨by dsimp only;omega,by dsimp only;omega,by dsimp only;omega,hAo,by dsimp only;omega,h0,h1,hV⟩
   ·rw[lgtN_end (fun h=>c2 (by omega)),decide_eq_false (fun h=>c2 (by omega))]at hV
    subst hV
    repeat' (first|(refine awK fun _ _=>?_)|refine zHg ?_|refine end_ret [] ?_;simp[go_sem,c1,c2,slB,mpO,atR,knB,wkB]|(fail_if_success with_reducible refine Owe.mk ?_);(simp(disch:=omega) [go_sem,c1,c2,slB,mpO,atR,knB,wkB]))
  ·rw[lgtN_end (fun h=>c1 h.1)]at hV
   by_cases c2:A.length≤1000
   ·rw[decide_eq_true c2]at hV
    subst hV
    have c3:(A.length:Int)≤1000:=by omega
    repeat' (first|(refine awK fun _ _=>?_)|refine zHg ?_|refine end_ret [] ?_;simp[go_sem,c1,c3,slB,mpO,atR,knB,wkB]|(fail_if_success with_reducible refine Owe.mk ?_);(simp(disch:=omega) [go_sem,c1,c3,slB,mpO,atR,knB,wkB]))
   ·rw[decide_eq_false c2]at hV
    subst hV
    have c3: ¬(A.length:Int)≤1000:=by omega
    repeat' (first|(refine awK fun _ _=>?_)|refine zHg ?_|refine end_ret [] ?_;simp[go_sem,c1,c3,slB,mpO,atR,knB,wkB]|(fail_if_success with_reducible refine Owe.mk ?_);(simp(disch:=omega) [go_sem,c1,c3,slB,mpO,atR,knB,wkB]))
set_option maxHeartbeats 8000000
mutual
def nmT (M:Nat):Tm→Prop
 | .mk n ts=>n.size≤M∧nmL M ts
def nmL (M:Nat):List Tm→Prop
 | []=>True
 |t::ts=>nmT M t∧nmL M ts
end
theorem nmL_iff {M:Nat}: ∀{l:List Tm},nmL M l↔ ∀t∈l,nmT M t
 | []=>by simp[nmL]
 |t::r=>by rw[nmL,nmL_iff];simp
theorem ok_of_small {M:Nat}: ∀t:Tm,nmT M t→t.size≤20→okT 19 M t:=by
 refine tm_ind fun t ih h hz=>?_
 obtain⟨n,ts⟩:=t
 simp only[args_mk]at ih
 rw[nmT]at h
 rw[size_eq,args_mk]at hz
 have:=length_le_sizeL ts
 refine okT_mk.2 ⟨h.1,by omega,okL_iff.2 fun u hu=>ih u hu (nmL_iff.1 h.2 u hu) ?_⟩
 have:=size_mem hu
 omega
def nmR (M:Nat) (r:Rl):Prop:=nmT M r.head∧ ∀b∈r.body,nmT M b.atom
def smallR (r:Rl):Bool:=smallT 20 r.head&&(decide (r.body.length≤8)&&r.body.all fun b=>smallT 20 b.atom)
def smallRs (m:Int) (l:List Rl):Bool:=decide ((l.length:Int)≤m)&&(l.all smallR&&lgtF l [])
theorem okR_of {M:Nat} {r:Rl} (hn:nmR M r) (h:smallR r=true):okR 19 M r:=by
 unfold smallR at h
 rw[Bool.and_eq_true,Bool.and_eq_true,decide_eq_true_eq,List.all_eq_true]at h
 obtain⟨h1,h2,h3⟩:=h
 have z1:r.head.size≤20:=by have:=smallT_size (by decide) h1;omega
 refine⟨ok_of_small _ hn.1 z1,z1,h2,fun b hb=>?_⟩
 have z2:b.atom.size≤20:=by have:=smallT_size (by decide) (h3 b hb);omega
 exact⟨ok_of_small _ (hn.2 b hb) z2,z2⟩
theorem SmallRules_ok {M:Nat} (hM:5≤M) (hBG:BG 19 M≤2305843009213693952) (l:List Rl) (fu:Bool) (m:Int) (hm:0≤m∧m≤100) (hn: ∀r∈l,nmR M r) (hbl:l.length≤140737488355328) (hbb: ∀r∈l,r.body.length≤140737488355328):
 ACall Tryz.prog 19 [.list false fu (l.map eRl),nt .i64 m] (fun r=>r=bl (smallRs m l)):=by
 by_cases hlm:m<(l.length:Int)
 ·have e:smallRs m l=false:=by unfold smallRs;rw[decide_eq_false (by omega),Bool.false_and]
  rw[e]
  refine acall_of_awp Tryz.func19 Tryz.call19 rfl (by simp[Tryz.ntmps19]) ?_;simp only[Tryz.ntmps19,Tryz.results19]
  repeat' (first|(refine awK fun _ _=>?_)|refine zHg ?_|refine end_ret [] ?_;simp[go_sem,hlm]|(fail_if_success with_reducible refine Owe.mk ?_);(simp(disch:=omega) [go_sem,hlm]))
 ·generalize hV:smallRs m l=V
  unfold smallRs at hV
  rw[decide_eq_true (by omega),Bool.true_and]at hV
  refine acall_of_awp Tryz.func19 Tryz.call19 rfl (by simp[Tryz.ntmps19]) ?_;simp only[Tryz.ntmps19,Tryz.results19]
  repeat' (first|(refine awK fun _ _=>?_)|refine zHg ?_|(fail_if_success with_reducible refine Owe.mk ?_);(simp(disch:=omega) [go_sem,hlm]))
  refine awp_for [0,12] [] (fun i:Nat=> [(13,nt .i64 i)]) (fun i:Nat=> []) (fun i:Nat=>l.length - i) (fun i:Nat=>i≤l.length∧ ∀(k:Nat) (hk:k<l.length),k<i→smallR l[k]=true) (0) (Le.sub4 rfl (by simp[go_sem])) ⟨?_⟩ ?_
  ·exact⟨Nat.zero_le _,fun k _ hk=>absurd hk (Nat.not_lt_zero _)⟩
  intro i ⟨hi,hs⟩ AA hAA;simp only[kL,Nat.reduceBEq,Nat.reduceEqDiff,if_true,if_false,List.cons_append,List.nil_append,List.append_nil]
  by_cases hlt:i<l.length
  ·have hb8:=hbb _ (List.getElem_mem hlt)
   have hbad:smallR l[i]=false→V=false:=fun h=>by
    rw[←hV,Bool.and_eq_false_iff]
    refine .inl ?_
    rw[List.all_eq_false]
    exact⟨l[i],List.getElem_mem hlt,by rw[h];simp⟩
   have hgo:smallR l[i]=true→ ∀(k:Nat) (hk:k<l.length),k<i+1→smallR l[k]=true:=fun h k hk hki=>by
    rcases Nat.lt_or_eq_of_le (Nat.le_of_lt_succ hki)with h'|rfl
    ·exact hs k hk h'
    ·exact h
   have h1:=Small_ok l[i].head 20 (by decide)
   have hAB:=hAA
   clear hV hs
   generalize hre:l[i]=r at*
   unfold smallR at hbad hgo
   cases q1:smallT 20 r.head
   ·rw[q1]at h1 hbad
    obtain rfl:=hbad rfl
    repeat' (first|(refine awK fun _ _=>?_)|refine zHg ?_|refine end_ret [] ?_;simp[go_sem,hlt,hre]|refine stepK_is rfl (h1) (by simp) ?_|(fail_if_success with_reducible refine Owe.mk ?_);(simp(disch:=omega) [go_sem,hlt,hre]))
   ·rw[q1]at h1 hbad hgo
    by_cases q2:r.body.length≤8
    ·rw[decide_eq_true q2,Bool.true_and,Bool.true_and]at hbad hgo
     have q2': ¬(8:Int)<r.body.length:=by omega
     repeat' (first|(refine awK fun _ _=>?_)|refine zHg ?_|refine stepK_is rfl (h1) (by simp) ?_|(fail_if_success with_reducible refine Owe.mk ?_);(simp(disch:=omega) [go_sem,hlt,hre,q2']))
     refine awp_for [0,5,12,13,37] [] (fun k:Nat=> [(38,nt .i64 k)]) (fun k:Nat=> []) (fun k:Nat=>r.body.length - k) (fun k:Nat=>k≤r.body.length∧ ∀(j:Nat) (hj:j<r.body.length),j<k→smallT 20 r.body[j].atom=true) (0) (Le.sub4 rfl (by simp[go_sem])) ⟨?_⟩ ?_
     ·exact⟨Nat.zero_le _,fun k _ hk=>absurd hk (Nat.not_lt_zero _)⟩
     intro k ⟨hk,hs⟩ AA hAA;simp only[kL,Nat.reduceBEq,Nat.reduceEqDiff,if_true,if_false,List.cons_append,List.nil_append,List.append_nil]
     by_cases hkl:k<r.body.length
     ·have h2:=Small_ok r.body[k].atom 20 (by decide)
      cases q3:smallT 20 r.body[k].atom
      ·rw[q3]at h2
       obtain rfl:=hbad (List.all_eq_false.2 ⟨_,List.getElem_mem hkl,by rw[q3];simp⟩)
       generalize hbe:r.body[k]=b at*
       repeat' (first|(refine awK fun _ _=>?_)|refine zHg ?_|refine end_ret [] ?_;simp[go_sem,hlt,hre,hkl,hbe]|refine stepK_is rfl (h2) (by simp) ?_|(fail_if_success with_reducible refine Owe.mk ?_);(simp(disch:=omega) [go_sem,hlt,hre,hkl,hbe]))
      ·rw[q3]at h2
       have hs': ∀(j:Nat) (hj:j<r.body.length),j<k+1→smallT 20 r.body[j].atom=true:=fun j hj hjk=>by
        rcases Nat.lt_or_eq_of_le (Nat.le_of_lt_succ hjk)with h'|rfl
        ·exact hs j hj h'
        ·exact q3
       clear hs
       generalize hbe:r.body[k]=b at*
       repeat' (first|(refine awK fun _ _=>?_)|refine zHg ?_|refine stepK_is rfl (h2) (by simp) ?_|refine(hAA.next (k+1) (Le.sub4 rfl (by simp[go_sem])) (by(try dsimp only);omega) ?_)|(fail_if_success with_reducible refine Owe.mk ?_);(simp(disch:=omega) [go_sem,hlt,hre,hkl,hbe]))
       all_goals(first|omega|skip)
       exact⟨hkl,hs'⟩
     ·obtain rfl:k=r.body.length:=by omega
      have hall:=hgo (List.all_eq_true.2 fun b hb=>by
       obtain⟨j,hj,rfl⟩:=List.mem_iff_getElem.1 hb
       exact hs j hj hj)
      repeat' (first|(refine awK fun _ _=>?_)|refine zHg ?_|refine(hAB.next (i+1) (Le.sub4 rfl (by simp[go_sem])) (by(try dsimp only);omega) ?_)|(fail_if_success with_reducible refine Owe.mk ?_);(simp(disch:=omega) [go_sem,hlt,hre]))
      all_goals(first|omega|skip)
      exact⟨hlt,hall⟩
    ·rw[decide_eq_false q2,Bool.false_and,Bool.true_and]at hbad
     obtain rfl:=hbad rfl
     have q2':(8:Int)<r.body.length:=by omega
     repeat' (first|(refine awK fun _ _=>?_)|refine zHg ?_|refine end_ret [] ?_;simp[go_sem,hlt,hre,q2']|refine stepK_is rfl (h1) (by simp) ?_|(fail_if_success with_reducible refine Owe.mk ?_);(simp(disch:=omega) [go_sem,hlt,hre,q2']))
  ·obtain rfl:i=l.length:=by omega
   have hall:l.all smallR=true:=List.all_eq_true.2 fun r hr=>by
    obtain⟨k,hk,rfl⟩:=List.mem_iff_getElem.1 hr
    exact hs k hk hk
   rw[hall,Bool.true_and]at hV
   have hL:=Light_ok (q:=19) (by decide) hM hBG l [] fu false true (fun r hr=>okR_of (hn r hr) (List.all_eq_true.1 hall r hr)) (by omega) (fun t ht=>by simp at ht) (by simp)
   rw[hV]at hL
   simp only[List.map_nil]at hL
   clear hV hs hall
   repeat' (first|(refine awK fun _ _=>?_)|refine zHg ?_|refine end_ret [] ?_;simp[go_sem]|refine stepK_is rfl (hL) (by simp) ?_|(fail_if_success with_reducible refine Owe.mk ?_);(simp(disch:=omega) [go_sem]))
open Go.Ab Go.ChangeShapes Go.WideShapes Go.ChangeAt Go.RowKit
theorem own:ownKnob Tryz.prog.godebug=none:=by kernel_rfl
theorem kids:Kids Tryz.prog (· <Tryz.prog.types.size):=kids_rows (by kernel_rfl) (by kernel_rfl)
theorem full: ∀t e,t<Tryz.prog.types.size→Tryz.prog.underlying t=some (.slice e)→0<Tryz.prog.cellsOf e:=slices_full_of Tryz.prog (by kernel_rfl)
def okRl (r:Rl):Prop:=nmR reachBytes r∧r.body.length≤maxRow
section
variable {H : Type} {enc : TypeId × Value → H} {W : World}
theorem came_tmM: ∀n:Nat,Came enc Tryz.prog W n 24 eT (nmT reachBytes)∧Came enc Tryz.prog W n 22 (fun l:List Tm=> .list false false (l.map eTm)) (nmL reachBytes)
 |0=>⟨Came.zero,Came.zero⟩
 |n+1=>by
  obtain⟨h1,h2⟩:=came_tmM n
  refine⟨(Came.struct Tryz.underlying24 rfl (by kernel_rfl) (CameF.cons 1 rfl (by kernel_rfl) (Came.string Tryz.underlying9) (CameF.cons 1 rfl (by kernel_rfl) h2 CameF.nil))).map (fun x=>Tm.mk x.1 x.2.1) (fun x h=>⟨⟨h.1,h.2.1⟩,rfl⟩),?_⟩
  refine(Came.slice Tryz.underlying22 (by decide+kernel) (by decide+kernel) h1).map (fun x=>x) (fun x h=>⟨nmL_iff.2 h.1,?_⟩)
  congr 1
  exact List.map_congr_left fun t _=>eTm_eq t
theorem came_lit: ∀n:Nat,Came enc Tryz.prog W n 46 eLt (fun b=>nmT reachBytes b.atom)
 |0=>Came.zero
 |n+1=>(Came.struct Tryz.underlying46 rfl (by kernel_rfl) (CameF.cons 1 rfl (by kernel_rfl) (Came.bool Tryz.underlying4) (CameF.cons 2 rfl (by kernel_rfl) (came_tmM n).1 CameF.nil))).map (fun x=>(⟨x.1,x.2.1⟩:Lt)) (fun x h=>⟨h.2.1,rfl⟩)
theorem came_lits: ∀n:Nat,Came enc Tryz.prog W n 25 (fun l:List Lt=> .list false false (l.map eLt)) (fun l=>(∀b∈l,nmT reachBytes b.atom)∧l.length≤maxRow)
 |0=>Came.zero
 |n+1=>((Came.slice Tryz.underlying25 (by decide+kernel) (by decide+kernel) (came_lit n)).len).map (fun x=>x) (fun x h=>⟨⟨h.1.1,h.2⟩,rfl⟩)
theorem came_rl: ∀n:Nat,Came enc Tryz.prog W n 27 eRl okRl
 |0=>Came.zero
 |n+1=>(Came.struct Tryz.underlying27 rfl (by kernel_rfl) (CameF.cons 2 rfl (by kernel_rfl) (came_tmM n).1 (CameF.cons 1 rfl (by kernel_rfl) (came_lits n) CameF.nil))).map (fun x=>(⟨x.1,x.2.1⟩:Rl)) (fun x h=>⟨⟨⟨h.1,h.2.1.1⟩,h.2.1.2⟩,rfl⟩)
theorem came_rls: ∀n:Nat,Came enc Tryz.prog W n 37 (fun l:List Rl=> .list false false (l.map eRl)) (fun l=>(∀r∈l,okRl r)∧l.length≤maxRow)
 |0=>Came.zero
 |n+1=>((Came.slice Tryz.underlying37 (by decide+kernel) (by decide+kernel) (came_rl n)).len).map (fun x=>x) (fun x h=>⟨⟨h.1.1,h.2⟩,rfl⟩)
end
open Go.Ab Go.RowKit
set_option maxRecDepth 100000
set_option maxHeartbeats 8000000
theorem sz_of {m:Int} {l:List Rl} (h:smallRs m l=true): ∀r∈l,SzR r:=by
 intro r hr
 unfold smallRs at h
 rw[Bool.and_eq_true,Bool.and_eq_true,List.all_eq_true]at h
 have h1:=h.2.1 r hr
 unfold smallR at h1
 rw[Bool.and_eq_true,Bool.and_eq_true,decide_eq_true_eq,List.all_eq_true]at h1
 obtain⟨a1,a2,a3⟩:=h1
 exact⟨by have:=smallT_size (by decide) a1;omega,by omega,fun b hb=>by have:=smallT_size (by decide) (a3 b hb);omega⟩
theorem len_of {l:List Rl} (h:smallRs 12 l=true):l.length≤12:=by
 unfold smallRs at h
 rw[Bool.and_eq_true,decide_eq_true_eq]at h
 omega
theorem smallsD_ok (l:List Rl) (fu:Bool) (h: ∀r∈l,okRl r) (hl:l.length≤maxRow):ACall Tryz.prog 19 [.list false fu (l.map eRl),nt .i64 12] (fun r=>r=bl (smallRs 12 l)):=
 SmallRules_ok (M:=reachBytes) (by decide) (by decide+kernel) l fu 12 ⟨by decide,by decide⟩ (fun r hr=>(h r hr).1) hl (fun r hr=>(h r hr).2)
theorem out_len {l:List Rl} (h:l.length≤12) (i:Nat):(outN l i).length≤12:=by
 have key: ∀(q O:List Rl),(q.foldl outF O).length≤O.length+q.length:=by
  intro q
  induction q with
  |nil=>intro O;simp
  |cons y q ih=>
   intro O
   have h1:=ih (outF O y)
   have h2:(outF O y).length≤O.length+1:=by unfold outF;split<;>simp
   simp only[List.foldl_cons,List.length_cons]
   omega
 have:=key ((l.take i).map nrmB) []
 rw[List.length_map,List.length_take,List.length_nil]at this
 unfold outN
 omega
theorem plainRules_ok (a b:List Rl) (le fu le' fu':Bool) (hz: ∀r∈a,r.body.length≤1000000):ACall Tryz.prog 21 [.list le fu (a.map eRl),.list le' fu' (b.map eRl)] (fun r=>r=bl (decide (a=b))):=by
 refine ACall.bound (i:=0) rfl Tryz.call21 fun hb=>?_
 rw[List.length_map]at hb
 have hb:a.length≤140737488355328:=hb
 by_cases h0:a.length=b.length
 ·generalize hR:decide (a=b)=R
  have h0': ¬(a.length:Int)≠b.length:=by omega
  refine acall_of_awp Tryz.func21 Tryz.call21 rfl (by simp[Tryz.ntmps21]) ?_;simp only[Tryz.ntmps21,Tryz.results21]
  repeat' (first|(refine awK fun _ _=>?_)|refine zHg ?_|(fail_if_success with_reducible refine Owe.mk ?_);(simp(disch:=omega) [go_sem,h0]))
  all_goals(first|(exfalso;omega)|skip)
  refine awp_for [0,1,12] [] (fun i:Nat=> [(13,nt .i64 i)]) (fun i:Nat=> []) (fun i:Nat=>b.length - i) (fun i:Nat=>i≤b.length∧ ∀(k:Nat) (hk:k<a.length) (hk':k<b.length),k<i→a[k]=b[k]) (0) (Le.sub4 rfl (by simp[go_sem])) ⟨?_⟩ ?_
  ·exact⟨Nat.zero_le _,fun k _ _ hk=>absurd hk (Nat.not_lt_zero _)⟩
  intro i ⟨hi,hn⟩ AA hAA;simp only[kL,Nat.reduceBEq,Nat.reduceEqDiff,if_true,if_false,List.cons_append,List.nil_append,List.append_nil]
  by_cases hlt:i<b.length
  ·have hla:i<a.length:=by omega
   have hs:=plainRule_ok a[i] b[i] (hz _ (List.getElem_mem hla))
   by_cases hq:a[i]=b[i]
   ·rw[decide_eq_true hq]at hs
    repeat' (first|(refine awK fun _ _=>?_)|refine zHg ?_|refine dstepK_is rfl (hs) rfl (by simp) ?_|refine(hAA.next (i+1) (Le.sub4 rfl (by simp[go_sem])) (by(try dsimp only);omega) ?_)|(fail_if_success with_reducible refine Owe.mk ?_);(simp(disch:=omega) [go_sem,hlt,hla,eRl])|refine zDr 10 mix ?_|fail)
    all_goals(first|omega|skip)
    all_goals exact⟨hlt,fun k hk hk' hki=>by rcases Nat.lt_or_eq_of_le (Nat.le_of_lt_succ hki)with h|rfl;exact hn k hk hk' h;exact hq⟩
   ·have hu:R=false:=by
     rw[←hR,decide_eq_false_iff_not]
     intro h
     apply hq
     simp only[h]
    subst hu
    rw[decide_eq_false hq]at hs
    repeat' (first|(refine awK fun _ _=>?_)|refine zHg ?_|refine end_ret [] ?_;simp[go_sem,hlt,hla,eRl]|refine dstepK_is rfl (hs) rfl (by simp) ?_|(fail_if_success with_reducible refine Owe.mk ?_);(simp(disch:=omega) [go_sem,hlt,hla,eRl])|refine zDr 10 mix ?_|fail)
  ·obtain rfl:i=b.length:=by omega
   have hu:R=true:=by
    rw[←hR,decide_eq_true_eq]
    exact List.ext_getElem h0 fun k h1 h2=>hn k h1 h2 h2
   subst hu
   repeat' (first|(refine awK fun _ _=>?_)|refine zHg ?_|refine end_ret [] ?_;simp[go_sem]|(fail_if_success with_reducible refine Owe.mk ?_);(simp(disch:=omega) [go_sem]))
 ·rw[decide_eq_false (fun h=>h0 (by rw[h]))]
  refine acall_of_awp Tryz.func21 Tryz.call21 rfl (by simp[Tryz.ntmps21]) ?_;simp only[Tryz.ntmps21,Tryz.results21]
  repeat' (first|(refine awK fun _ _=>?_)|refine zHg ?_|refine zqn ?_ ?_<;>(intro h;first|(exfalso;omega)|(simp only[h,zT]))|refine end_ret [] ?_;simp[go_sem,h0]|(fail_if_success with_reducible refine Owe.mk ?_);(simp(disch:=omega) [go_sem,h0]))
  all_goals(first|(exfalso;omega)|skip)
theorem sz_rls {l:List Rl} (h: ∀r∈l,SzR r): ∀x∈rlsR l,SzR x:=by
 intro x hx
 obtain⟨r,hr,rfl⟩:=List.mem_map.1 ((srtG_mem tot_R _ _).1 hx)
 exact sz_nrm (h r hr)
end Go.Proofs.YtkbglbcphjmiiaaGreatDoor
