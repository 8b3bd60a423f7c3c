import Derived.Test.YtbgckcdddlmiaaaDoorS11
import Derived.Test.YtbgckcdddlmiaaaDoorS8
import Derived.Test.YtbgckcdddlmiaaaDoorS9
set_option linter.unusedSimpArgs false
set_option linter.unusedVariables false
open Go.Proofs.Tryd
namespace Go.Proofs.YtbgckcdddlmiaaaDoor
open Go.Ab
set_option maxRecDepth 100000
set_option maxHeartbeats 16000000
def oE (m:Mu):List Mu→Nat→Int
 | [],_=> -1
 |x::r,i=>if m=x then i else oE m r (i+1)
theorem aF0 {m:Mu}: ∀{L:List Mu} {i:Nat},0≤oE m L i↔m∈L
 | [],i=>by simp[oE]
 |x::r,i=>by
  rw[oE]
  by_cases h:m=x
  ·rw[if_pos h];simp[h]
  ·rw[if_neg h,aF0];simp[h]
theorem bZu (m x:Mu):m=x↔(m.kind=x.kind∧m.rule=x.rule∧m.index=x.index):=by
 cases m;cases x;simp
theorem bZv (L:List Mu) (le fu:Bool) (m:Mu):ACall prog 36 [.list le fu (L.map dM),dM m] (fun r=>r=nt .i64 (oE m L 0)):=by
 refine ACall.bound (i:=0) rfl call36 fun hb=>?_
 rw[List.length_map]at hb
 have hb:L.length≤140737488355328:=hb
 generalize hV:oE m L 0=V
 refine bF func36 call36 rfl (by simp[ntmps36]) ?_;simp only[ntmps36,results36]
 repeat' (first|(refine aC fun _ _=>?_)|refine zHg ?_|simp(disch:=omega) [go_sem])
 refine cL [0,3,7] [] (fun i:Nat=> [(8,nt .i64 i)]) (fun i:Nat=> []) (fun i:Nat=>L.length - i) (fun i:Nat=>i≤L.length∧oE m (L.drop i) i=V) (0) (Le.sub4 rfl (by simp[go_sem])) ⟨?_⟩ ?_
 ·exact⟨Nat.zero_le _,hV⟩
 intro i ⟨hi,hG⟩ AA hAA;simp only[kL,Nat.reduceBEq,Nat.reduceEqDiff,if_true,if_false,List.cons_append,List.nil_append,List.append_nil]
 clear hV
 by_cases hlt:i<L.length
 ·rw[List.drop_eq_getElem_cons hlt,oE]at hG
  generalize hx:L[i]=x at*
  have he:=bZu m x
  by_cases hq:m=x
  ·rw[if_pos hq]at hG
   subst hG
   have he:=he.1 hq
   obtain⟨e1,e2,e3⟩:=he
   repeat' (first|(refine aC fun _ _=>?_)|refine zHg ?_|(refine aU [] ?_;simp[go_sem,hlt,hx,e1,e2,e3,dM])|simp(disch:=omega) [go_sem,hlt,hx,e1,e2,e3,dM]|refine zDr 6 aT ?_|fail)
  ·rw[if_neg hq]at hG
   have he: ¬(m.kind=x.kind∧m.rule=x.rule∧m.index=x.index):=fun h=>hq (he.2 h)
   repeat' (first|(refine aC fun _ _=>?_)|refine zHg ?_|(refine(hAA.next (i+1) (Le.sub4 rfl (by simp[go_sem,dM])) (by(try dsimp only);omega) ?_))|simp(disch:=omega) [go_sem,hlt,hx,he,dM]|refine zDr 6 aT ?_|fail)
   all_goals(first|omega|skip)
   all_goals exact⟨hlt,hG⟩
 ·obtain rfl:i=L.length:=by omega
  rw[List.drop_length,oE]at hG
  subst hG
  repeat' (first|(refine aC fun _ _=>?_)|refine zHg ?_|(refine aU [] ?_;simp[go_sem])|simp(disch:=omega) [go_sem])
theorem bZw (L:List Mu) (le fu:Bool) (m:Mu):ACall prog 17 [.list le fu (L.map dM),dM m] (fun r=>r=bl (decide (m∈L))):=by
 have h:=bZv L le fu m
 have e:=aF0 (m:=m) (L:=L) (i:=0)
 generalize oE m L 0=V at*
 by_cases hm:m∈L
 ·rw[decide_eq_true hm]
  have e:=e.2 hm
  refine bF func17 call17 rfl (by simp[ntmps17]) ?_;simp only[ntmps17,results17]
  repeat' (first|(refine aC fun _ _=>?_)|refine zHg ?_|(refine aU [] ?_;simp[go_sem,e])|refine aV rfl (h) (by simp) ?_|simp(disch:=omega) [go_sem,e])
 ·rw[decide_eq_false hm]
  have e: ¬0≤V:=fun h=>hm (e.1 h)
  refine bF func17 call17 rfl (by simp[ntmps17]) ?_;simp only[ntmps17,results17]
  repeat' (first|(refine aC fun _ _=>?_)|refine zHg ?_|(refine aU [] ?_;simp[go_sem,e])|refine aV rfl (h) (by simp) ?_|simp(disch:=omega) [go_sem,e])
def jE (l:List Rl) (m:Mu):Int:=if m.kind<1∨5<m.kind then 20 else if m∈eR l then 0 else 12
def oG (l:List Rl) (m:Mu):AV:=if jE l m=0 then .own 3 ((jD l m).map bZ)else .list false true []
theorem aF1 {l:List Rl} {m:Mu}:jE l m=0↔m∈eR l:=by
 unfold jE
 have hk:m∈eR l→1≤m.kind∧m.kind≤5:=fun h=>by
  obtain⟨i,_,h⟩:=tL.1 h
  rcases A2.1 h with rfl|⟨k,h1,rfl|rfl⟩|⟨p,k,h1,h2,h3,rfl⟩|⟨k,h1,h2,rfl⟩<;>simp
 by_cases h1:m.kind<1∨5<m.kind
 ·rw[if_pos h1]
  exact⟨fun h=>absurd h (by decide),fun h=>by have:=hk h;omega⟩
 ·rw[if_neg h1]
  by_cases h2:m∈eR l
  ·rw[if_pos h2];simp[h2]
  ·rw[if_neg h2];simp[h2]
theorem aF2 (m:Mu) (C:List ByteArray) (l:List Rl): ∀n,(mP m C l n).length≤n
 |0=>by simp[mP]
 |n+1=>by
  rw[mP,List.length_append]
  have:=aF2 m C l n
  split
  ·split<;>simp<;>omega
  ·simp;omega
theorem bZx (i:Nat) (r:Rl) (C:List ByteArray) (m:Mu) (hz:SzM r) (hC:C.length≤17820) (h:m∈gS i r C) (hk:m.kind≠1):
 ACall prog 19 [bZ r,dM m,.list false false (C.map bM)] (fun v=>v=bZ (eO r m C))∨
 (¬r.body.length=0∧MCall prog 19 [.agg [.sc (.string r.head.name),.list false false (r.head.args.map aL),.ref 1000 0 r.body.length],dM m,.list false false (C.map bM)] [(1000,eY r.body)] (fun v o'=>v=bZ (eO r m C)∧o'= [])):=by
 have hbl:=hz.body
 rcases A2.1 h with rfl|⟨k,h1,rfl|rfl⟩|⟨p,k,h1,h2,h3,rfl⟩|⟨k,h1,h2,rfl⟩
 ·exact absurd rfl hk
 ·refine .inr ⟨by omega,?_⟩
  have e:eO r ⟨2,i,k⟩ C=⟨r.head,r.body.eraseIdx k⟩:=by unfold eO;rw[if_pos rfl];rfl
  rw[e]
  exact bZt ⟨2,i,k⟩ C k rfl rfl r h1 (by omega)
 ·refine .inr ⟨by omega,?_⟩
  have e:eO r ⟨3,i,k⟩ C=⟨r.head,fO oC k r.body⟩:=by unfold eO;rw[if_neg (by simp),if_pos rfl];rfl
  rw[e]
  exact bZp ⟨3,i,k⟩ C k rfl rfl r h1 (by omega)
 ·refine .inl ?_
  have hc:0<C.length:=by omega
  have hsl:=sB hz
  have e1:(p*C.length+k) / C.length=p:=by
   rw[Nat.mul_comm,Nat.mul_add_div hc,Nat.div_eq_of_lt h2,Nat.add_zero]
  have e2:(p*C.length+k) % C.length=k:=by
   rw[Nat.mul_comm,Nat.mul_add_mod,Nat.mod_eq_of_lt h2]
  have e:eO r ⟨4,i,(p*C.length+k:Nat)⟩ C=sA p C[k] r:=by
   unfold eO
   rw[if_neg (by simp),if_neg (by simp),if_pos rfl]
   dsimp only[Int.toNat_natCast]
   rw[e1,e2,jU h2]
  rw[e]
  refine bZn ⟨4,i,(p*C.length+k:Nat)⟩ C p k rfl ?_ (by omega) ?_ h2 r hz
  ·show Int.tdiv ((p*C.length+k:Nat):Int) (C.length:Int)=p
   rw[←Int.ofNat_tdiv,e1]
  ·show Int.tmod ((p*C.length+k:Nat):Int) (C.length:Int)=k
   rw[←Int.ofNat_tmod,e2]
 ·rw[A3]at h1
  cases k with
  |zero=>
   refine .inl ?_
   rw[bWt]at h2
   have e:eO r ⟨5,i,(0:Nat)⟩ C=⟨jT r.head,r.body⟩:=by
    unfold eO
    rw[if_neg (by simp),if_neg (by simp),if_neg (by simp),if_pos rfl,if_pos (show((0:Nat):Int)=0 from rfl)]
   rw[e]
   have:=hz.head
   have:=qL r.head.args
   exact bZo ⟨5,i,(0:Nat)⟩ C rfl rfl r (P0 h2).1 (by omega)
  |succ k=>
   have hkl:k<r.body.length:=by omega
   rw[aEt hkl]at h2
   refine .inr ⟨by omega,?_⟩
   have e:eO r ⟨5,i,(k+1:Nat)⟩ C=⟨r.head,fO pP k r.body⟩:=by
    unfold eO
    rw[if_neg (by simp),if_neg (by simp),if_neg (by simp),if_pos rfl,if_neg (by(try simp);omega)];rfl
   rw[e]
   have:=hz.atom r.body[k] (List.getElem_mem hkl)
   have:=qL r.body[k].atom.args
   exact bZq ⟨5,i,(k+1:Nat)⟩ C k rfl (by simp) r hkl (by omega) (P0 h2).1 (by omega)
theorem Q4 (l:List Rl) (le fu:Bool) (m:Mu) (hz: ∀r∈l,SzM r) (hl:l.length≤99):ACall prog 9 [.list le fu (l.map bZ),dM m] (fun v=>v= .tup [oG l m,nt .i64 (jE l m)]):=by
 by_cases hk1:m.kind<1
 ·have e:jE l m=20:=by unfold jE;rw[if_pos (.inl hk1)]
  unfold oG
  rw[e,if_neg (by decide)]
  refine bF func9 call9 rfl (by simp[ntmps9]) ?_;simp only[ntmps9,results9]
  repeat' (first|(refine aC fun _ _=>?_)|refine zHg ?_|(refine aU [] ?_;simp[go_sem,hk1])|simp(disch:=omega) [go_sem,hk1])
 ·by_cases hk2:5<m.kind
  ·have e:jE l m=20:=by unfold jE;rw[if_pos (.inr hk2)]
   unfold oG
   rw[e,if_neg (by decide)]
   refine bF func9 call9 rfl (by simp[ntmps9]) ?_;simp only[ntmps9,results9]
   repeat' (first|(refine aC fun _ _=>?_)|refine zHg ?_|(refine aU [] ?_;simp[go_sem,hk1,hk2])|simp(disch:=omega) [go_sem,hk1,hk2])
  ·have hc:=(aFu l le fu hz hl).frz
   have hcl:=aFv hz hl
   have hE:jE l m=if m∈eR l then 0 else 12:=by unfold jE;rw[if_neg (by omega)]
   by_cases hr1:m.rule<0
   ·have hn: ¬m∈eR l:=fun h=>by
     obtain⟨i,hi,h⟩:=tL.1 h
     have:=wM h;omega
    rw[if_neg hn]at hE
    unfold oG
    rw[hE,if_neg (by decide)]
    generalize eD l=C at*
    refine bF func9 call9 rfl (by simp[ntmps9]) ?_;simp only[ntmps9,results9]
    repeat' (first|(refine aC fun _ _=>?_)|refine zHg ?_|(refine aU [] ?_;simp[go_sem,hk1,hk2,hr1])|refine aV rfl (hc) (by simp) ?_|simp(disch:=omega) [go_sem,hk1,hk2,hr1]|refine zDr 24 aT ?_|fail)
   ·by_cases hr2:(l.length:Int)≤m.rule
    ·have hn: ¬m∈eR l:=fun h=>by
      obtain⟨i,hi,h⟩:=tL.1 h
      have:=wM h;omega
     rw[if_neg hn]at hE
     unfold oG
     rw[hE,if_neg (by decide)]
     generalize eD l=C at*
     refine bF func9 call9 rfl (by simp[ntmps9]) ?_;simp only[ntmps9,results9]
     repeat' (first|(refine aC fun _ _=>?_)|refine zHg ?_|(refine aU [] ?_;simp[go_sem,hk1,hk2,hr1,hr2])|refine aV rfl (hc) (by simp) ?_|simp(disch:=omega) [go_sem,hk1,hk2,hr1,hr2]|refine zDr 24 aT ?_|fail)
    ·obtain⟨i,hi⟩: ∃i:Nat,m.rule=(i:Int):=⟨m.rule.toNat,by omega⟩
     have hil:i<l.length:=by omega
     have hmem:m∈eR l↔m∈gS i l[i] (eD l):=by
      rw[tL]
      constructor
      ·rintro⟨i',h1,h2⟩
       have:=wM h2
       obtain rfl:i'=i:=by omega
       rw[jU hil]at h2
       exact h2
      ·intro h
       exact⟨i,hil,by rw[jU hil];exact h⟩
     have hof:=(aFx i l[i] (eD l) (hz _ (List.getElem_mem hil)) (by omega) hcl).frz
     have hco:=bZw (gS i l[i] (eD l)) false false m
     by_cases hm:m∈gS i l[i] (eD l)
     ·have hE0:jE l m=0:=by rw[hE,if_pos (hmem.2 hm)]
      unfold oG
      rw[hE0,if_pos rfl]
      rw[decide_eq_true hm]at hco
      have hcls:=fun h=>bZx i l[i] (eD l) m (hz _ (List.getElem_mem hil)) hcl hm h
      have hget:l.getD i yR=l[i]:=jU hil
      unfold jD
      have hdl:=aF2 m (eD l) l
      have hnx: ∀n (h:n<l.length),mP m (eD l) l (n+1)=mP m (eD l) l n++(if m.rule=(n:Int)then(if m.kind=1 then[]else[eO l[n] m (eD l)])else[l[n]]):=fun n h=>by rw[mP,jU h]
      clear hE hmem hE0 hm
      generalize gS i l[i] (eD l)=O at*
      generalize eD l=C at*
      generalize hR:mP m C l l.length=R
      have hk3: ¬(5:Int)<m.kind:=hk2
      refine bF func9 call9 rfl (by simp[ntmps9]) ?_;simp only[ntmps9,results9]
      repeat' (first|(refine aC fun _ _=>?_)|refine zHg ?_|(refine zdd ?_ ?_<;>(intro h;first|(exfalso;omega)|(simp only[h,zT])))|refine aV rfl (hc) (by simp) ?_|refine cU rfl (hof) rfl (by simp) ?_|refine cU rfl (hco) rfl (by simp) ?_|simp(disch:=omega) [go_sem,hk1,hk2,hr1,hr2,hi,hil]|refine zDr 24 aT ?_|fail)
      clear hc hof hco hcl hr1 hr2 hget hk3
      obtain⟨kd,ru,ix⟩:=m
      dsimp only at hi hk1 hk2 hcls hnx
      subst hi
      refine cL [3,6,44,45] [900,3] (fun y:Nat×List Rl=> [(46,nt .i64 y.1),(7,.ref 900 0 y.2.length)]) (fun y:Nat×List Rl=> [(900,⟨true,false,false,3,y.2.map bZ,0⟩),(3,⟨false,true,false,3,[dM ⟨kd,(i:Int),ix⟩],0⟩)]) (fun y:Nat×List Rl=>l.length - y.1) (fun y:Nat×List Rl=>y.1≤l.length∧y.2=mP ⟨kd,(i:Int),ix⟩ C l y.1) ((0,[])) (by refine Le.trans ?_ (Le.frz 3 rfl (by show(0:Nat)≠1;decide));exact(by refine Le.trans ?_ (Le.nil (i:=7) (T:=900) (es:=3) rfl);exact(Le.sub4 rfl (by simp[go_sem,List.map_nil,List.length_nil])))) ⟨?_⟩ ?_
      ·exact⟨Nat.zero_le _,rfl⟩
      intro⟨j,A⟩ ⟨hj,hA⟩ AA hAA;simp only[kL,Nat.reduceBEq,Nat.reduceEqDiff,if_true,if_false,List.cons_append,List.nil_append,List.append_nil]
      dsimp only at*
      have hAl:A.length≤j:=by rw[hA];exact hdl j
      by_cases hlt:j<l.length
      ·have hn:=hnx j hlt
       rw[←hA]at hn
       have hzr:=hz _ (List.getElem_mem hlt)
       have hcp:=bZe l[j] hzr
       by_cases hji:j=i
       ·subst hji
        rw[if_pos rfl]at hn
        by_cases hk:kd=1
        ·rw[if_pos hk,List.append_nil]at hn
         repeat' (first|(refine aC fun _ _=>?_)|refine zHg ?_|(refine(hAA.next ((j+1,A)) (Le.sub4 rfl (by simp[go_sem,hk])) (by(try dsimp only);omega) ?_))|simp(disch:=omega) [go_sem,hlt,hk])
         all_goals(first|omega|skip)
         all_goals exact⟨hlt,hn.symm⟩
        ·rw[if_neg hk]at hn
         have hcp1:=bZf l[j] hzr
         have hcl:=hcls hk
         generalize eO l[j] ⟨kd,(j:Int),ix⟩ C=X at*
         generalize hrj:l[j]=r at*
         clear hcls hnx
         rcases hcl with h1|⟨h0,h2⟩
         ·repeat' (first|(refine aC fun _ _=>?_)|refine zHg ?_|(with_reducible refine dA ?_;first|(exact cX)|(refine zSkip ?_)|(refine cY rfl ?_ ?_))|(with_reducible refine cZ ?_;first|(refine zDone ?_)|(refine aD 0 rfl (by decide+kernel) (by decide+kernel) rfl rfl rfl ?_)|(refine aD 1 rfl (by decide+kernel) (by decide+kernel) rfl rfl rfl ?_)|(refine aD 3 rfl (by decide+kernel) (by decide+kernel) rfl rfl rfl ?_)|(refine aD 4 rfl (by decide+kernel) (by decide+kernel) rfl rfl rfl ?_)|(refine aD 8 rfl (by decide+kernel) (by decide+kernel) rfl rfl rfl ?_)|(refine zAll ?_;show cG _ _ _ _ _ _ _))|with_reducible refine dD ?_|refine aV rfl (hcp) (by simp) ?_|refine aV rfl (h1) (by simp) ?_|(refine(hAA.next ((j+1,A++ [X])) (Le.sub4 rfl (by simp[go_sem])) (by(try dsimp only);omega) ?_))|simp(disch:=omega) [go_sem,hlt,hrj,hk]|refine zAo ?_|refine zAny aT ?_|fail)
          all_goals(first|omega|skip)
          all_goals exact⟨hlt,hn.symm⟩
         ·have hcp1:=hcp1 h0
          clear hcp
          skip
          repeat' (first|((fail_if_success (refine qI ?_));refine iJ (fun K hK=>?_))|refine zHg ?_|simp(disch:=omega) [go_sem,hlt,hrj,hk])
          (try refine iJ (fun K hK=>?_));refine qG (s0:=⟨75,[(3,.ptr 3 0 0),(6,.list false false (C.map bM)),(7,.ref 900 0 A.length),(9,.ptr 9 0 0),(44,.list le fu (l.map bZ)),(45,nt .i64 l.length),(46,nt .i64 j)],(3,⟨false,true,false,3,[dM ⟨kd,(j:Int),ix⟩],0⟩)::(9,⟨false,true,false,3,[bZ r],0⟩):: [(900,⟨true,false,false,3,A.map bZ,0⟩)]⟩) (by refine Le.trans ?_ (Le.frzP 9 rfl (by intro h;cases h));exact(Le.sub4 rfl (by simp[go_sem]))) ?_
          repeat' (first|(refine aC fun _ _=>?_)|refine zHg ?_|(with_reducible refine dA ?_;first|(exact cX)|(refine zSkip ?_)|(refine cY rfl ?_ ?_))|(with_reducible refine cZ ?_;first|(refine zDone ?_)|(refine aD 0 rfl (by decide+kernel) (by decide+kernel) rfl rfl rfl ?_)|(refine aD 1 rfl (by decide+kernel) (by decide+kernel) rfl rfl rfl ?_)|(refine aD 3 rfl (by decide+kernel) (by decide+kernel) rfl rfl rfl ?_)|(refine aD 4 rfl (by decide+kernel) (by decide+kernel) rfl rfl rfl ?_)|(refine aD 8 rfl (by decide+kernel) (by decide+kernel) rfl rfl rfl ?_)|(refine zAll ?_;show cG _ _ _ _ _ _ _))|simp(disch:=omega) [go_sem,hlt,hrj,hk]|refine zAny aT ?_|fail)
          all_goals refine bG [] [] 10000 _ _ (Fits.mk' (by simp[go_sem]) (by simp[go_sem])) (by simp[go_sem]) (by simp[go_sem]) (hcp1) (by simp[go_sem]) (by simp[go_sem]) ?_
          all_goals repeat' (first|(refine aC fun _ _=>?_)|refine zHg ?_|(with_reducible refine dA ?_;first|(exact cX)|(refine zSkip ?_)|(refine cY rfl ?_ ?_))|(with_reducible refine cZ ?_;first|(refine zDone ?_)|(refine aD 0 rfl (by decide+kernel) (by decide+kernel) rfl rfl rfl ?_)|(refine aD 1 rfl (by decide+kernel) (by decide+kernel) rfl rfl rfl ?_)|(refine aD 3 rfl (by decide+kernel) (by decide+kernel) rfl rfl rfl ?_)|(refine aD 4 rfl (by decide+kernel) (by decide+kernel) rfl rfl rfl ?_)|(refine aD 8 rfl (by decide+kernel) (by decide+kernel) rfl rfl rfl ?_)|(refine zAll ?_;show cG _ _ _ _ _ _ _))|with_reducible refine dD ?_|simp(disch:=omega) [go_sem,hlt,hrj,hk])
          all_goals refine bG [(1000,10900)] [(10900,1000)] 20000 _ _ (Fits.mk' (by simp[go_sem,eY]) (by simp[go_sem,eY])) (by simp[go_sem,eY]) (by simp[go_sem,eY]) (h2) (by simp[go_sem,eY]) (by simp[go_sem,eY]) ?_
          all_goals repeat' (first|(refine aC fun _ _=>?_)|refine zHg ?_|(with_reducible refine dA ?_;first|(exact cX)|(refine zSkip ?_)|(refine cY rfl ?_ ?_))|(with_reducible refine cZ ?_;first|(refine zDone ?_)|(refine aD 0 rfl (by decide+kernel) (by decide+kernel) rfl rfl rfl ?_)|(refine aD 1 rfl (by decide+kernel) (by decide+kernel) rfl rfl rfl ?_)|(refine aD 3 rfl (by decide+kernel) (by decide+kernel) rfl rfl rfl ?_)|(refine aD 4 rfl (by decide+kernel) (by decide+kernel) rfl rfl rfl ?_)|(refine aD 8 rfl (by decide+kernel) (by decide+kernel) rfl rfl rfl ?_)|(refine zAll ?_;show cG _ _ _ _ _ _ _))|with_reducible refine dD ?_|(refine(hAA.next ((j+1,A++ [X])) (Le.sub4 rfl (by simp[go_sem])) (by(try dsimp only);omega) ?_))|simp(disch:=omega) [go_sem,hlt,hrj,hk]|refine zAo ?_|fail)
          all_goals(first|omega|skip)
          all_goals exact⟨hlt,hn.symm⟩
       ·rw[if_neg (by omega)]at hn
        have hji2: ¬(j:Int)=(i:Int):=by omega
        generalize hrj:l[j]=r at*
        clear hcls hnx
        repeat' (first|(refine aC fun _ _=>?_)|refine zHg ?_|refine aV rfl (hcp) (by simp) ?_|(refine(hAA.next ((j+1,A++ [r])) (Le.sub4 rfl (by simp[go_sem])) (by(try dsimp only);omega) ?_))|simp(disch:=omega) [go_sem,hlt,hrj,hji,hji2]|refine zAo ?_|fail)
        all_goals(first|omega|skip)
        all_goals exact⟨hlt,hn.symm⟩
      ·obtain rfl:j=l.length:=by omega
       obtain rfl:=hA.trans hR
       repeat' (first|(refine aC fun _ _=>?_)|refine zHg ?_|(refine aU [] ?_;simp[go_sem])|simp(disch:=omega) [go_sem])
     ·have hE0:jE l m=12:=by rw[hE,if_neg (fun h=>hm (hmem.1 h))]
      unfold oG
      rw[hE0,if_neg (by decide)]
      rw[decide_eq_false hm]at hco
      clear hE hmem hE0 hm
      generalize gS i l[i] (eD l)=O at*
      generalize eD l=C at*
      refine bF func9 call9 rfl (by simp[ntmps9]) ?_;simp only[ntmps9,results9]
      repeat' (first|(refine aC fun _ _=>?_)|refine zHg ?_|(refine zdd ?_ ?_<;>(intro h;first|(exfalso;omega)|(simp only[h,zT])))|(refine aU [] ?_;simp[go_sem,hk1,hk2,hr1,hr2,hi,hil])|refine aV rfl (hc) (by simp) ?_|refine cU rfl (hof) rfl (by simp) ?_|refine cU rfl (hco) rfl (by simp) ?_|simp(disch:=omega) [go_sem,hk1,hk2,hr1,hr2,hi,hil]|refine zDr 24 aT ?_|fail)
set_option maxHeartbeats 8000000
def sC (n:Nat):ByteArray:=⟨#[UInt8.ofNat (48+n)]⟩
theorem bZy (n:Nat) (h:n≤1):ACall prog 72 [nt .i64 n] (fun r=>r= .sc (.string (sC n))):=by
 have hc:n=0∨n=1:=by omega
 rcases hc with rfl|rfl
 all_goals refine bF func72 call72 rfl (by simp[ntmps72]) ?_;simp only[ntmps72,results72]
 all_goals repeat' (first|(refine aC fun _ _=>?_)|refine zHg ?_|(refine aU [] ?_;simp[go_sem])|simp(disch:=omega) [go_sem])
 all_goals kernel_rfl
theorem bZz (n:Nat) (h:n≤1):ACall prog 56 [nt .i64 n,nt .i64 10] (fun r=>r= .sc (.string (sC n))):=by
 have h1:=bZy n h
 have a1:(0:Int)≤n:=by omega
 have a2:(n:Int)<100:=by omega
 generalize sC n=q at*
 refine bF func56 call56 rfl (by simp[ntmps56]) ?_;simp only[ntmps56,results56]
 repeat' (first|(refine aC fun _ _=>?_)|refine zHg ?_|(refine aU [] ?_;simp[go_sem,a1,a2])|refine aV rfl (h1) (by simp) ?_|simp(disch:=omega) [go_sem,a1,a2])
theorem bZ0 (n:Nat) (h:n≤1):ACall prog 48 [nt .i64 n] (fun r=>r= .sc (.string (sC n))):=by
 have h1:=bZz n h
 generalize sC n=q at*
 refine bF func48 call48 rfl (by simp[ntmps48]) ?_;simp only[ntmps48,results48]
 repeat' (first|(refine aC fun _ _=>?_)|refine zHg ?_|(refine aU [] ?_;simp[go_sem])|refine aV rfl (h1) (by simp) ?_|simp(disch:=omega) [go_sem])
theorem aF3 (n:Nat) (h:n≤1):ACall prog 29 [nt .i64 n] (fun r=>r= .sc (.string (sC n))):=by
 have h1:=bZ0 n h
 generalize sC n=q at*
 refine bF func29 call29 rfl (by simp[ntmps29]) ?_;simp only[ntmps29,results29]
 repeat' (first|(refine aC fun _ _=>?_)|refine zHg ?_|(refine aU [] ?_;simp[go_sem])|refine aV rfl (h1) (by simp) ?_|simp(disch:=omega) [go_sem])
open Go.RowKit
section
variable {H : Type} {enc : TypeId × Value → H} {W : World}
end
end Go.Proofs.YtbgckcdddlmiaaaDoor
