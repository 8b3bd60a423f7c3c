import Derived.Test.YtbgckcdddlmiaaaGreatDoorS2
import Derived.Test.YtbgckcdddlmiaaaGreatDoorA11
set_option linter.unusedSectionVars false
set_option linter.unusedSimpArgs false
set_option linter.unusedVariables false
open Go.Proofs.Tryz
namespace Go.Proofs.YtbgckcdddlmiaaaGreatDoor
open Go.Ab
variable [Glob prog]
set_option maxRecDepth 100000
set_option maxHeartbeats 8000000
noncomputable instance:DecidableEq Lt:=fun _ _=>Classical.propDecidable _
noncomputable instance:DecidableEq Rl:=fun _ _=>Classical.propDecidable _
theorem bIc (a b:Rl) (hl:a.body.length<=1000000):ACall prog 37 [bX a,bX b] (fun v=>v=bl (decide (a=b))):=by
 obtain⟨h,ys⟩:=a
 obtain⟨g,bs⟩:=b
 dsimp only at hl
 have h1:=D4 h g
 generalize hV:decide ((⟨h,ys⟩:Rl)=⟨g,bs⟩)=V
 cases q1:lJ h g
 ·rw[q1]at h1
  have hu:V=false:=by
   rw[<-hV,decide_eq_false_iff_not]
   intro e
   have e1:=congrArg Rl.head e
   rw[(qE h g).2 e1]at q1
   cases q1
  subst hu
  refine aU func37 call37 rfl (by simp[ntmps37]) ?_;simp only[ntmps37,results37]
  repeat' (first|(refine aC fun _ _=>?_)|refine zHg ?_|(refine aN [] ?_;simp[go_sem])|refine aO rfl (h1) (by simp) ?_|simp(disch:=omega) [go_sem])
 ·rw[q1]at h1
  have hh:=(qE h g).1 q1
  subst hh
  by_cases hn:ys.length=bs.length
  ·have hn': ¬(ys.length:Int)≠bs.length:=by omega
   refine aU func37 call37 rfl (by simp[ntmps37]) ?_;simp only[ntmps37,results37]
   repeat' (first|(refine aC fun _ _=>?_)|refine zHg ?_|refine aO rfl (h1) (by simp) ?_|simp(disch:=omega) [go_sem,hn])
   try any_goals (exfalso;omega)
   refine bS [2,3,23] [] (fun i:Nat=> [(24,nt .i64 i)]) (fun i:Nat=> []) (fun i:Nat=>bs.length - i) (fun i:Nat=>i<=bs.length/\ ∀(k:Nat) (hk:k<ys.length) (hk':k<bs.length),k<i->ys[k]=bs[k]) (0) (Le.sub4 rfl (by simp[go_sem])) ⟨?_⟩ ?_
   ·exact⟨Nat.zero_le _,fun k _ _ hk=>absurd hk (Nat.not_lt_zero _)⟩
   intro i ⟨hi,hs⟩ AA hAA;simp only[kL,Nat.reduceBEq,Nat.reduceEqDiff]
   by_cases hlt:i<bs.length
   ·have hla:i<ys.length:=by omega
    have h2:=D4 ys[i].atom bs[i].atom
    by_cases hq:ys[i]=bs[i]
    ·have hneg:ys[i].neg=bs[i].neg:=by rw[hq]
     rw[hq,(qE _ _).2 rfl]at h2
     rw[<-hq]at h2
     have h2':=h2
     rw[hq]at h2'
     repeat' (first|(refine aC fun _ _=>?_)|refine zHg ?_|refine bR rfl (h2') rfl (by simp) ?_|(refine(hAA.next (i+1) (Le.sub4 rfl (by simp[go_sem])) (by(try dsimp only);omega) ?_))|simp(disch:=omega) [go_sem,hlt,hla,hq]|refine zDr 29 aQ ?_|fail)
     try any_goals omega
     all_goals exact⟨hlt,fun k hk hk' hki=>by rcases Nat.lt_or_eq_of_le (Nat.le_of_lt_succ hki)with h|rfl;exact hs k hk hk' h;exact hq⟩
    ·have hu:V=false:=by
      rw[<-hV,decide_eq_false_iff_not]
      intro e
      have e2:=congrArg Rl.body e
      dsimp only at e2
      subst e2
      exact hq rfl
     subst hu
     clear hs hV
     by_cases hneg:ys[i].neg=bs[i].neg
     ·have hat:lJ ys[i].atom bs[i].atom=false:=by
       rw[Bool.eq_false_iff]
       intro e
       apply hq
       have e3:=(qE _ _).1 e
       generalize ys[i]=x at*
       generalize bs[i]=y at*
       cases x;cases y
       dsimp only at hneg e3
       rw[hneg,e3]
      rw[hat]at h2
      repeat' (first|(refine aC fun _ _=>?_)|refine zHg ?_|(refine aN [] ?_;simp[go_sem,hlt,hla,hneg])|refine bR rfl (h2) rfl (by simp) ?_|simp(disch:=omega) [go_sem,hlt,hla,hneg]|refine zDr 29 aQ ?_|fail)
     ·repeat' (first|(refine aC fun _ _=>?_)|refine zHg ?_|(refine zdn ?_ ?_<;>(intro h;first|(simp only[h,zT])|skip))|(refine aN [] ?_;simp[go_sem,hlt,hla,hneg])|simp(disch:=omega) [go_sem,hlt,hla,hneg]|refine zDr 29 aQ ?_|fail)
      all_goals exact absurd (by assumption) hneg
   ·obtain rfl:i=bs.length:=by omega
    have hu:V=true:=by
     rw[<-hV,decide_eq_true_eq]
     congr 1
     exact List.ext_getElem hn fun k h1 h2=>hs k h1 h2 h2
    subst hu
    repeat' (first|(refine aC fun _ _=>?_)|refine zHg ?_|(refine aN [] ?_;simp[go_sem])|simp(disch:=omega) [go_sem])
  ·have hu:V=false:=by
    rw[<-hV,decide_eq_false_iff_not]
    intro e
    exact hn (congrArg (fun z:Rl=>z.body.length) e)
   subst hu
   refine aU func37 call37 rfl (by simp[ntmps37]) ?_;simp only[ntmps37,results37]
   repeat' (first|(refine aC fun _ _=>?_)|refine zHg ?_|(refine zqn ?_ ?_<;>(intro h;first|(exfalso;omega)|(simp only[h,zT])))|(refine aN [] ?_;simp[go_sem,hn])|refine aO rfl (h1) (by simp) ?_|simp(disch:=omega) [go_sem,hn])
   try any_goals (exfalso;omega)
theorem bId (a b:List Rl) (le fu le' fu':Bool) (hz: ∀r∈a,r.body.length<=1000000):ACall prog 16 [.list le fu (a.map bX),.list le' fu' (b.map bX)] (fun r=>r=bl (decide (a=b))):=by
 refine ACall.bound (i:=0) rfl call16 fun hb=>?_
 rw[List.length_map]at hb
 have hb:a.length<=140737488355328:=hb
 by_cases h0:a.length=b.length
 ·generalize hR:decide (a=b)=R
  have h0': ¬(a.length:Int)≠b.length:=by omega
  refine aU func16 call16 rfl (by simp[ntmps16]) ?_;simp only[ntmps16,results16]
  repeat' (first|(refine aC fun _ _=>?_)|refine zHg ?_|simp(disch:=omega) [go_sem,h0])
  try any_goals (exfalso;omega)
  refine bS [0,1,12] [] (fun i:Nat=> [(13,nt .i64 i)]) (fun i:Nat=> []) (fun i:Nat=>b.length - i) (fun i:Nat=>i<=b.length/\ ∀(k:Nat) (hk:k<a.length) (hk':k<b.length),k<i->a[k]=b[k]) (0) (Le.sub4 rfl (by simp[go_sem])) ⟨?_⟩ ?_
  ·exact⟨Nat.zero_le _,fun k _ _ hk=>absurd hk (Nat.not_lt_zero _)⟩
  intro i ⟨hi,hn⟩ AA hAA;simp only[kL,Nat.reduceBEq,Nat.reduceEqDiff]
  by_cases hlt:i<b.length
  ·have hla:i<a.length:=by omega
   have hs:=bIc a[i] b[i] (hz _ (List.getElem_mem hla))
   by_cases hq:a[i]=b[i]
   ·rw[decide_eq_true hq]at hs
    repeat' (first|(refine aC fun _ _=>?_)|refine zHg ?_|refine bR rfl (hs) rfl (by simp) ?_|(refine(hAA.next (i+1) (Le.sub4 rfl (by simp[go_sem])) (by(try dsimp only);omega) ?_))|simp(disch:=omega) [go_sem,hlt,hla,bX]|refine zDr 10 aQ ?_|fail)
    try any_goals omega
    all_goals exact⟨hlt,fun k hk hk' hki=>by rcases Nat.lt_or_eq_of_le (Nat.le_of_lt_succ hki)with h|rfl;exact hn k hk hk' h;exact hq⟩
   ·have hu:R=false:=by
     rw[<-hR,decide_eq_false_iff_not]
     intro h
     apply hq
     simp only[h]
    subst hu
    rw[decide_eq_false hq]at hs
    repeat' (first|(refine aC fun _ _=>?_)|refine zHg ?_|(refine aN [] ?_;simp[go_sem,hlt,hla,bX])|refine bR rfl (hs) rfl (by simp) ?_|simp(disch:=omega) [go_sem,hlt,hla,bX]|refine zDr 10 aQ ?_|fail)
  ·obtain rfl:i=b.length:=by omega
   have hu:R=true:=by
    rw[<-hR,decide_eq_true_eq]
    exact List.ext_getElem h0 fun k h1 h2=>hn k h1 h2 h2
   subst hu
   repeat' (first|(refine aC fun _ _=>?_)|refine zHg ?_|(refine aN [] ?_;simp[go_sem])|simp(disch:=omega) [go_sem])
 ·rw[decide_eq_false (fun h=>h0 (by rw[h]))]
  refine aU func16 call16 rfl (by simp[ntmps16]) ?_;simp only[ntmps16,results16]
  repeat' (first|(refine aC fun _ _=>?_)|refine zHg ?_|(refine zqn ?_ ?_<;>(intro h;first|(exfalso;omega)|(simp only[h,zT])))|(refine aN [] ?_;simp[go_sem,h0])|simp(disch:=omega) [go_sem,h0])
  try any_goals (exfalso;omega)
abbrev E1:ByteArray:=⟨#[100,105,115,116,105,110,99,116]⟩
abbrev aF8:ByteArray:=⟨#[105,110,105,116]⟩
abbrev aF9:ByteArray:=⟨#[110,101,120,116]⟩
abbrev xT:ByteArray:=⟨#[116,114,117,101]⟩
abbrev aGa:ByteArray:=⟨#[108,101,103,97,108]⟩
abbrev U5:ByteArray:=⟨#[100,111,101,115]⟩
def qG (r:List Bd×Bool) (nx:List (List Bd)):List (List Bd):=if r.2=true then nx++ [r.1]else nx
def iA (a:Tm) (s:List Bd):List Tm->List (List Bd)->Int->Option (List (List Bd))×Int
 | [],nx,lf=>(some nx,lf)
 |t::ts,nx,lf=>if t.name=a.name/\t.args.length=a.args.length then
  (if lf - 1<0\/5000<(qG (eI a t s) nx).length then(none,lf - 1)else iA a s ts (qG (eI a t s) nx) (lf - 1))
  else iA a s ts nx lf
def nH (a:Tm) (A:List Tm):List (List Bd)->List (List Bd)->Int->Option (List (List Bd))×Int
 | [],nx,lf=>(some nx,lf)
 |s::ss,nx,lf=>match iA a s A nx lf with
  |(some nx',lf')=>nH a A ss nx' lf'
  |(none,lf')=>(none,lf')
def gD (A:List Tm):List Lt->List (List Bd)->Int->Option (List (List Bd))×Int
 | [],out,lf=>(some out,lf)
 |b::bs,out,lf=>if b.neg=true\/b.atom.name=E1 then gD A bs out lf else match nH b.atom A out [] lf with
  |(some nx,lf')=>gD A bs nx lf'
  |(none,lf')=>(none,lf')
def lK (q M k:Nat) (W:List (List Bd)):Prop:= ∀s∈W,mM q M s/\s.length<=k
def lL (q M:Nat) (A:List Tm):Prop:= ∀t∈A,dQ q M t/\t.depth<=4
theorem U6 {q M k:Nat} {a:Tm} {s:List Bd} (hs:mM q M s/\s.length<=k): ∀{A:List Tm} {nx:List (List Bd)} {lf:Int},lL q M A->lK q M (k+a.size) nx->nx.length<=5000->0<=lf->
 (iA a s A nx lf).2<=lf/\ -1<=(iA a s A nx lf).2/\ ∀nx',(iA a s A nx lf).1=some nx'->lK q M (k+a.size) nx'/\nx'.length<=5000/\0<=(iA a s A nx lf).2
 | [],nx,lf,_,hn,hl,h0=>⟨Int.le_refl _,by show(-1:Int)<=lf;omega,fun nx' h=>by
  obtain rfl:=Option.some.inj h
  exact⟨hn,hl,h0⟩⟩
 |t::ts,nx,lf,hA,hn,hl,h0=>by
  have hA':lL q M ts:=fun u hu=>hA u (by simp[hu])
  obtain⟨ht,hd⟩:=hA t (by simp)
  unfold iA
  split
  ·split
   ·exact⟨by show lf - 1<=lf;omega,by show(-1:Int)<=lf - 1;omega,fun _ h=>by cases h⟩
   ·rename_i he hc
    rw[not_or]at hc
    obtain⟨b1,b2⟩:=aF7 a t s ht hd (fun hu=>by
     have h0:t.args.length=0:=by
      unfold mL at hu
      rw[Bool.and_eq_true,decide_eq_true_eq]at hu
      rw[he.2];exact hu.1
     rw[oX,List.eq_nil_of_length_eq_zero h0]
     simp[eH]) hs.1
    have hn':lK q M (k+a.size) (qG (eI a t s) nx):=by
     unfold qG
     split
     ·intro u hu
      rcases List.mem_append.1 hu with hu|hu
      ·exact hn u hu
      ·obtain rfl:=List.mem_singleton.1 hu
       exact⟨b1,by omega⟩
     ·exact hn
    obtain⟨c1,c2,c3⟩:=U6 hs (A:=ts) hA' hn' (by omega) (show 0<=lf - 1 by omega)
    exact⟨by omega,c2,c3⟩
  ·exact U6 hs hA' hn hl h0
theorem aGb {q M k:Nat} {a:Tm} {A:List Tm} (hA:lL q M A): ∀{W nx:List (List Bd)} {lf:Int},lK q M k W->lK q M (k+a.size) nx->nx.length<=5000->0<=lf->
 (nH a A W nx lf).2<=lf/\ -1<=(nH a A W nx lf).2/\ ∀nx',(nH a A W nx lf).1=some nx'->lK q M (k+a.size) nx'/\nx'.length<=5000/\0<=(nH a A W nx lf).2
 | [],nx,lf,_,hn,hl,h0=>⟨Int.le_refl _,by show(-1:Int)<=lf;omega,fun nx' h=>by
  obtain rfl:=Option.some.inj h
  exact⟨hn,hl,h0⟩⟩
 |s::ss,nx,lf,hW,hn,hl,h0=>by
  obtain⟨a1,a2,a3⟩:=U6 (hW s (by simp)) hA hn hl h0
  unfold nH
  split
  ·rename_i nx' lf' he
   rw[he]at a1 a2 a3
   obtain⟨b1,b2,b3⟩:=a3 nx' rfl
   dsimp only at a1 a2 b3
   obtain⟨c1,c2,c3⟩:=aGb hA (W:=ss) (fun u hu=>hW u (by simp[hu])) b1 b2 b3
   exact⟨by omega,c2,c3⟩
  ·rename_i lf' he
   rw[he]at a1 a2
   exact⟨a1,a2,fun _ h=>by cases h⟩
def E2:List Lt->Nat
 | []=>0
 |b::bs=>b.atom.size+E2 bs
theorem U7 {q M:Nat} {A:List Tm} (hA:lL q M A): ∀{B:List Lt} {k:Nat} {W:List (List Bd)} {lf:Int},lK q M k W->W.length<=5000->0<=lf->
 (gD A B W lf).2<=lf/\ -1<=(gD A B W lf).2/\ ∀W',(gD A B W lf).1=some W'->lK q M (k+E2 B) W'/\W'.length<=5000/\0<=(gD A B W lf).2
 | [],k,W,lf,hW,hl,h0=>⟨Int.le_refl _,by show(-1:Int)<=lf;omega,fun nx' h=>by
  obtain rfl:=Option.some.inj h
  exact⟨hW,hl,h0⟩⟩
 |b::bs,k,W,lf,hW,hl,h0=>by
  unfold gD
  have up: ∀{j i:Nat} {W:List (List Bd)},lK q M j W->j<=i->lK q M i W:=fun h hji s hs=>⟨(h s hs).1,Nat.le_trans (h s hs).2 hji⟩
  split
  ·obtain⟨c1,c2,c3⟩:=U7 hA (B:=bs) hW hl h0
   exact⟨c1,c2,fun W' h=>⟨up (c3 W' h).1 (by rw[E2];omega),(c3 W' h).2⟩⟩
  ·obtain⟨a1,a2,a3⟩:=aGb (a:=b.atom) hA (nx:= []) hW (fun s hs=>by simp at hs) (by simp) h0
   split
   ·rename_i nx lf' he
    rw[he]at a1 a2 a3
    obtain⟨b1,b2,b3⟩:=a3 nx rfl
    dsimp only at a1 a2 b3
    obtain⟨c1,c2,c3⟩:=U7 hA (B:=bs) b1 b2 b3
    exact⟨by omega,c2,fun W' h=>⟨up (c3 W' h).1 (by rw[E2];omega),(c3 W' h).2⟩⟩
   ·rename_i lf' he
    rw[he]at a1 a2
    exact⟨a1,a2,fun _ h=>by cases h⟩
def oB (h:Tm) (W:List (List Bd)):List Tm:=W.filterMap fun s=>if(fU h s).2=true then some (fU h s).1 else none
def pB (A:List Tm):List Rl->List Tm->Int->Option (List Tm)×Int
 | [],m,lf=>(some m,lf)
 |r::rs,m,lf=>match gD A r.body [[]] lf with
  |(some W,lf')=>pB A rs (m++oB r.head W) lf'
  |(none,lf')=>(none,lf')
def jJ (t:Tm):List Tm:=if t.args.length=1/\(t.name=aF8\/t.name=aF9)then[.mk xT t.args]else if t.args.length=2/\t.name=aGa then[.mk U5 t.args]else[]
def nI (A:List Tm):List Tm:=A.flatMap jJ
def fV (A:List Tm) (t:Tm):List Tm:=if A.any (fun u=>decide (eO u=eO t))=false/\t.depth<=4 then A++ [t]else A
def qH (l:List Rl):Nat->Int->List Tm->Int->Bool
 |0,_,_,_=>false
 |f+1,n,A,lf=>if n<A.length/\A.length<=1000 then match pB A l [] lf with
  |(some m,lf')=>qH l f A.length ((m++nI A).foldl fV A) lf'
  |(none,_)=>false
  else decide (A.length<=1000)
def E3 (l:List Rl) (G:List Tm):Bool:=qH l 1003 (-1) (G.foldl fV []) 1000000
def okR (q M:Nat) (r:Rl):Prop:=dQ q M r.head/\r.head.size<=20/\r.body.length<=8/\ ∀b∈r.body,dQ q M b.atom/\b.atom.size<=20
def BG (q M:Nat):Nat:=20*(M+3)+20*KB q M 3+KB q M 4
def E4 (q M:Nat) (X:List Tm):Prop:= ∀t∈X,dQ q M t/\fD t<=BG q M/\t.depth<=1000
theorem bIe {t:Tm} {n:Nat} (h:t.size<=n):t.depth<=n:=Nat.le_trans (bGt t) h
theorem bIf {q M:Nat} {h:Tm} (hh:dQ q M h) (hz:h.size<=20) {k:Nat} {W:List (List Bd)} (hW:lK q M k W):E4 q M (oB h W):=by
 intro t ht
 unfold oB at ht
 obtain⟨s,hs,he⟩:=List.mem_filterMap.1 ht
 split at he
 ·obtain rfl:=Option.some.inj he
  obtain⟨a1,a2,a3⟩:=bHw (hW s hs).1 h hh
  have b1:=bHu hh
  have b2:=bIe hz
  have b3:h.size*(M+3)<=20*(M+3):=Nat.mul_le_mul_right _ hz
  have b4:h.size*KB q M 3<=20*KB q M 3:=Nat.mul_le_mul_right _ hz
  exact⟨a1,by unfold BG;omega,by omega⟩
 ·cases he
theorem bIg {h:Tm} {W:List (List Bd)}:(oB h W).length<=W.length:=List.length_filterMap_le _ _
theorem bIh (t:Tm):(jJ t).length<=1:=by
 unfold jJ
 split
 ·simp
 ·split<;>simp
theorem aGd: ∀A:List Tm,(nI A).length<=A.length
 | []=>by simp[nI]
 |t::A=>by
  have h1:=bIh t
  have h2:=aGd A
  unfold nI at*
  rw[List.flatMap_cons,List.length_append,List.length_cons];omega
theorem bIi {q M:Nat}:KB q M 4<=BG q M:=by unfold BG;omega
theorem bIj {q M:Nat} (hM:5<=M) {A:List Tm} (hA:lL q M A):E4 q M (nI A):=by
 intro t ht
 obtain⟨u,hu,ht⟩:=List.mem_flatMap.1 ht
 obtain⟨h1,h2⟩:=hA u hu
 have key: ∀n:ByteArray,n.size<=M->dQ q M (.mk n u.args)/\fD (.mk n u.args)<=BG q M/\(Tm.mk n u.args).depth<=1000:=fun n hn=>by
  obtain⟨m,ts⟩:=u
  have o:dQ q M (.mk n ts):=pA.2 ⟨hn,(pA.1 h1).2⟩
  have d:(Tm.mk n ts).depth<=4:=by rw[oX,cK]at*;exact h2
  exact⟨o,Nat.le_trans (U0 o d) bIi,by show(Tm.mk n ts).depth<=1000;omega⟩
 unfold jJ at ht
 split at ht
 ·obtain rfl:=List.mem_singleton.1 ht
  exact key _ (by show 4<=M;omega)
 ·split at ht
  ·obtain rfl:=List.mem_singleton.1 ht
   exact key _ (by show 4<=M;omega)
  ·simp at ht
theorem bIk {q M:Nat} {A:List Tm} (hA:lL q M A) {t:Tm} (ht:dQ q M t):lL q M (fV A t):=by
 unfold fV
 split
 ·rename_i h
  intro u hu
  rcases List.mem_append.1 hu with hu|hu
  ·exact hA u hu
  ·obtain rfl:=List.mem_singleton.1 hu
   exact⟨ht,h.2⟩
 ·exact hA
theorem bIl {A:List Tm} {t:Tm}:A.length<=(fV A t).length/\(fV A t).length<=A.length+1:=by
 unfold fV
 split<;>simp
theorem xU {q M:Nat}: ∀{X A:List Tm},lL q M A->(∀t∈X,dQ q M t)->lL q M (X.foldl fV A)
 | [],_,h,_=>h
 |t::X,A,h,hx=>by
  rw[List.foldl_cons]
  exact xU (bIk h (hx t (by simp))) fun u hu=>hx u (by simp[hu])
theorem aGe: ∀{X A:List Tm},A.length<=(X.foldl fV A).length/\(X.foldl fV A).length<=A.length+X.length
 | [],A=>by simp
 |t::X,A=>by
  have h1:=bIl (A:=A) (t:=t)
  have h2:=aGe (X:=X) (A:=fV A t)
  rw[List.foldl_cons,List.length_cons];omega
theorem aGf (t:Tm):ACall prog 97 [eT t] (fun r=>r=bl (mL t)):=by
 unfold mL
 have he: ∀b:ByteArray,b.size=0->b=⟨#[]⟩:=fun b h=>by
  obtain⟨d⟩:=b
  congr 1
  exact Array.eq_empty_of_size_eq_zero h
 by_cases h0:t.args.length=0
 ·by_cases h1:t.name.size=0
  ·have h1':=he _ h1
   rw[decide_eq_true h0,show decide (t.name.size≠0)=false from decide_eq_false (fun h=>h h1)]
   refine aU func97 call97 rfl (by simp[ntmps97]) ?_;simp only[ntmps97,results97]
   repeat' (first|(refine aC fun _ _=>?_)|refine zHg ?_|(refine aN [] ?_;simp[go_sem,h0,h1'])|simp(disch:=omega) [go_sem,h0,h1'])
  ·have h1': ¬t.name=⟨#[]⟩:=fun h=>h1 (by rw[h];rfl)
   by_cases h2:65<=bt t.name 0
   ·by_cases h3:bt t.name 0<=90
    ·rw[decide_eq_true h0,decide_eq_true (show t.name.size≠0 from h1),decide_eq_true h2,decide_eq_true h3]
     refine aU func97 call97 rfl (by simp[ntmps97]) ?_;simp only[ntmps97,results97]
     repeat' (first|(refine aC fun _ _=>?_)|refine zHg ?_|(refine aN [] ?_;simp[go_sem,h0,h1,h1',h2,h3])|simp(disch:=omega) [go_sem,h0,h1,h1',h2,h3]|refine zAo ?_|fail)
    ·rw[decide_eq_true h0,decide_eq_true (show t.name.size≠0 from h1),decide_eq_true h2,decide_eq_false h3]
     refine aU func97 call97 rfl (by simp[ntmps97]) ?_;simp only[ntmps97,results97]
     repeat' (first|(refine aC fun _ _=>?_)|refine zHg ?_|(refine aN [] ?_;simp[go_sem,h0,h1,h1',h2,h3])|simp(disch:=omega) [go_sem,h0,h1,h1',h2,h3]|refine zAo ?_|fail)
   ·rw[decide_eq_true h0,decide_eq_true (show t.name.size≠0 from h1),decide_eq_false h2]
    refine aU func97 call97 rfl (by simp[ntmps97]) ?_;simp only[ntmps97,results97]
    repeat' (first|(refine aC fun _ _=>?_)|refine zHg ?_|(refine aN [] ?_;simp[go_sem,h0,h1,h1',h2])|simp(disch:=omega) [go_sem,h0,h1,h1',h2]|refine zAo ?_|fail)
 ·rw[decide_eq_false h0]
  refine aU func97 call97 rfl (by simp[ntmps97]) ?_;simp only[ntmps97,results97]
  repeat' (first|(refine aC fun _ _=>?_)|refine zHg ?_|(refine aN [] ?_;simp[go_sem,h0])|simp(disch:=omega) [go_sem,h0])
theorem aGg: ∀l:List Tm,l.length<=eC l
 | []=>by simp
 |t::r=>by have:=aGg r;rw[eC,List.length_cons];omega
theorem U8: ∀t:Tm,fD t<=2305843009213693952->ACall prog 50 [eT t] (fun r=>r= .sc (.string (eO t))):=by
 refine eX fun t ih hz=>?_
 obtain⟨n,ts⟩:=t
 simp only[cK]at ih
 rw[vA]at hz
 rw[eO]
 have hsz: ∀i,(jH (n++⟨#[40]⟩) (ts.take i)).size<=n.size+1+eC ts:=fun i=>by
  rw[T3 fun t _=>aF0 t,xS]
  have h1:(⟨#[40]⟩:ByteArray).size=1:=rfl
  have:=bHt (ts:=ts) (i:=i)
  omega
 have hs0:jH (n++⟨#[40]⟩) []=n++⟨#[40]⟩:=rfl
 refine aU func50 call50 rfl (by simp[ntmps50]) ?_;simp only[ntmps50,results50]
 repeat' (first|(refine aC fun _ _=>?_)|refine zHg ?_|simp(disch:=omega) [go_sem]|refine zAo ?_|fail)
 refine bS [1,10] [] (fun i:Nat=> [(11,nt .i64 i),(3,.sc (.string (jH (n++⟨#[40]⟩) (ts.take i))))]) (fun i:Nat=> []) (fun i:Nat=>ts.length - i) (fun i:Nat=>i<=ts.length) (0) (Le.sub4 rfl (by simp[go_sem,hs0,List.take_zero])) ⟨?_⟩ ?_
 ·exact Nat.zero_le _
 intro i hi AA hAA;simp only[kL,Nat.reduceBEq,Nat.reduceEqDiff]
 have h1:=hsz i
 have hll:=aGg ts
 by_cases hlt:i<ts.length
 ·have hm:=aF3 (List.getElem_mem hlt)
  have hu:=ih ts[i] (List.getElem_mem hlt) (by omega)
  have hn:=bHs (a:=n++⟨#[40]⟩) hlt
  have h2:=aF0 ts[i]
  generalize jH (n++⟨#[40]⟩) (ts.take i)=A at*
  generalize eO ts[i]=B at*
  repeat' (first|(refine aC fun _ _=>?_)|refine zHg ?_|refine aO rfl (hu) (by simp) ?_|(refine(hAA.next (i+1) (Le.sub4 rfl (by simp[go_sem,hn])) (by(try dsimp only);omega) ?_))|simp(disch:=omega) [go_sem,hlt]|refine zAo ?_|fail)
  try any_goals omega
  exact⟨by omega⟩
 ·obtain rfl:i=ts.length:=by omega
  rw[List.take_length]at*
  generalize jH (n++⟨#[40]⟩) ts=A at*
  repeat' (first|(refine aC fun _ _=>?_)|refine zHg ?_|(refine aN [] ?_;simp[go_sem])|simp(disch:=omega) [go_sem]|refine zAo ?_|fail)
theorem aGh {q M:Nat} (hq:q<=1000000): ∀t:Tm,dQ q M t->t.depth<=1000000->ACall prog 51 [eT t] (fun r=>r=nt .i64 t.depth):=by
 refine eX fun t ih ho hs=>?_
 obtain⟨s,ts⟩:=t
 simp only[cK]at ih
 obtain⟨-,hl,ho⟩:=pA.1 ho
 have ho:=sY.1 ho
 have hda: ∀t∈ts,t.depth+1<=(Tm.mk s ts).depth:=fun t ht=>T9 ht
 rw[oX]at*
 simp only[cK]at*
 have hdi: ∀i,eH (ts.take i)<=eH ts:=fun i=>by
  have:=R5 (ts.take i) (ts.drop i)
  rw[List.take_append_drop]at this;omega
 refine aU func51 call51 rfl (by simp[ntmps51]) ?_;simp only[ntmps51,results51]
 repeat' (first|(refine aC fun _ _=>?_)|refine zHg ?_|simp(disch:=omega) [go_sem])
 refine bS [1,7] [] (fun i:Nat=> [(8,nt .i64 i),(3,nt .i64 (eH (ts.take i)))]) (fun i:Nat=> []) (fun i:Nat=>ts.length - i) (fun i:Nat=>i<=ts.length) (0) (Le.sub4 rfl (by simp[go_sem,eH,List.take_zero])) ⟨?_⟩ ?_
 ·exact Nat.zero_le _
 intro i hi AA hAA;simp only[kL,Nat.reduceBEq,Nat.reduceEqDiff]
 have hd1:=hdi i
 by_cases hlt:i<ts.length
 ·have hu:=ih ts[i] (List.getElem_mem hlt) (ho _ (List.getElem_mem hlt)) (by have:=hda _ (List.getElem_mem hlt);omega)
  have hn:=bGs hlt
  repeat' (first|(refine aC fun _ _=>?_)|refine zHg ?_|refine aO rfl (hu) (by simp) ?_|(refine(hAA.next (i+1) (Le.sub4 rfl (by simp[go_sem,hn,bGu])) (by(try dsimp only);omega) ?_))|simp(disch:=omega) [go_sem,hlt])
  try any_goals omega
  exact⟨by omega⟩
 ·obtain rfl:i=ts.length:=by omega
  rw[List.take_length]at*
  repeat' (first|(refine aC fun _ _=>?_)|refine zHg ?_|(refine aN [] ?_;simp[go_sem])|simp(disch:=omega) [go_sem])
theorem aGi {s:List Bd} {n:ByteArray} {i:Nat} (h:i<s.length) (he:s[i].v=n) (hn: ∀(k:Nat) (hk:k<s.length),k<i-> ¬s[k].v=n):kQ s n=some s[i].t:=by
 have:s.find? (fun b=>decide (b.v=n))=some s[i]:=by
  rw[List.find?_eq_some_iff_getElem]
  exact⟨by simpa using he,i,h,rfl,fun j hj=>by simpa using hn j (by omega) hj⟩
 unfold kQ
 rw[this];rfl
theorem aGj {s:List Bd} {n:ByteArray} (hn: ∀(k:Nat) (hk:k<s.length),k<s.length-> ¬s[k].v=n):kQ s n=none:=by
 have:s.find? (fun b=>decide (b.v=n))=none:=by
  rw[List.find?_eq_none]
  intro x hx
  obtain⟨k,hk,rfl⟩:=List.mem_iff_getElem.1 hx
  simpa using hn k hk hk
 unfold kQ
 rw[this];rfl
def qI (s:List Bd) (ts a:List Tm):Option (List Tm):=(jW ts s).map fun l=>a++l
theorem aGk {s:List Bd} {t:Tm} {ts a:List Tm}:qI s (t::ts) a=if(fU t s).2=true then qI s ts (a++ [(fU t s).1])else none:=by
 unfold qI
 rw[T7]
 split
 ·cases jW ts s<;>simp
 ·rfl
theorem bIm (s:List Bd) (le fu:Bool) {q M:Nat} (hq:q<=1000000): ∀t:Tm,dQ q M t->ACall prog 53 [eT t,.list false fu (s.map xR)] (fun r=>r= .tup [eT (fU t s).1,bl (fU t s).2]):=by
 refine eX fun t ih ho=>?_
 obtain⟨n,ts⟩:=t
 simp only[cK]at ih
 obtain⟨-,hl,ho⟩:=pA.1 ho
 have ho:=sY.1 ho
 have hv:=aGf (.mk n ts)
 rw[aF5]
 cases hU:mL (.mk n ts)
 ·rw[hU]at hv
  simp only[Bool.false_eq_true,if_false]
  cases hG:jW ts s with
  |none=>
   show ACall _ _ _ (fun r=>r= .tup [eT (.mk n ts),bl false])
   refine aU func53 call53 rfl (by simp[ntmps53]) ?_;simp only[ntmps53,results53]
   repeat' (first|(refine aC fun _ _=>?_)|refine zHg ?_|refine aO rfl (hv) (by simp) ?_|simp(disch:=omega) [go_sem])
   refine bS [1,2,4,7,38] [7,900,9] (fun y:Nat×List Tm=> [(39,nt .i64 y.1)]) (fun y:Nat×List Tm=>(7,⟨false,false,false,2,[.agg [.sc (.string n),if y.2.length=0 then .list false true []else .ref 900 0 y.2.length]],0⟩)::(if y.2.length=0 then[]else[(900,⟨true,false,false,2,y.2.map aI,0⟩)])) (fun y:Nat×List Tm=>ts.length - y.1) (fun y:Nat×List Tm=>y.1<=ts.length/\y.2.length=y.1/\qI s (ts.drop y.1) y.2=none) ((0,[])) (Le.sub4 rfl (by simp[go_sem])) ⟨?_⟩ ?_
   ·exact⟨Nat.zero_le _,rfl,by unfold qI;rw[List.drop_zero,hG];rfl⟩
   intro⟨i,a⟩ ⟨hi,ha,hinv⟩ AA hAA;simp only[kL,Nat.reduceBEq,Nat.reduceEqDiff]
   dsimp only at*
   by_cases hlt:i<ts.length
   ·have hu:=ih _ (List.getElem_mem hlt) (ho _ (List.getElem_mem hlt))
    rw[List.drop_eq_getElem_cons hlt,aGk]at hinv
    generalize fU ts[i] s=x at*
    obtain⟨x,b⟩:=x
    dsimp only at*
    cases b
    ·by_cases h0:i=0
     ·subst h0
      obtain rfl:=List.eq_nil_of_length_eq_zero ha
      repeat' (first|(refine aC fun _ _=>?_)|refine zHg ?_|(refine aN [] ?_;simp[go_sem,hlt])|refine aO rfl (hu) (by simp) ?_|simp(disch:=omega) [go_sem,hlt])
     ·repeat' (first|(refine aC fun _ _=>?_)|refine zHg ?_|(refine aN [] ?_;simp[go_sem,hlt,h0,ha])|refine aO rfl (hu) (by simp) ?_|simp(disch:=omega) [go_sem,hlt,h0,ha])
    ·by_cases h0:i=0
     ·subst h0
      obtain rfl:=List.eq_nil_of_length_eq_zero ha
      repeat' (first|(refine aC fun _ _=>?_)|refine zHg ?_|refine aO rfl (hu) (by simp) ?_|(refine(hAA.next ((0+1,[x])) (Le.renSub [(59,900)] [(900,59)] (by simp[go_sem]) (by simp[go_sem]) (Le.sub4 rfl (by simp[go_sem]))) (by(try dsimp only);omega) ?_))|simp(disch:=omega) [go_sem,hlt])
      try any_goals omega
      exact⟨hlt,rfl,hinv⟩
     ·repeat' (first|(refine aC fun _ _=>?_)|refine zHg ?_|refine aO rfl (hu) (by simp) ?_|(refine(hAA.next ((i+1,a++ [x])) (Le.sub4 rfl (by simp[go_sem,ha])) (by(try dsimp only);omega) ?_))|simp(disch:=omega) [go_sem,hlt,h0,ha]|refine zAo ?_|fail)
      try any_goals omega
      exact⟨hlt,by simp[ha],hinv⟩
   ·obtain rfl:i=ts.length:=by omega
    rw[List.drop_length]at hinv
    simp[qI,D7]at hinv
  |some l=>
   show ACall _ _ _ (fun r=>r= .tup [eT (.mk n l),bl true])
   have hll:=T8 hG
   refine ACall.looseT (x:= .agg [.sc (.string n),.list false (decide (ts.length=0)) (l.map aI)]) rfl ?_
   refine aU func53 call53 rfl (by simp[ntmps53]) ?_;simp only[ntmps53,results53]
   repeat' (first|(refine aC fun _ _=>?_)|refine zHg ?_|refine aO rfl (hv) (by simp) ?_|simp(disch:=omega) [go_sem])
   refine bS [1,2,4,7,38] [7,900,9] (fun y:Nat×List Tm=> [(39,nt .i64 y.1)]) (fun y:Nat×List Tm=>(7,⟨false,false,false,2,[.agg [.sc (.string n),if y.2.length=0 then .list false true []else .ref 900 0 y.2.length]],0⟩)::(if y.2.length=0 then[]else[(900,⟨true,false,false,2,y.2.map aI,0⟩)])) (fun y:Nat×List Tm=>ts.length - y.1) (fun y:Nat×List Tm=>y.1<=ts.length/\y.2.length=y.1/\qI s (ts.drop y.1) y.2=some l) ((0,[])) (Le.sub4 rfl (by simp[go_sem])) ⟨?_⟩ ?_
   ·exact⟨Nat.zero_le _,rfl,by unfold qI;rw[List.drop_zero,hG];rfl⟩
   intro⟨i,a⟩ ⟨hi,ha,hinv⟩ AA hAA;simp only[kL,Nat.reduceBEq,Nat.reduceEqDiff]
   dsimp only at*
   by_cases hlt:i<ts.length
   ·have hu:=ih _ (List.getElem_mem hlt) (ho _ (List.getElem_mem hlt))
    rw[List.drop_eq_getElem_cons hlt,aGk]at hinv
    generalize fU ts[i] s=x at*
    obtain⟨x,b⟩:=x
    dsimp only at*
    cases b
    ·cases hinv
    ·by_cases h0:i=0
     ·subst h0
      obtain rfl:=List.eq_nil_of_length_eq_zero ha
      repeat' (first|(refine aC fun _ _=>?_)|refine zHg ?_|refine aO rfl (hu) (by simp) ?_|(refine(hAA.next ((0+1,[x])) (Le.renSub [(59,900)] [(900,59)] (by simp[go_sem]) (by simp[go_sem]) (Le.sub4 rfl (by simp[go_sem]))) (by(try dsimp only);omega) ?_))|simp(disch:=omega) [go_sem,hlt])
      try any_goals omega
      exact⟨hlt,rfl,hinv⟩
     ·repeat' (first|(refine aC fun _ _=>?_)|refine zHg ?_|refine aO rfl (hu) (by simp) ?_|(refine(hAA.next ((i+1,a++ [x])) (Le.sub4 rfl (by simp[go_sem,ha])) (by(try dsimp only);omega) ?_))|simp(disch:=omega) [go_sem,hlt,h0,ha]|refine zAo ?_|fail)
      try any_goals omega
      exact⟨hlt,by simp[ha],hinv⟩
   ·obtain rfl:i=ts.length:=by omega
    rw[List.drop_length]at hinv
    simp only[qI,D7,Option.map_some,List.append_nil,Option.some.injEq]at hinv
    subst hinv
    by_cases h0:ts.length=0
    ·obtain rfl:=List.eq_nil_of_length_eq_zero (ha.trans h0)
     repeat' (first|(refine aC fun _ _=>?_)|refine zHg ?_|(refine aN [] ?_;simp[go_sem,h0])|simp(disch:=omega) [go_sem,h0])
    ·repeat' (first|(refine aC fun _ _=>?_)|refine zHg ?_|(refine aN [] ?_;simp[go_sem,h0,ha])|simp(disch:=omega) [go_sem,h0,ha])
 ·rw[hU]at hv
  simp only[if_true]
  clear ih ho
  generalize hR:sX (.mk n ts) (kQ s n)=R
  refine ACall.bound (i:=1) rfl call53 fun hb=>?_
  rw[List.length_map]at hb
  have hb:s.length<=140737488355328:=hb
  refine aU func53 call53 rfl (by simp[ntmps53]) ?_;simp only[ntmps53,results53]
  repeat' (first|(refine aC fun _ _=>?_)|refine zHg ?_|refine aO rfl (hv) (by simp) ?_|simp(disch:=omega) [go_sem])
  refine bS [1,2,4,14] [] (fun i:Nat=> [(15,nt .i64 i)]) (fun i:Nat=> []) (fun i:Nat=>s.length - i) (fun i:Nat=>i<=s.length/\ ∀(k:Nat) (hk:k<s.length),k<i-> ¬s[k].v=n) (0) (Le.sub4 rfl (by simp[go_sem])) ⟨?_⟩ ?_
  ·exact⟨Nat.zero_le _,fun k _ hk=>absurd hk (Nat.not_lt_zero _)⟩
  intro i ⟨hi,hn⟩ AA hAA;simp only[kL,Nat.reduceBEq,Nat.reduceEqDiff]
  by_cases hlt:i<s.length
  ·by_cases hq:s[i].v=n
   ·rw[aGi hlt hq hn]at hR
    subst hR
    repeat' (first|(refine aC fun _ _=>?_)|refine zHg ?_|(refine aN [] ?_;simp[go_sem,hlt,hq,sX])|simp(disch:=omega) [go_sem,hlt,hq,sX]|refine zDr 8 aQ ?_|fail)
   ·repeat' (first|(refine aC fun _ _=>?_)|refine zHg ?_|(refine(hAA.next (i+1) (Le.sub4 rfl (by simp[go_sem])) (by(try dsimp only);omega) ?_))|simp(disch:=omega) [go_sem,hlt,hq]|refine zDr 8 aQ ?_|fail)
    try any_goals omega
    exact⟨hlt,fun k hk hki=>by rcases Nat.lt_or_eq_of_le (Nat.le_of_lt_succ hki)with h|rfl;exact hn k hk h;exact hq⟩
  ·obtain rfl:i=s.length:=by omega
   rw[aGj hn]at hR
   subst hR
   repeat' (first|(refine aC fun _ _=>?_)|refine zHg ?_|(refine aN [] ?_;simp[go_sem,sX])|simp(disch:=omega) [go_sem,sX])
theorem bIn (a b:Tm):ACall prog 75 [eT a,eT b] (fun r=>r=bl (decide (a=b))):=by
 have h:=D4 a b
 have e:lJ a b=decide (a=b):=by
  by_cases hab:a=b
  ·rw[decide_eq_true hab];exact(qE a b).2 hab
  ·rw[decide_eq_false hab]
   cases hq:lJ a b
   ·rfl
   ·exact absurd ((qE a b).1 hq) hab
 rw[<-e]
 exact h
def tA (ps ts:List Tm) (s:List Bd):Bool->List Bd×Bool
 |true=>jI ps ts s
 |false=>(s,false)
theorem bIo {p:Tm} {ps:List Tm} {t:Tm} {ts:List Tm} {s:List Bd}:tA (p::ps) (t::ts) s true=tA ps ts (eI p t s).1 (eI p t s).2:=by
 show jI _ _ _=_
 rw[T5]
 generalize eI p t s=r
 obtain⟨a,b⟩:=r
 cases b<;>rfl
theorem bIp: ∀(p t:Tm) (s:List Bd),(eI p t s).1.length<=s.length+p.size:=by
 refine eX fun p ih t s=>?_
 obtain⟨n,ps⟩:=p
 simp only[cK]at ih
 rw[T4]
 have hp:=sU (.mk n ps)
 split
 ·cases kQ s n with
  |some u=>show s.length<=_;omega
  |none=>show(s++ [⟨n,t⟩]:List Bd).length<=_;rw[List.length_append];simp;omega
 ·split
  ·rw[fB,cK]
   have: ∀(ps ts:List Tm) (s:List Bd),(∀p∈ps,∀(t:Tm) (s:List Bd),(eI p t s).1.length<=s.length+p.size)->(jI ps ts s).1.length<=s.length+bV ps:=by
    intro ps
    induction ps with
    |nil=>intro ts s _;rw[T6];simp
    |cons p ps ihp=>
     intro ts s hp
     cases ts with
     |nil=>rw[jI];simp
     |cons t ts=>
      have a2:=hp p (by simp) t s
      rw[T5,bV]
      split
      ·have:=ihp ts (eI p t s).1 fun q hq=>hp q (by simp[hq])
       omega
      ·omega
   have:=this ps t.args s ih
   omega
  ·simp
theorem bIq: ∀(p t:Tm) (s:List Bd),p.size<=1000000->s.length+p.size<=1000000->ACall prog 96 [eT p,eT t,.list false false (s.map xR)] (fun r=>r= .tup [.list false false ((eI p t s).1.map xR),bl (eI p t s).2]):=by
 refine eX fun p ih t s hz hs=>?_
 obtain⟨n,ps⟩:=p
 obtain⟨m,ts⟩:=t
 simp only[cK]at ih
 have hv:=aGf (.mk n ps)
 rw[T4,nY,cK]
 cases hU:mL (.mk n ps)
 ·rw[hU]at hv
  simp only[Bool.false_eq_true,if_false]
  by_cases hc:n=m/\ps.length=ts.length
  ·rw[if_pos hc]
   obtain⟨rfl,hl⟩:=hc
   generalize hG:jI ps ts s=G
   refine aU func96 call96 rfl (by simp[ntmps96]) ?_;simp only[ntmps96,results96]
   repeat' (first|(refine aC fun _ _=>?_)|refine zHg ?_|refine aO rfl (hv) (by simp) ?_|simp(disch:=omega) [go_sem,hl])
   refine bS [3,4] [] (fun y:Nat×List Bd×Bool=> [(10,nt .i64 y.1),(2,.list false false (y.2.1.map xR)),(9,bl y.2.2)]) (fun y:Nat×List Bd×Bool=> []) (fun y:Nat×List Bd×Bool=>ts.length - y.1) (fun y:Nat×List Bd×Bool=>y.1<=ts.length/\y.2.1.length+bV (ps.drop y.1)<=1000000/\tA (ps.drop y.1) (ts.drop y.1) y.2.1 y.2.2=G) ((0,s,true)) (Le.sub4 rfl (by simp[go_sem])) ⟨?_⟩ ?_
   ·exact⟨Nat.zero_le _,by rw[List.drop_zero];rw[fB,cK]at hs;show s.length+bV ps<=_;omega,by rw[List.drop_zero,List.drop_zero];exact hG⟩
   intro⟨i,a,b⟩ ⟨hi,ha,hinv⟩ AA hAA;simp only[kL,Nat.reduceBEq,Nat.reduceEqDiff]
   dsimp only at*
   have hlen:=nF ps
   rw[fB,cK]at hz
   by_cases hlt:i<ts.length
   ·have hlp:i<ps.length:=by omega
    cases b
    ·subst hinv
     repeat' (first|(refine aC fun _ _=>?_)|refine zHg ?_|(refine aN [] ?_;simp[go_sem,hlt,hlp,tA])|simp(disch:=omega) [go_sem,hlt,hlp,tA])
    ·rw[List.drop_eq_getElem_cons hlt,List.drop_eq_getElem_cons hlp,bIo]at hinv
     rw[List.drop_eq_getElem_cons hlp,bV]at ha
     have hsz:=sS hlp
     have hu:=ih ps[i] (List.getElem_mem hlp) ts[i] a (by omega) (by omega)
     have hbl:=bIp ps[i] ts[i] a
     generalize eI ps[i] ts[i] a=x at*
     obtain⟨x,c⟩:=x
     dsimp only at*
     repeat' (first|(refine aC fun _ _=>?_)|refine zHg ?_|refine bR rfl (hu) rfl (by simp) ?_|(refine(hAA.next ((i+1,x,c)) (Le.sub4 rfl (by simp[go_sem])) (by(try dsimp only);omega) ?_))|simp(disch:=omega) [go_sem,hlt,hlp,hl]|refine zDr 17 aQ ?_|fail)
     try any_goals omega
     exact⟨hlt,by show x.length+bV (ps.drop (i+1))<=_;omega,hinv⟩
   ·obtain rfl:i=ts.length:=by omega
    have hd:ps.drop ts.length= []:=by rw[<-hl,List.drop_length]
    rw[hd,List.drop_length]at hinv
    cases b
    ·subst hinv
     repeat' (first|(refine aC fun _ _=>?_)|refine zHg ?_|(refine aN [] ?_;simp[go_sem,hl,tA])|simp(disch:=omega) [go_sem,hl,tA])
    ·have hinv:(a,true)=G:=by rw[<-hinv];show _=jI _ _ _;rw[T6]
     subst hinv
     repeat' (first|(refine aC fun _ _=>?_)|refine zHg ?_|(refine aN [] ?_;simp[go_sem,hl])|simp(disch:=omega) [go_sem,hl])
  ·rw[if_neg hc]
   refine ACall.looseT (x:= .list false true []) rfl ?_
   by_cases h1:n=m
   ·have h2: ¬ps.length=ts.length:=fun h=>hc ⟨h1,h⟩
    subst h1
    refine aU func96 call96 rfl (by simp[ntmps96]) ?_;simp only[ntmps96,results96]
    repeat' (first|(refine aC fun _ _=>?_)|refine zHg ?_|(refine zqn ?_ ?_<;>(intro h;first|(exfalso;omega)|(simp only[h,zT])))|(refine aN [] ?_;simp[go_sem,h2])|refine aO rfl (hv) (by simp) ?_|simp(disch:=omega) [go_sem,h2])
   ·refine aU func96 call96 rfl (by simp[ntmps96]) ?_;simp only[ntmps96,results96]
    repeat' (first|(refine aC fun _ _=>?_)|refine zHg ?_|(refine aN [] ?_;simp[go_sem,h1])|refine aO rfl (hv) (by simp) ?_|simp(disch:=omega) [go_sem,h1])
 ·rw[hU]at hv
  simp only[if_true]
  clear ih
  have h0:=sU (.mk n ps)
  generalize hR:sW s n (.mk m ts) (kQ s n)=R
  refine aU func96 call96 rfl (by simp[ntmps96]) ?_;simp only[ntmps96,results96]
  repeat' (first|(refine aC fun _ _=>?_)|refine zHg ?_|refine aO rfl (hv) (by simp) ?_|simp(disch:=omega) [go_sem])
  refine bS [2,3,4,14] [3,4] (fun i:Nat=> [(15,nt .i64 i)]) (fun i:Nat=> [(3,⟨false,true,false,2,[eT (.mk n ps)],0⟩),(4,⟨false,true,false,2,[eT (.mk m ts)],0⟩)]) (fun i:Nat=>s.length - i) (fun i:Nat=>i<=s.length/\ ∀(k:Nat) (hk:k<s.length),k<i-> ¬s[k].v=n) (0) (by refine Le.trans ?_ (Le.frz 3 rfl (by show(0:Nat)≠1;decide));exact(by refine Le.trans ?_ (Le.frz 4 rfl (by show(0:Nat)≠1;decide));exact(Le.sub4 rfl (by simp[go_sem])))) ⟨?_⟩ ?_
  ·exact⟨Nat.zero_le _,fun k _ hk=>absurd hk (Nat.not_lt_zero _)⟩
  intro i ⟨hi,hn⟩ AA hAA;simp only[kL,Nat.reduceBEq,Nat.reduceEqDiff]
  by_cases hlt:i<s.length
  ·by_cases hq:s[i].v=n
   ·rw[aGi hlt hq hn]at hR
    subst hR
    have hu:=bIn s[i].t (.mk m ts)
    repeat' (first|(refine aC fun _ _=>?_)|refine zHg ?_|(refine aN [] ?_;simp[go_sem,hlt,hq,sW])|refine bR rfl (hu) rfl (by simp) ?_|simp(disch:=omega) [go_sem,hlt,hq,sW]|refine zDr 8 aQ ?_|fail)
   ·repeat' (first|(refine aC fun _ _=>?_)|refine zHg ?_|(refine(hAA.next (i+1) (Le.sub4 rfl (by simp[go_sem])) (by(try dsimp only);omega) ?_))|simp(disch:=omega) [go_sem,hlt,hq]|refine zDr 8 aQ ?_|fail)
    try any_goals omega
    exact⟨hlt,fun k hk hki=>by rcases Nat.lt_or_eq_of_le (Nat.le_of_lt_succ hki)with h|rfl;exact hn k hk h;exact hq⟩
  ·obtain rfl:i=s.length:=by omega
   rw[aGj hn]at hR
   subst hR
   repeat' (first|(refine aC fun _ _=>?_)|refine zHg ?_|(with_reducible refine dF ?_;first|(exact dC)|(refine zSkip ?_)|(refine dD rfl ?_ ?_))|(with_reducible refine dE ?_;first|(refine zDone ?_)|(refine zQu 0 rfl rfl rfl rfl ?_)|(refine zQu 1 rfl rfl rfl rfl ?_)|(refine zQu 3 rfl rfl rfl rfl ?_)|(refine zQu 4 rfl rfl rfl rfl ?_)|(refine zQu 5 rfl rfl rfl rfl ?_)|(refine zQu 9 rfl rfl rfl rfl ?_)|(refine zQu 10 rfl rfl rfl rfl ?_)|(refine zAll ?_;show cO _ _ _ _ _ _ _))|with_reducible refine dH ?_|(refine aN [35] ?_;simp[go_sem,sW])|simp(disch:=omega) [go_sem,sW]|refine zAo ?_|refine zAny aQ ?_|fail)
set_option maxHeartbeats 16000000
abbrev eBs (s:List Bd):AV:= .list false false (s.map xR)
abbrev aZ (pin:Bool) (lf:Int):AObj:=⟨false,false,pin,1,[.agg [nt .i64 lf]],0⟩
abbrev aG (pin:Bool) (A:List Tm):AObj:=⟨true,false,pin,2,A.map aI,0⟩
abbrev gE (a:Tm):AObj:=⟨false,false,false,2,[eT a],0⟩
theorem bIr:Ab.loose (.list false true [])=eBs []:=rfl
abbrev gF (W:List (List Bd)):AObj:=⟨true,false,false,1,W.map eBs,0⟩
theorem bIs {A:List Tm} {W:List (List Bd)} {lf:Int}:gD A [] W lf=(some W,lf):=rfl
theorem aGm {A:List Tm} {b:Lt} {bs:List Lt} {W:List (List Bd)} {lf:Int} (h:b.neg=true\/b.atom.name=E1):gD A (b::bs) W lf=gD A bs W lf:=by rw[gD,if_pos h]
theorem bIt {A:List Tm} {b:Lt} {bs:List Lt} {W:List (List Bd)} {lf:Int} (h: ¬(b.neg=true\/b.atom.name=E1)):gD A (b::bs) W lf=match nH b.atom A W [] lf with
 |(some nx,lf')=>gD A bs nx lf'
 |(none,lf')=>(none,lf'):=by rw[gD,if_neg h];first|done|rfl
def tB (a:Tm) (A:List Tm) (ss:List (List Bd)) (B:List Lt):Option (List (List Bd))×Int->Option (List (List Bd))×Int
 |(some nx,lf)=>match nH a A ss nx lf with
  |(some nx',lf')=>gD A B nx' lf'
  |(none,lf')=>(none,lf')
 |(none,lf)=>(none,lf)
theorem bIu {a:Tm} {A:List Tm} {s:List Bd} {ss nx:List (List Bd)} {lf:Int}:nH a A (s::ss) nx lf=match iA a s A nx lf with
 |(some nx',lf')=>nH a A ss nx' lf'
 |(none,lf')=>(none,lf'):=by rw[nH];first|done|rfl
theorem bIv {a:Tm} {A:List Tm} {s:List Bd} {ss nx:List (List Bd)} {B:List Lt} {lf:Int}:tB a A (s::ss) B (some nx,lf)=tB a A ss B (iA a s A nx lf):=by
 rw[tB,bIu]
 generalize iA a s A nx lf=r
 obtain⟨x,l⟩:=r
 cases x<;>rfl
theorem bIw {a:Tm} {A:List Tm} {nx:List (List Bd)} {B:List Lt} {lf:Int}:tB a A [] B (some nx,lf)=gD A B nx lf:=rfl
theorem aGn {a:Tm} {s:List Bd} {t:Tm} {ts:List Tm} {nx:List (List Bd)} {lf:Int} (h: ¬(t.name=a.name/\t.args.length=a.args.length)):iA a s (t::ts) nx lf=iA a s ts nx lf:=by rw[iA,if_neg h]
theorem bIx {a:Tm} {s:List Bd} {t:Tm} {ts:List Tm} {nx:List (List Bd)} {lf:Int} (h:t.name=a.name/\t.args.length=a.args.length) (h':lf - 1<0\/5000<(qG (eI a t s) nx).length):iA a s (t::ts) nx lf=(none,lf - 1):=by rw[iA,if_pos h,if_pos h']
theorem bIy {a:Tm} {s:List Bd} {t:Tm} {ts:List Tm} {nx:List (List Bd)} {lf:Int} (h:t.name=a.name/\t.args.length=a.args.length) (h': ¬(lf - 1<0\/5000<(qG (eI a t s) nx).length)):iA a s (t::ts) nx lf=iA a s ts (qG (eI a t s) nx) (lf - 1):=by rw[iA,if_pos h,if_neg h']
def wyX (A:List Tm) (r:AV) (o':aF):Option (List (List Bd))×Int->Prop
 |(some W,lf)=>r= .tup [.ref 1002 0 W.length,bl true]/\o'= [(1002,gF W),(1000,aZ true lf),(1001,aG true A)]
 |(none,lf)=>r= .tup [.list false true [],bl false]/\o'= [(1000,aZ true lf),(1001,aG true A)]
theorem bI0 {q M:Nat} (A:List Tm) (B:List Lt) (fb:Bool) (lf:Int) (hA:lL q M A) (hAl:A.length<=1000000) (hB:B.length<=8) (hBz: ∀b∈B,b.atom.size<=20) (h0:0<=lf) (h1:lf<=1000000):
 MCall prog 52 [.ptr 1000 0 0,.list false fb (B.map bP),.ref 1001 0 A.length] [(1000,aZ true lf),(1001,aG true A)] (fun r o'=>wyX A r o' (gD A B [[]] lf)):=by
 generalize hG:gD A B [[]] lf=G
 refine eW func52 call52 rfl (by simp[ntmps52]) ?_;simp only[ntmps52,results52]
 repeat' (first|(refine aC fun _ _=>?_)|refine zHg ?_|simp(disch:=omega) [go_sem,aZ,aG])
 refine bS [0,1,2,18] [900,1000,16] (fun x:Nat×List (List Bd)×Int=> [(19,nt .i64 x.1),(8,.ref 900 0 x.2.1.length)]) (fun x:Nat×List (List Bd)×Int=> [(900,gF x.2.1),(1000,aZ true x.2.2)]) (fun x:Nat×List (List Bd)×Int=>B.length - x.1) (fun x:Nat×List (List Bd)×Int=>x.1<=B.length/\lK q M (20*x.1) x.2.1/\x.2.1.length<=5000/\0<=x.2.2/\x.2.2<=1000000/\gD A (B.drop x.1) x.2.1 x.2.2=G) ((0,[[]],lf)) (by refine Le.trans ?_ (Le.looseRow 16 rfl (by show(0:Nat)≠1;decide));exact(by refine Le.trans ?_ (Le.move (i:=8) (T:=16) (T':=900) rfl (by show(0:Nat)≠1;decide) rfl rfl rfl);exact(Le.sub4 rfl (by simp[go_sem,aZ,aG,bIr])))) ⟨?_⟩ ?_
 ·refine⟨Nat.zero_le _,fun s hs=>?_,by simp,h0,h1,hG⟩
  obtain rfl:=List.mem_singleton.1 hs
  exact⟨fun b hb=>by simp at hb,by simp⟩
 clear hG h0 h1
 intro⟨i,W,l0⟩ ⟨hi,hW,hWl,h0,h1,hG⟩ AA hAA;simp only[kL,Nat.reduceBEq,Nat.reduceEqDiff]
 dsimp only at*
 by_cases hlt:i<B.length
 ·rw[List.drop_eq_getElem_cons hlt]at hG
  have hbz:=hBz _ (List.getElem_mem hlt)
  generalize hb:B[i]=b at*
  by_cases hn:b.neg=true
  ·rw[aGm (.inl hn)]at hG
   repeat' (first|(refine aC fun _ _=>?_)|refine zHg ?_|(refine(hAA.next ((i+1,W,l0)) (Le.sub4 rfl (by simp[go_sem,aZ,aG])) (by(try dsimp only);omega) ?_))|simp(disch:=omega) [go_sem,hlt,hb,hn,aZ,aG])
   try any_goals omega
   exact⟨hlt,fun s hs=>⟨(hW s hs).1,by have:=(hW s hs).2;omega⟩,hWl,h0,h1,hG⟩
  ·by_cases hd:b.atom.name=E1
   ·rw[aGm (.inr hd)]at hG
    repeat' (first|(refine aC fun _ _=>?_)|refine zHg ?_|(refine(hAA.next ((i+1,W,l0)) (Le.sub4 rfl (by simp[go_sem,aZ,aG])) (by(try dsimp only);omega) ?_))|simp(disch:=omega) [go_sem,hlt,hb,hn,hd,aZ,aG])
    try any_goals omega
    exact⟨hlt,fun s hs=>⟨(hW s hs).1,by have:=(hW s hs).2;omega⟩,hWl,h0,h1,hG⟩
   ·rw[bIt (fun h=>h.elim hn hd)]at hG
    have hG:tB b.atom A W (B.drop (i+1)) (some [],l0)=G:=hG
    have hAB:=hAA
    repeat' (first|(refine aC fun _ _=>?_)|refine zHg ?_|simp(disch:=omega) [go_sem,hlt,hb,hn,hd,aZ,aG])
    refine bS [0,1,2,8,10,18,19,38] [901,1000,10] (fun y:Nat×List (List Bd)×Int=> [(39,nt .i64 y.1),(11,.ref 901 0 y.2.1.length)]) (fun y:Nat×List (List Bd)×Int=> [(901,gF y.2.1),(1000,aZ true y.2.2),(10,gE b.atom)]) (fun y:Nat×List (List Bd)×Int=>W.length - y.1) (fun y:Nat×List (List Bd)×Int=>y.1<=W.length/\lK q M (20*i+20) y.2.1/\y.2.1.length<=5000/\0<=y.2.2/\y.2.2<=1000000/\tB b.atom A (W.drop y.1) (B.drop (i+1)) (some y.2.1,y.2.2)=G) ((0,[],l0)) (by refine Le.trans ?_ (Le.nil (i:=11) (T:=901) (es:=1) rfl);exact(Le.sub4 rfl (by simp[go_sem,aZ,aG,gF,gE,List.map_nil,List.length_nil]))) ⟨?_⟩ ?_
    ·exact⟨Nat.zero_le _,fun s hs=>by simp at hs,by simp,h0,h1,hG⟩
    clear hG h0 h1
    intro⟨k,nx,l1⟩ ⟨hk,hX,hXl,h0,h1,hG⟩ AA hAA;simp only[kL,Nat.reduceBEq,Nat.reduceEqDiff]
    dsimp only at*
    have hAC:=hAA
    by_cases hkl:k<W.length
    ·rw[List.drop_eq_getElem_cons hkl,bIv]at hG
     obtain⟨hs1,hs2⟩:=hW _ (List.getElem_mem hkl)
     generalize hs:W[k]=s at*
     repeat' (first|(refine aC fun _ _=>?_)|refine zHg ?_|simp(disch:=omega) [go_sem,hkl,hs,aZ,aG,gE])
     refine bS [0,1,2,8,10,12,18,19,38,39,43] [901,1000,10] (fun z:Nat×List (List Bd)×Int=> [(44,nt .i64 z.1),(11,.ref 901 0 z.2.1.length)]) (fun z:Nat×List (List Bd)×Int=> [(901,gF z.2.1),(1000,aZ true z.2.2),(10,gE b.atom)]) (fun z:Nat×List (List Bd)×Int=>A.length - z.1) (fun z:Nat×List (List Bd)×Int=>z.1<=A.length/\lK q M (20*i+20) z.2.1/\z.2.1.length<=5000/\0<=z.2.2/\z.2.2<=1000000/\tB b.atom A (W.drop (k+1)) (B.drop (i+1)) (iA b.atom s (A.drop z.1) z.2.1 z.2.2)=G) ((0,nx,l1)) (Le.sub4 rfl (by simp[go_sem,aZ,aG,gF,gE])) ⟨?_⟩ ?_
     ·exact⟨Nat.zero_le _,hX,hXl,h0,h1,hG⟩
     clear hG h0 h1 hX hXl
     intro⟨j,nx,l1⟩ ⟨hj,hX,hXl,h0,h1,hG⟩ AA hAA;simp only[kL,Nat.reduceBEq,Nat.reduceEqDiff]
     dsimp only at*
     by_cases hjl:j<A.length
     ·rw[List.drop_eq_getElem_cons hjl]at hG
      have ht:=hA _ (List.getElem_mem hjl)
      generalize hta:A[j]=t at*
      by_cases hm1:t.name=b.atom.name
      ·by_cases hm2:t.args.length=b.atom.args.length
       ·have hbb:=aF7 b.atom t s ht.1 ht.2 (fun hu=>by
         have h0:t.args.length=0:=by
          unfold mL at hu
          rw[Bool.and_eq_true,decide_eq_true_eq]at hu
          rw[hm2];exact hu.1
         rw[oX,List.eq_nil_of_length_eq_zero h0]
         simp[eH]) hs1
        have hu:=bIq b.atom t s (by omega) (by omega)
        have hout:=bIx (s:=s) (ts:=A.drop (j+1)) (nx:=nx) (lf:=l1) ⟨hm1,hm2⟩
        have hgo:=bIy (s:=s) (ts:=A.drop (j+1)) (nx:=nx) (lf:=l1) ⟨hm1,hm2⟩
        generalize eI b.atom t s=r at*
        obtain⟨s',c⟩:=r
        dsimp only at*
        cases c
        ·have hnx:qG (s',false) nx=nx:=rfl
         rw[hnx]at hout hgo
         by_cases h5:l1 - 1<0
         ·rw[hout (.inl h5)]at hG
          have hG:(none,l1 - 1)=G:=hG
          subst hG
          repeat' (first|(refine aC fun _ _=>?_)|refine zHg ?_|refine bR rfl (hu) rfl (by simp) ?_|simp(disch:=omega) [go_sem,hjl,hta,hm1,hm2,hkl,hs,h5,aZ,aG,gE]|refine zDr 15 aQ ?_|refine zDr 20 aQ ?_|fail)
          refine cV ⟨107,[(6,.list false true []),(7,bl false)],[(1000,aZ true (l1 - 1)),(1001,aG true A)]⟩ [.list false true [],bl false] (Le.renSub [] [] (by simp[go_sem,aZ,aG]) (by simp[go_sem,aZ,aG]) (Le.sub4 rfl (by simp[go_sem,aZ,aG]))) (by simp[go_sem,aZ,aG]) ⟨rfl,rfl⟩
         ·rw[hgo (fun h=>h.elim h5 (by omega))]at hG
          have h6: ¬(5000:Int)<nx.length:=by omega
          repeat' (first|(refine aC fun _ _=>?_)|refine zHg ?_|refine bR rfl (hu) rfl (by simp) ?_|(refine(hAA.next ((j+1,nx,l1 - 1)) (Le.sub4 rfl (by simp[go_sem,aZ,aG,gE])) (by(try dsimp only);omega) ?_))|simp(disch:=omega) [go_sem,hjl,hta,hm1,hm2,hkl,hs,h5,h6,aZ,aG,gE]|refine zDr 15 aQ ?_|refine zDr 20 aQ ?_|fail)
          try any_goals omega
          exact⟨hjl,hX,hXl,by(try dsimp only);omega,by(try dsimp only);omega,hG⟩
        ·have hnx:qG (s',true) nx=nx++ [s']:=rfl
         rw[hnx]at hout hgo
         by_cases h5:l1 - 1<0
         ·rw[hout (.inl h5)]at hG
          have hG:(none,l1 - 1)=G:=hG
          subst hG
          repeat' (first|(refine aC fun _ _=>?_)|refine zHg ?_|refine bR rfl (hu) rfl (by simp) ?_|simp(disch:=omega) [go_sem,hjl,hta,hm1,hm2,hkl,hs,h5,aZ,aG,gE]|refine zAo ?_|refine zDr 15 aQ ?_|refine zDr 20 aQ ?_|fail)
          refine cV ⟨107,[(6,.list false true []),(7,bl false)],[(1000,aZ true (l1 - 1)),(1001,aG true A)]⟩ [.list false true [],bl false] (Le.renSub [] [] (by simp[go_sem,aZ,aG]) (by simp[go_sem,aZ,aG]) (Le.sub4 rfl (by simp[go_sem,aZ,aG]))) (by simp[go_sem,aZ,aG]) ⟨rfl,rfl⟩
         ·by_cases h6:(5000:Int)<nx.length+1
          ·rw[hout (.inr (by rw[List.length_append];simp;omega))]at hG
           have hG:(none,l1 - 1)=G:=hG
           subst hG
           repeat' (first|(refine aC fun _ _=>?_)|refine zHg ?_|refine bR rfl (hu) rfl (by simp) ?_|simp(disch:=omega) [go_sem,hjl,hta,hm1,hm2,hkl,hs,h5,h6,aZ,aG,gE]|refine zAo ?_|refine zDr 15 aQ ?_|refine zDr 20 aQ ?_|fail)
           refine cV ⟨107,[(6,.list false true []),(7,bl false)],[(1000,aZ true (l1 - 1)),(1001,aG true A)]⟩ [.list false true [],bl false] (Le.renSub [] [] (by simp[go_sem,aZ,aG]) (by simp[go_sem,aZ,aG]) (Le.sub4 rfl (by simp[go_sem,aZ,aG]))) (by simp[go_sem,aZ,aG]) ⟨rfl,rfl⟩
          ·rw[hgo (fun h=>h.elim h5 (by rw[List.length_append];simp;omega))]at hG
           repeat' (first|(refine aC fun _ _=>?_)|refine zHg ?_|refine bR rfl (hu) rfl (by simp) ?_|(refine(hAA.next ((j+1,nx++ [s'],l1 - 1)) (Le.sub4 rfl (by simp[go_sem,aZ,aG,gE])) (by(try dsimp only);omega) ?_))|simp(disch:=omega) [go_sem,hjl,hta,hm1,hm2,hkl,hs,h5,h6,aZ,aG,gE]|refine zAo ?_|refine zDr 15 aQ ?_|refine zDr 20 aQ ?_|fail)
           try any_goals omega
           refine⟨hjl,fun u hu=>?_,by(try dsimp only);rw[List.length_append];simp;omega,by(try dsimp only);omega,by(try dsimp only);omega,hG⟩
           rcases List.mem_append.1 hu with hu|hu
           ·exact hX u hu
           ·obtain rfl:=List.mem_singleton.1 hu
            exact⟨hbb.1,by omega⟩
       ·rw[aGn (fun h=>hm2 h.2)]at hG
        repeat' (first|(refine aC fun _ _=>?_)|refine zHg ?_|(refine zqn ?_ ?_<;>(intro h;first|(exfalso;omega)|(simp only[h,zT])))|(refine(hAA.next ((j+1,nx,l1)) (Le.sub4 rfl (by simp[go_sem,aZ,aG,gE])) (by(try dsimp only);omega) ?_))|simp(disch:=omega) [go_sem,hjl,hta,hm1,hm2,aZ,aG,gE]|refine zDr 20 aQ ?_|fail)
        try any_goals omega
        exact⟨hjl,hX,hXl,h0,h1,hG⟩
      ·rw[aGn (fun h=>hm1 h.1)]at hG
       repeat' (first|(refine aC fun _ _=>?_)|refine zHg ?_|(refine(hAA.next ((j+1,nx,l1)) (Le.sub4 rfl (by simp[go_sem,aZ,aG,gE])) (by(try dsimp only);omega) ?_))|simp(disch:=omega) [go_sem,hjl,hta,hm1,aZ,aG,gE]|refine zDr 20 aQ ?_|fail)
       try any_goals omega
       exact⟨hjl,hX,hXl,h0,h1,hG⟩
     ·obtain rfl:j=A.length:=by omega
      rw[List.drop_length]at hG
      repeat' (first|(refine aC fun _ _=>?_)|refine zHg ?_|(refine(hAC.next ((k+1,nx,l1)) (Le.sub4 rfl (by simp[go_sem,aZ,aG,gE])) (by(try dsimp only);omega) ?_))|simp(disch:=omega) [go_sem,aZ,aG,gE])
      try any_goals omega
      exact⟨hkl,hX,hXl,h0,h1,hG⟩
    ·obtain rfl:k=W.length:=by omega
     rw[List.drop_length,bIw]at hG
     repeat' (first|(refine aC fun _ _=>?_)|refine zHg ?_|(refine(hAB.next ((i+1,nx,l1)) (Le.renSub [(901,900),(900,901)] [(900,901),(901,900)] (by simp[go_sem,aZ,aG,gE]) (by simp[go_sem,aZ,aG,gE]) (Le.sub4 rfl (by simp[go_sem,aZ,aG,gE]))) (by(try dsimp only);omega) ?_))|simp(disch:=omega) [go_sem,aZ,aG,gE])
     try any_goals omega
     exact⟨hlt,fun s hs=>⟨(hX s hs).1,by have:=(hX s hs).2;omega⟩,hXl,h0,h1,hG⟩
 ·obtain rfl:i=B.length:=by omega
  rw[List.drop_length,bIs]at hG
  subst hG
  repeat' (first|(refine aC fun _ _=>?_)|refine zHg ?_|simp(disch:=omega) [go_sem,aZ,aG])
  refine cV ⟨107,[(6,.ref 1002 0 W.length),(7,bl true)],[(1002,gF W),(1000,aZ true l0),(1001,aG true A)]⟩ [.ref 1002 0 W.length,bl true] (Le.renSub [(900,1002),(1002,900)] [(1002,900),(900,1002)] (by simp[go_sem,aZ,aG]) (by simp[go_sem,aZ,aG]) (Le.sub4 rfl (by simp[go_sem,aZ,aG]))) (by simp[go_sem,aZ,aG]) ⟨rfl,rfl⟩
abbrev nJ (t:Tm):AV:= .tup [.sc (.string (eO t)),bl true]
abbrev aS (pin:Bool) (A:List Tm):AObj:=⟨true,false,pin,0,A.map nJ,1⟩
abbrev aV (pin:Bool) (L:Nat):AObj:=⟨false,false,pin,1,[.mp L],0⟩
abbrev aT (pin:Bool) (L n:Nat):AObj:=⟨false,false,pin,1,[.ref L 0 n],0⟩
abbrev cA (A:List Tm):aF:= [(1000,aV true 1002),(1001,aT true 1003 A.length),(1002,aS true A),(1003,aG true A)]
abbrev cP (A:List Tm):aF:= [(1000,aV true 1002),(1001,aT true 1004 A.length),(1002,aS true A),(1004,aG false A)]
def mN (A:List Tm) (t:Tm):Bool:=A.any fun u=>decide (eO u=eO t)
theorem E5 {t:Tm}: ∀{A:List Tm} {i:Nat},mN A t=false->eL (.string (eO t)) (A.map nJ) i=some none
 | [],_,_=>rfl
 |u::A,i,h=>by
  unfold mN at h
  rw[List.any_cons,Bool.or_eq_false_iff,decide_eq_false_iff_not]at h
  have e:lD (.string (eO t)) (.string (eO u))=some false:=by
   show some (decide (eO t=eO u))=_
   rw[decide_eq_false (fun h'=>h.1 h'.symm)]
  rw[List.map_cons,eL,e]
  exact E5 h.2
theorem aGo {t:Tm}: ∀{A:List Tm} {i:Nat},mN A t=true-> ∃j,eL (.string (eO t)) (A.map nJ) i=some (some (j,bl true))
 | [],_,h=>by cases h
 |u::A,i,h=>by
  unfold mN at h
  rw[List.any_cons,Bool.or_eq_true,decide_eq_true_eq]at h
  have e:lD (.string (eO t)) (.string (eO u))=some (decide (eO t=eO u)):=rfl
  rw[List.map_cons,eL,e]
  by_cases hq:eO t=eO u
  ·rw[decide_eq_true hq];exact⟨i,rfl⟩
  ·rw[decide_eq_false hq]
   exact aGo (h.resolve_left fun h'=>hq h'.symm)
theorem bI1 {t:Tm} {A:List Tm} (h:mN A t=false):mX (.string (eO t)) (bl true) (A.map nJ)=some (A.map nJ++ [nJ t]):=by
 unfold mX
 rw[E5 h]
theorem aGp {q M:Nat} (hq:q<=1000000) (A:List Tm) (t:Tm) (ho:dQ q M t) (hz:fD t<=2305843009213693952) (hd:t.depth<=1000000) (hA:A.length<=1000000) (h:mN A t=true):
 MCall prog 49 [eT t,.ptr 1000 0 0,.ptr 1001 0 0] (cA A) (fun r o'=>r= .tup []/\o'=cA A):=by
 have h1:=U8 t hz
 obtain⟨j,hm⟩:=aGo (i:=0) h
 generalize eO t=k at*
 refine eW func49 call49 rfl (by simp[ntmps49]) ?_;simp only[ntmps49,results49]
 repeat' (first|(refine aC fun _ _=>?_)|refine zHg ?_|refine aO rfl (h1) (by simp) ?_|simp(disch:=omega) [go_sem,cA,aV,aT,aS,aG,hm])
 refine sP ⟨24,[],cA A⟩ [] (Le.renSub [] [] (by simp[go_sem,cA,aV,aT,aS,aG]) (by simp[go_sem,cA,aV,aT,aS,aG]) (Le.sub4 rfl (by simp[go_sem,cA,aV,aT,aS,aG]))) (by simp[go_sem,cA,aV,aT,aS,aG]) ⟨rfl,rfl⟩
theorem aGq {q M:Nat} (hq:q<=1000000) (A:List Tm) (t:Tm) (ho:dQ q M t) (hz:fD t<=2305843009213693952) (hd:t.depth<=1000000) (hA:A.length<=1000000) (h:mN A t=false) (h4: ¬t.depth<=4):
 MCall prog 49 [eT t,.ptr 1000 0 0,.ptr 1001 0 0] (cA A) (fun r o'=>r= .tup []/\o'=cA A):=by
 have h1:=U8 t hz
 have h2:=aGh hq t ho hd
 have hm:=E5 (i:=0) h
 have h4': ¬(t.depth:Int)<=4:=by omega
 generalize eO t=k at*
 refine eW func49 call49 rfl (by simp[ntmps49]) ?_;simp only[ntmps49,results49]
 repeat' (first|(refine aC fun _ _=>?_)|refine zHg ?_|refine aO rfl (h1) (by simp) ?_|refine aO rfl (h2) (by simp) ?_|simp(disch:=omega) [go_sem,cA,aV,aT,aS,aG,hm,h4'])
 refine sP ⟨24,[],cA A⟩ [] (Le.renSub [] [] (by simp[go_sem,cA,aV,aT,aS,aG]) (by simp[go_sem,cA,aV,aT,aS,aG]) (Le.sub4 rfl (by simp[go_sem,cA,aV,aT,aS,aG]))) (by simp[go_sem,cA,aV,aT,aS,aG]) ⟨rfl,rfl⟩
theorem aGr {q M:Nat} (hq:q<=1000000) (A:List Tm) (t:Tm) (ho:dQ q M t) (hz:fD t<=2305843009213693952) (hd:t.depth<=1000000) (hA:A.length<=1000000) (h:mN A t=false) (h4:t.depth<=4):
 MCall prog 49 [eT t,.ptr 1000 0 0,.ptr 1001 0 0] (cA A) (fun r o'=>r= .tup []/\o'=cP (A++ [t])):=by
 have h1:=U8 t hz
 have h2:=aGh hq t ho hd
 have hm:=E5 (i:=0) h
 have hp:mX (.string (eO t)) (.sc (.bool true)) (A.map nJ)=some (A.map nJ++ [nJ t]):=bI1 h
 have h4':(t.depth:Int)<=4:=by omega
 have hr:(A++ [t]).map nJ=A.map nJ++ [nJ t]:=by simp
 have hlm:A.length<=140737488355327:=by omega
 have hcs:iG (.agg #[.string ⟨#[]⟩,.slice none 0 0])=some (.agg [.sc (.string ⟨#[]⟩),.list false true []]):=rfl
 have hge: ∀z:AV,(A.map aI++ [z])[A.length]?=some z:=fun z=>by
  rw[List.getElem?_append_right (by simp)];simp
 have hse: ∀z x:AV,(A.map aI++ [z]).set A.length x=A.map aI++ [x]:=fun z x=>by
  rw[List.set_append_right _ _ (by simp)];simp
 refine eW func49 call49 rfl (by simp[ntmps49]) ?_;simp only[ntmps49,results49]
 repeat' (first|(refine aC fun _ _=>?_)|refine zHg ?_|(with_reducible refine dF ?_;first|(exact dC)|(refine zSkip ?_)|(refine dD rfl ?_ ?_))|(with_reducible refine dE ?_;first|(refine zDone ?_)|(refine zQu 0 rfl rfl rfl rfl ?_)|(refine zQu 1 rfl rfl rfl rfl ?_)|(refine zQu 2 rfl rfl rfl rfl ?_)|(refine zQu 5 rfl rfl rfl rfl ?_)|(refine zAll ?_;show cO _ _ _ _ _ _ _))|with_reducible refine dH ?_|refine aO rfl (h1) (by simp) ?_|refine aO rfl (h2) (by simp) ?_|simp(disch:=omega) [go_sem,hge,hse,cA,aV,aT,aS,aG,hm,hp,h4',hlm,hcs]|refine zAo ?_|refine zAny aQ ?_|fail)
 try any_goals omega
 all_goals refine sP ⟨24,[],cP (A++ [t])⟩ [] (Le.renSub [(22,1004),(1004,22)] [(1004,22),(22,1004)] (by simp[go_sem,cP,cA,aV,aT,aS,aG,hr]) (by simp[go_sem,cP,cA,aV,aT,aS,aG,hr]) (Le.sub4 rfl (by simp[go_sem,cP,cA,aV,aT,aS,aG,hr]))) (by simp[go_sem,cP,cA,aV,aT,aS,aG,hr]) ⟨rfl,rfl⟩
end Go.Proofs.YtbgckcdddlmiaaaGreatDoor
