import Derived.Test.YtbgckcdddlmiaaaDoorS3
import Derived.Test.YtbgckcdddlmiaaaDoorS2
import Derived.Test.YtbgckcdddlmiaaaDoorA11
set_option linter.unusedSimpArgs false
set_option linter.unusedVariables false
open Go.Proofs.Tryd
namespace Go.Proofs.YtbgckcdddlmiaaaDoor
open Go.Ab
set_option maxRecDepth 100000
set_option maxHeartbeats 8000000
noncomputable instance:DecidableEq Lt:=fun _ _=>Classical.propDecidable _
noncomputable instance:DecidableEq Rl:=fun _ _=>Classical.propDecidable _
theorem bVe (a b:Rl) (hl:a.body.length≤1000000):ACall prog 20 [bZ a,bZ b] (fun v=>v=bl (decide (a=b))):=by
 obtain⟨h,ys⟩:=a
 obtain⟨g,bs⟩:=b
 dsimp only at hl
 have h1:=L4 h g
 generalize hV:decide ((⟨h,ys⟩:Rl)=⟨g,bs⟩)=V
 cases q1:mK h g
 ·rw[q1]at h1
  have hu:V=false:=by
   rw[←hV,decide_eq_false_iff_not]
   intro e
   have e1:=congrArg Rl.head e
   rw[(qM h g).2 e1]at q1
   cases q1
  subst hu
  refine bF func20 call20 rfl (by simp[ntmps20]) ?_;simp only[ntmps20,results20]
  repeat' (first|(refine aC fun _ _=>?_)|refine zHg ?_|(refine aU [] ?_;simp[go_sem])|refine aV rfl (h1) (by simp) ?_|simp(disch:=omega) [go_sem])
 ·rw[q1]at h1
  have hh:=(qM h g).1 q1
  subst hh
  by_cases hn:ys.length=bs.length
  ·have hn': ¬(ys.length:Int)≠bs.length:=by omega
   refine bF func20 call20 rfl (by simp[ntmps20]) ?_;simp only[ntmps20,results20]
   repeat' (first|(refine aC fun _ _=>?_)|refine zHg ?_|refine aV rfl (h1) (by simp) ?_|simp(disch:=omega) [go_sem,hn])
   all_goals(first|(exfalso;omega)|skip)
   refine cL [2,3,23] [] (fun i:Nat=> [(24,nt .i64 i)]) (fun i:Nat=> []) (fun i:Nat=>bs.length - i) (fun i:Nat=>i≤bs.length∧ ∀(k:Nat) (hk:k<ys.length) (hk':k<bs.length),k<i→ys[k]=bs[k]) (0) (Le.sub4 rfl (by simp[go_sem])) ⟨?_⟩ ?_
   ·exact⟨Nat.zero_le _,fun k _ _ hk=>absurd hk (Nat.not_lt_zero _)⟩
   intro i ⟨hi,hs⟩ AA hAA;simp only[kL,Nat.reduceBEq,Nat.reduceEqDiff,if_true,if_false,List.cons_append,List.nil_append,List.append_nil]
   by_cases hlt:i<bs.length
   ·have hla:i<ys.length:=by omega
    have h2:=L4 ys[i].atom bs[i].atom
    by_cases hq:ys[i]=bs[i]
    ·have hneg:ys[i].neg=bs[i].neg:=by rw[hq]
     rw[hq,(qM _ _).2 rfl]at h2
     rw[←hq]at h2
     have h2':=h2
     rw[hq]at h2'
     repeat' (first|(refine aC fun _ _=>?_)|refine zHg ?_|refine cU rfl (h2') rfl (by simp) ?_|(refine(hAA.next (i+1) (Le.sub4 rfl (by simp[go_sem])) (by(try dsimp only);omega) ?_))|simp(disch:=omega) [go_sem,hlt,hla,hq]|refine zDr 29 aT ?_|fail)
     all_goals(first|omega|skip)
     all_goals exact⟨hlt,fun k hk hk' hki=>by rcases Nat.lt_or_eq_of_le (Nat.le_of_lt_succ hki)with h|rfl;exact hs k hk hk' h;exact hq⟩
    ·have hu:V=false:=by
      rw[←hV,decide_eq_false_iff_not]
      intro e
      have e2:=congrArg Rl.body e
      dsimp only at e2
      subst e2
      exact hq rfl
     subst hu
     clear hs hV
     by_cases hneg:ys[i].neg=bs[i].neg
     ·have hat:mK ys[i].atom bs[i].atom=false:=by
       rw[Bool.eq_false_iff]
       intro e
       apply hq
       have e3:=(qM _ _).1 e
       generalize ys[i]=x at*
       generalize bs[i]=y at*
       cases x;cases y
       dsimp only at hneg e3
       rw[hneg,e3]
      rw[hat]at h2
      repeat' (first|(refine aC fun _ _=>?_)|refine zHg ?_|(refine aU [] ?_;simp[go_sem,hlt,hla,hneg])|refine cU rfl (h2) rfl (by simp) ?_|simp(disch:=omega) [go_sem,hlt,hla,hneg]|refine zDr 29 aT ?_|fail)
     ·repeat' (first|(refine aC fun _ _=>?_)|refine zHg ?_|(refine zdn ?_ ?_<;>(intro h;first|(simp only[h,zT])|skip))|(refine aU [] ?_;simp[go_sem,hlt,hla,hneg])|simp(disch:=omega) [go_sem,hlt,hla,hneg]|refine zDr 29 aT ?_|fail)
      all_goals exact absurd (by assumption) hneg
   ·obtain rfl:i=bs.length:=by omega
    have hu:V=true:=by
     rw[←hV,decide_eq_true_eq]
     congr 1
     exact List.ext_getElem hn fun k h1 h2=>hs k h1 h2 h2
    subst hu
    repeat' (first|(refine aC fun _ _=>?_)|refine zHg ?_|(refine aU [] ?_;simp[go_sem])|simp(disch:=omega) [go_sem])
  ·have hu:V=false:=by
    rw[←hV,decide_eq_false_iff_not]
    intro e
    exact hn (congrArg (fun z:Rl=>z.body.length) e)
   subst hu
   refine bF func20 call20 rfl (by simp[ntmps20]) ?_;simp only[ntmps20,results20]
   repeat' (first|(refine aC fun _ _=>?_)|refine zHg ?_|(refine zqn ?_ ?_<;>(intro h;first|(exfalso;omega)|(simp only[h,zT])))|(refine aU [] ?_;simp[go_sem,hn])|refine aV rfl (h1) (by simp) ?_|simp(disch:=omega) [go_sem,hn])
   all_goals(first|(exfalso;omega)|skip)
theorem aDl (a b:List Rl) (le fu le' fu':Bool) (hz: ∀r∈a,r.body.length≤1000000):ACall prog 10 [.list le fu (a.map bZ),.list le' fu' (b.map bZ)] (fun r=>r=bl (decide (a=b))):=by
 refine ACall.bound (i:=0) rfl call10 fun hb=>?_
 rw[List.length_map]at hb
 have hb:a.length≤140737488355328:=hb
 by_cases h0:a.length=b.length
 ·generalize hR:decide (a=b)=R
  have h0': ¬(a.length:Int)≠b.length:=by omega
  refine bF func10 call10 rfl (by simp[ntmps10]) ?_;simp only[ntmps10,results10]
  repeat' (first|(refine aC fun _ _=>?_)|refine zHg ?_|simp(disch:=omega) [go_sem,h0])
  all_goals(first|(exfalso;omega)|skip)
  refine cL [0,1,12] [] (fun i:Nat=> [(13,nt .i64 i)]) (fun i:Nat=> []) (fun i:Nat=>b.length - i) (fun i:Nat=>i≤b.length∧ ∀(k:Nat) (hk:k<a.length) (hk':k<b.length),k<i→a[k]=b[k]) (0) (Le.sub4 rfl (by simp[go_sem])) ⟨?_⟩ ?_
  ·exact⟨Nat.zero_le _,fun k _ _ hk=>absurd hk (Nat.not_lt_zero _)⟩
  intro i ⟨hi,hn⟩ AA hAA;simp only[kL,Nat.reduceBEq,Nat.reduceEqDiff,if_true,if_false,List.cons_append,List.nil_append,List.append_nil]
  by_cases hlt:i<b.length
  ·have hla:i<a.length:=by omega
   have hs:=bVe a[i] b[i] (hz _ (List.getElem_mem hla))
   by_cases hq:a[i]=b[i]
   ·rw[decide_eq_true hq]at hs
    repeat' (first|(refine aC fun _ _=>?_)|refine zHg ?_|refine cU rfl (hs) rfl (by simp) ?_|(refine(hAA.next (i+1) (Le.sub4 rfl (by simp[go_sem])) (by(try dsimp only);omega) ?_))|simp(disch:=omega) [go_sem,hlt,hla,bZ]|refine zDr 10 aT ?_|fail)
    all_goals(first|omega|skip)
    all_goals exact⟨hlt,fun k hk hk' hki=>by rcases Nat.lt_or_eq_of_le (Nat.le_of_lt_succ hki)with h|rfl;exact hn k hk hk' h;exact hq⟩
   ·have hu:R=false:=by
     rw[←hR,decide_eq_false_iff_not]
     intro h
     apply hq
     simp only[h]
    subst hu
    rw[decide_eq_false hq]at hs
    repeat' (first|(refine aC fun _ _=>?_)|refine zHg ?_|(refine aU [] ?_;simp[go_sem,hlt,hla,bZ])|refine cU rfl (hs) rfl (by simp) ?_|simp(disch:=omega) [go_sem,hlt,hla,bZ]|refine zDr 10 aT ?_|fail)
  ·obtain rfl:i=b.length:=by omega
   have hu:R=true:=by
    rw[←hR,decide_eq_true_eq]
    exact List.ext_getElem h0 fun k h1 h2=>hn k h1 h2 h2
   subst hu
   repeat' (first|(refine aC fun _ _=>?_)|refine zHg ?_|(refine aU [] ?_;simp[go_sem])|simp(disch:=omega) [go_sem])
 ·rw[decide_eq_false (fun h=>h0 (by rw[h]))]
  refine bF func10 call10 rfl (by simp[ntmps10]) ?_;simp only[ntmps10,results10]
  repeat' (first|(refine aC fun _ _=>?_)|refine zHg ?_|(refine zqn ?_ ?_<;>(intro h;first|(exfalso;omega)|(simp only[h,zT])))|(refine aU [] ?_;simp[go_sem,h0])|simp(disch:=omega) [go_sem,h0])
  all_goals(first|(exfalso;omega)|skip)
abbrev zQ:ByteArray:=⟨#[100,105,115,116,105,110,99,116]⟩
abbrev aDm:ByteArray:=⟨#[105,110,105,116]⟩
abbrev aDn:ByteArray:=⟨#[110,101,120,116]⟩
abbrev wH:ByteArray:=⟨#[116,114,117,101]⟩
abbrev aDo:ByteArray:=⟨#[108,101,103,97,108]⟩
abbrev N6:ByteArray:=⟨#[100,111,101,115]⟩
def pJ (r:List Bd×Bool) (nx:List (List Bd)):List (List Bd):=if r.2=true then nx++ [r.1]else nx
def gG (a:Tm) (s:List Bd):List Tm→List (List Bd)→Int→Option (List (List Bd))×Int
 | [],nx,lf=>(some nx,lf)
 |t::ts,nx,lf=>if t.name=a.name∧t.args.length=a.args.length then
  (if lf - 1<0∨5000<(pJ (dW a t s) nx).length then(none,lf - 1)else gG a s ts (pJ (dW a t s) nx) (lf - 1))
  else gG a s ts nx lf
def mM (a:Tm) (A:List Tm):List (List Bd)→List (List Bd)→Int→Option (List (List Bd))×Int
 | [],nx,lf=>(some nx,lf)
 |s::ss,nx,lf=>match gG a s A nx lf with
  |(some nx',lf')=>mM a A ss nx' lf'
  |(none,lf')=>(none,lf')
def fI (A:List Tm):List Lt→List (List Bd)→Int→Option (List (List Bd))×Int
 | [],out,lf=>(some out,lf)
 |b::bs,out,lf=>if b.neg=true∨b.atom.name=zQ then fI A bs out lf else match mM b.atom A out [] lf with
  |(some nx,lf')=>fI A bs nx lf'
  |(none,lf')=>(none,lf')
def kP (q M k:Nat) (W:List (List Bd)):Prop:= ∀s∈W,lO q M s∧s.length≤k
def kQ (q M:Nat) (A:List Tm):Prop:= ∀t∈A,dK q M t∧t.depth≤4
theorem N7 {q M k:Nat} {a:Tm} {s:List Bd} (hs:lO q M s∧s.length≤k): ∀{A:List Tm} {nx:List (List Bd)} {lf:Int},kQ q M A→kP q M (k+a.size) nx→nx.length≤5000→0≤lf→
 (gG a s A nx lf).2≤lf∧ -1≤(gG a s A nx lf).2∧ ∀nx',(gG a s A nx lf).1=some nx'→kP q M (k+a.size) nx'∧nx'.length≤5000∧0≤(gG a s A nx lf).2
 | [],nx,lf,_,hn,hl,h0=>⟨Int.le_refl _,by show(-1:Int)≤lf;omega,fun nx' h=>by
  obtain rfl:=Option.some.inj h
  exact⟨hn,hl,h0⟩⟩
 |t::ts,nx,lf,hA,hn,hl,h0=>by
  have hA':kQ q M ts:=fun u hu=>hA u (by simp[hu])
  obtain⟨ht,hd⟩:=hA t (by simp)
  unfold gG
  split
  ·split
   ·exact⟨by show lf - 1≤lf;omega,by show(-1:Int)≤lf - 1;omega,fun _ h=>by cases h⟩
   ·rename_i he hc
    rw[not_or]at hc
    obtain⟨b1,b2⟩:=aDb a t s ht hd (fun hu=>by
     have h0:t.args.length=0:=by
      unfold lN at hu
      rw[Bool.and_eq_true,decide_eq_true_eq]at hu
      rw[he.2];exact hu.1
     rw[nU,List.eq_nil_of_length_eq_zero h0]
     simp[dV]) hs.1
    have hn':kP q M (k+a.size) (pJ (dW a t s) nx):=by
     unfold pJ
     split
     ·intro u hu
      rcases List.mem_append.1 hu with hu|hu
      ·exact hn u hu
      ·obtain rfl:=List.mem_singleton.1 hu
       exact⟨b1,by omega⟩
     ·exact hn
    obtain⟨c1,c2,c3⟩:=N7 hs (A:=ts) hA' hn' (by omega) (show 0≤lf - 1 by omega)
    exact⟨by omega,c2,c3⟩
  ·exact N7 hs hA' hn hl h0
theorem aDp {q M k:Nat} {a:Tm} {A:List Tm} (hA:kQ q M A): ∀{W nx:List (List Bd)} {lf:Int},kP q M k W→kP q M (k+a.size) nx→nx.length≤5000→0≤lf→
 (mM a A W nx lf).2≤lf∧ -1≤(mM a A W nx lf).2∧ ∀nx',(mM a A W nx lf).1=some nx'→kP q M (k+a.size) nx'∧nx'.length≤5000∧0≤(mM a A W nx lf).2
 | [],nx,lf,_,hn,hl,h0=>⟨Int.le_refl _,by show(-1:Int)≤lf;omega,fun nx' h=>by
  obtain rfl:=Option.some.inj h
  exact⟨hn,hl,h0⟩⟩
 |s::ss,nx,lf,hW,hn,hl,h0=>by
  obtain⟨a1,a2,a3⟩:=N7 (hW s (by simp)) hA hn hl h0
  unfold mM
  split
  ·rename_i nx' lf' he
   rw[he]at a1 a2 a3
   obtain⟨b1,b2,b3⟩:=a3 nx' rfl
   dsimp only at a1 a2 b3
   obtain⟨c1,c2,c3⟩:=aDp hA (W:=ss) (fun u hu=>hW u (by simp[hu])) b1 b2 b3
   exact⟨by omega,c2,c3⟩
  ·rename_i lf' he
   rw[he]at a1 a2
   exact⟨a1,a2,fun _ h=>by cases h⟩
def zR:List Lt→Nat
 | []=>0
 |b::bs=>b.atom.size+zR bs
theorem N8 {q M:Nat} {A:List Tm} (hA:kQ q M A): ∀{B:List Lt} {k:Nat} {W:List (List Bd)} {lf:Int},kP q M k W→W.length≤5000→0≤lf→
 (fI A B W lf).2≤lf∧ -1≤(fI A B W lf).2∧ ∀W',(fI A B W lf).1=some W'→kP q M (k+zR B) W'∧W'.length≤5000∧0≤(fI A B W lf).2
 | [],k,W,lf,hW,hl,h0=>⟨Int.le_refl _,by show(-1:Int)≤lf;omega,fun nx' h=>by
  obtain rfl:=Option.some.inj h
  exact⟨hW,hl,h0⟩⟩
 |b::bs,k,W,lf,hW,hl,h0=>by
  unfold fI
  have up: ∀{j i:Nat} {W:List (List Bd)},kP q M j W→j≤i→kP q M i W:=fun h hji s hs=>⟨(h s hs).1,Nat.le_trans (h s hs).2 hji⟩
  split
  ·obtain⟨c1,c2,c3⟩:=N8 hA (B:=bs) hW hl h0
   exact⟨c1,c2,fun W' h=>⟨up (c3 W' h).1 (by rw[zR];omega),(c3 W' h).2⟩⟩
  ·obtain⟨a1,a2,a3⟩:=aDp (a:=b.atom) hA (nx:= []) hW (fun s hs=>by simp at hs) (by simp) h0
   split
   ·rename_i nx lf' he
    rw[he]at a1 a2 a3
    obtain⟨b1,b2,b3⟩:=a3 nx rfl
    dsimp only at a1 a2 b3
    obtain⟨c1,c2,c3⟩:=N8 hA (B:=bs) b1 b2 b3
    exact⟨by omega,c2,fun W' h=>⟨up (c3 W' h).1 (by rw[zR];omega),(c3 W' h).2⟩⟩
   ·rename_i lf' he
    rw[he]at a1 a2
    exact⟨a1,a2,fun _ h=>by cases h⟩
def nD (h:Tm) (W:List (List Bd)):List Tm:=W.filterMap fun s=>if(fC h s).2=true then some (fC h s).1 else none
def nY (A:List Tm):List Rl→List Tm→Int→Option (List Tm)×Int
 | [],m,lf=>(some m,lf)
 |r::rs,m,lf=>match fI A r.body [[]] lf with
  |(some W,lf')=>nY A rs (m++nD r.head W) lf'
  |(none,lf')=>(none,lf')
def iO (t:Tm):List Tm:=if t.args.length=1∧(t.name=aDm∨t.name=aDn)then[.mk wH t.args]else if t.args.length=2∧t.name=aDo then[.mk N6 t.args]else[]
def mN (A:List Tm):List Tm:=A.flatMap iO
def fD (A:List Tm) (t:Tm):List Tm:=if A.any (fun u=>decide (eA u=eA t))=false∧t.depth≤4 then A++ [t]else A
def pK (l:List Rl):Nat→Int→List Tm→Int→Bool
 |0,_,_,_=>false
 |f+1,n,A,lf=>if n<A.length∧A.length≤1000 then match nY A l [] lf with
  |(some m,lf')=>pK l f A.length ((m++mN A).foldl fD A) lf'
  |(none,_)=>false
  else decide (A.length≤1000)
def zS (l:List Rl) (G:List Tm):Bool:=pK l 1003 (-1) (G.foldl fD []) 1000000
def okR (q M:Nat) (r:Rl):Prop:=dK q M r.head∧r.head.size≤20∧r.body.length≤8∧ ∀b∈r.body,dK q M b.atom∧b.atom.size≤20
def BG (q M:Nat):Nat:=20*(M+3)+20*KB q M 3+KB q M 4
def zU (q M:Nat) (X:List Tm):Prop:= ∀t∈X,dK q M t∧eN t≤BG q M∧t.depth≤1000
theorem bVf {t:Tm} {n:Nat} (h:t.size≤n):t.depth≤n:=Nat.le_trans (bTu t) h
theorem bVg {q M:Nat} {h:Tm} (hh:dK q M h) (hz:h.size≤20) {k:Nat} {W:List (List Bd)} (hW:kP q M k W):zU q M (nD h W):=by
 intro t ht
 unfold nD at ht
 obtain⟨s,hs,he⟩:=List.mem_filterMap.1 ht
 split at he
 ·obtain rfl:=Option.some.inj he
  obtain⟨a1,a2,a3⟩:=bUy (hW s hs).1 h hh
  have b1:=bUw hh
  have b2:=bVf hz
  have b3:h.size*(M+3)≤20*(M+3):=Nat.mul_le_mul_right _ hz
  have b4:h.size*KB q M 3≤20*KB q M 3:=Nat.mul_le_mul_right _ hz
  exact⟨a1,by unfold BG;omega,by omega⟩
 ·cases he
theorem bVh {h:Tm} {W:List (List Bd)}:(nD h W).length≤W.length:=List.length_filterMap_le _ _
theorem bVi (t:Tm):(iO t).length≤1:=by
 unfold iO
 split
 ·simp
 ·split<;>simp
theorem aDr: ∀A:List Tm,(mN A).length≤A.length
 | []=>by simp[mN]
 |t::A=>by
  have h1:=bVi t
  have h2:=aDr A
  unfold mN at*
  rw[List.flatMap_cons,List.length_append,List.length_cons];omega
theorem bVj {q M:Nat}:KB q M 4≤BG q M:=by unfold BG;omega
theorem bVk {q M:Nat} (hM:5≤M) {A:List Tm} (hA:kQ q M A):zU q M (mN A):=by
 intro t ht
 obtain⟨u,hu,ht⟩:=List.mem_flatMap.1 ht
 obtain⟨h1,h2⟩:=hA u hu
 have key: ∀n:ByteArray,n.size≤M→dK q M (.mk n u.args)∧eN (.mk n u.args)≤BG q M∧(Tm.mk n u.args).depth≤1000:=fun n hn=>by
  obtain⟨m,ts⟩:=u
  have o:dK q M (.mk n ts):=nW.2 ⟨hn,(nW.1 h1).2⟩
  have d:(Tm.mk n ts).depth≤4:=by rw[nU,cS]at*;exact h2
  exact⟨o,Nat.le_trans (M9 o d) bVj,by show(Tm.mk n ts).depth≤1000;omega⟩
 unfold iO at ht
 split at ht
 ·obtain rfl:=List.mem_singleton.1 ht
  exact key _ (by show 4≤M;omega)
 ·split at ht
  ·obtain rfl:=List.mem_singleton.1 ht
   exact key _ (by show 4≤M;omega)
  ·simp at ht
theorem bVl {q M:Nat} {A:List Tm} (hA:kQ q M A) {t:Tm} (ht:dK q M t):kQ q M (fD A t):=by
 unfold fD
 split
 ·rename_i h
  intro u hu
  rcases List.mem_append.1 hu with hu|hu
  ·exact hA u hu
  ·obtain rfl:=List.mem_singleton.1 hu
   exact⟨ht,h.2⟩
 ·exact hA
theorem bVm {A:List Tm} {t:Tm}:A.length≤(fD A t).length∧(fD A t).length≤A.length+1:=by
 unfold fD
 split<;>simp
theorem wI {q M:Nat}: ∀{X A:List Tm},kQ q M A→(∀t∈X,dK q M t)→kQ q M (X.foldl fD A)
 | [],_,h,_=>h
 |t::X,A,h,hx=>by
  rw[List.foldl_cons]
  exact wI (bVl h (hx t (by simp))) fun u hu=>hx u (by simp[hu])
theorem aDs: ∀{X A:List Tm},A.length≤(X.foldl fD A).length∧(X.foldl fD A).length≤A.length+X.length
 | [],A=>by simp
 |t::X,A=>by
  have h1:=bVm (A:=A) (t:=t)
  have h2:=aDs (X:=X) (A:=fD A t)
  rw[List.foldl_cons,List.length_cons];omega
theorem aDt (t:Tm):ACall prog 44 [eT t] (fun r=>r=bl (lN t)):=by
 unfold lN
 have he: ∀b:ByteArray,b.size=0→b=⟨#[]⟩:=fun b h=>by
  obtain⟨d⟩:=b
  congr 1
  exact Array.eq_empty_of_size_eq_zero h
 by_cases h0:t.args.length=0
 ·by_cases h1:t.name.size=0
  ·have h1':=he _ h1
   rw[decide_eq_true h0,show decide (t.name.size≠0)=false from decide_eq_false (fun h=>h h1)]
   refine bF func44 call44 rfl (by simp[ntmps44]) ?_;simp only[ntmps44,results44]
   repeat' (first|(refine aC fun _ _=>?_)|refine zHg ?_|(refine aU [] ?_;simp[go_sem,h0,h1'])|simp(disch:=omega) [go_sem,h0,h1'])
  ·have h1': ¬t.name=⟨#[]⟩:=fun h=>h1 (by rw[h];rfl)
   by_cases h2:65≤bt t.name 0
   ·by_cases h3:bt t.name 0≤90
    ·rw[decide_eq_true h0,decide_eq_true (show t.name.size≠0 from h1),decide_eq_true h2,decide_eq_true h3]
     refine bF func44 call44 rfl (by simp[ntmps44]) ?_;simp only[ntmps44,results44]
     repeat' (first|(refine aC fun _ _=>?_)|refine zHg ?_|(refine aU [] ?_;simp[go_sem,h0,h1,h1',h2,h3])|simp(disch:=omega) [go_sem,h0,h1,h1',h2,h3]|refine zAo ?_|fail)
    ·rw[decide_eq_true h0,decide_eq_true (show t.name.size≠0 from h1),decide_eq_true h2,decide_eq_false h3]
     refine bF func44 call44 rfl (by simp[ntmps44]) ?_;simp only[ntmps44,results44]
     repeat' (first|(refine aC fun _ _=>?_)|refine zHg ?_|(refine aU [] ?_;simp[go_sem,h0,h1,h1',h2,h3])|simp(disch:=omega) [go_sem,h0,h1,h1',h2,h3]|refine zAo ?_|fail)
   ·rw[decide_eq_true h0,decide_eq_true (show t.name.size≠0 from h1),decide_eq_false h2]
    refine bF func44 call44 rfl (by simp[ntmps44]) ?_;simp only[ntmps44,results44]
    repeat' (first|(refine aC fun _ _=>?_)|refine zHg ?_|(refine aU [] ?_;simp[go_sem,h0,h1,h1',h2])|simp(disch:=omega) [go_sem,h0,h1,h1',h2]|refine zAo ?_|fail)
 ·rw[decide_eq_false h0]
  refine bF func44 call44 rfl (by simp[ntmps44]) ?_;simp only[ntmps44,results44]
  repeat' (first|(refine aC fun _ _=>?_)|refine zHg ?_|(refine aU [] ?_;simp[go_sem,h0])|simp(disch:=omega) [go_sem,h0])
theorem aDu: ∀l:List Tm,l.length≤dR l
 | []=>by simp
 |t::r=>by have:=aDu r;rw[dR,List.length_cons];omega
theorem N9: ∀t:Tm,eN t≤2305843009213693952→ACall prog 23 [eT t] (fun r=>r= .sc (.string (eA t))):=by
 refine fX fun t ih hz=>?_
 obtain⟨n,ts⟩:=t
 simp only[cS]at ih
 rw[tH]at hz
 rw[eA]
 have hsz: ∀i,(iM (n++⟨#[40]⟩) (ts.take i)).size≤n.size+1+dR ts:=fun i=>by
  rw[M2 fun t _=>aC4 t,wA]
  have h1:(⟨#[40]⟩:ByteArray).size=1:=rfl
  have:=bUv (ts:=ts) (i:=i)
  omega
 have hs0:iM (n++⟨#[40]⟩) []=n++⟨#[40]⟩:=rfl
 refine bF func23 call23 rfl (by simp[ntmps23]) ?_;simp only[ntmps23,results23]
 repeat' (first|(refine aC fun _ _=>?_)|refine zHg ?_|simp(disch:=omega) [go_sem]|refine zAo ?_|fail)
 refine cL [1,10] [] (fun i:Nat=> [(11,nt .i64 i),(3,.sc (.string (iM (n++⟨#[40]⟩) (ts.take i))))]) (fun i:Nat=> []) (fun i:Nat=>ts.length - i) (fun i:Nat=>i≤ts.length) (0) (Le.sub4 rfl (by simp[go_sem,hs0,List.take_zero])) ⟨?_⟩ ?_
 ·exact Nat.zero_le _
 intro i hi AA hAA;simp only[kL,Nat.reduceBEq,Nat.reduceEqDiff,if_true,if_false,List.cons_append,List.nil_append,List.append_nil]
 have h1:=hsz i
 have hll:=aDu ts
 by_cases hlt:i<ts.length
 ·have hm:=aC7 (List.getElem_mem hlt)
  have hu:=ih ts[i] (List.getElem_mem hlt) (by omega)
  have hn:=bUu (a:=n++⟨#[40]⟩) hlt
  have h2:=aC4 ts[i]
  generalize iM (n++⟨#[40]⟩) (ts.take i)=A at*
  generalize eA ts[i]=B at*
  repeat' (first|(refine aC fun _ _=>?_)|refine zHg ?_|refine aV rfl (hu) (by simp) ?_|(refine(hAA.next (i+1) (Le.sub4 rfl (by simp[go_sem,hn])) (by(try dsimp only);omega) ?_))|simp(disch:=omega) [go_sem,hlt]|refine zAo ?_|fail)
  all_goals(first|omega|skip)
  exact⟨by omega⟩
 ·obtain rfl:i=ts.length:=by omega
  rw[List.take_length]at*
  generalize iM (n++⟨#[40]⟩) ts=A at*
  repeat' (first|(refine aC fun _ _=>?_)|refine zHg ?_|(refine aU [] ?_;simp[go_sem])|simp(disch:=omega) [go_sem]|refine zAo ?_|fail)
theorem aDv {q M:Nat} (hq:q≤1000000): ∀t:Tm,dK q M t→t.depth≤1000000→ACall prog 24 [eT t] (fun r=>r=nt .i64 t.depth):=by
 refine fX fun t ih ho hs=>?_
 obtain⟨s,ts⟩:=t
 simp only[cS]at ih
 obtain⟨-,hl,ho⟩:=nW.1 ho
 have ho:=rU.1 ho
 have hda: ∀t∈ts,t.depth+1≤(Tm.mk s ts).depth:=fun t ht=>M8 ht
 rw[nU]at*
 simp only[cS]at*
 have hdi: ∀i,dV (ts.take i)≤dV ts:=fun i=>by
  have:=K8 (ts.take i) (ts.drop i)
  rw[List.take_append_drop]at this;omega
 refine bF func24 call24 rfl (by simp[ntmps24]) ?_;simp only[ntmps24,results24]
 repeat' (first|(refine aC fun _ _=>?_)|refine zHg ?_|simp(disch:=omega) [go_sem])
 refine cL [1,7] [] (fun i:Nat=> [(8,nt .i64 i),(3,nt .i64 (dV (ts.take i)))]) (fun i:Nat=> []) (fun i:Nat=>ts.length - i) (fun i:Nat=>i≤ts.length) (0) (Le.sub4 rfl (by simp[go_sem,dV,List.take_zero])) ⟨?_⟩ ?_
 ·exact Nat.zero_le _
 intro i hi AA hAA;simp only[kL,Nat.reduceBEq,Nat.reduceEqDiff,if_true,if_false,List.cons_append,List.nil_append,List.append_nil]
 have hd1:=hdi i
 by_cases hlt:i<ts.length
 ·have hu:=ih ts[i] (List.getElem_mem hlt) (ho _ (List.getElem_mem hlt)) (by have:=hda _ (List.getElem_mem hlt);omega)
  have hn:=bTt hlt
  repeat' (first|(refine aC fun _ _=>?_)|refine zHg ?_|refine aV rfl (hu) (by simp) ?_|(refine(hAA.next (i+1) (Le.sub4 rfl (by simp[go_sem,hn,bTv])) (by(try dsimp only);omega) ?_))|simp(disch:=omega) [go_sem,hlt])
  all_goals(first|omega|skip)
  exact⟨by omega⟩
 ·obtain rfl:i=ts.length:=by omega
  rw[List.take_length]at*
  repeat' (first|(refine aC fun _ _=>?_)|refine zHg ?_|(refine aU [] ?_;simp[go_sem])|simp(disch:=omega) [go_sem])
theorem aDw {s:List Bd} {n:ByteArray} {i:Nat} (h:i<s.length) (he:s[i].v=n) (hn: ∀(k:Nat) (hk:k<s.length),k<i→ ¬s[k].v=n):jS s n=some s[i].t:=by
 have:s.find? (fun b=>decide (b.v=n))=some s[i]:=by
  rw[List.find?_eq_some_iff_getElem]
  exact⟨by simpa using he,i,h,rfl,fun j hj=>by simpa using hn j (by omega) hj⟩
 unfold jS
 rw[this];rfl
theorem aDx {s:List Bd} {n:ByteArray} (hn: ∀(k:Nat) (hk:k<s.length),k<s.length→ ¬s[k].v=n):jS s n=none:=by
 have:s.find? (fun b=>decide (b.v=n))=none:=by
  rw[List.find?_eq_none]
  intro x hx
  obtain⟨k,hk,rfl⟩:=List.mem_iff_getElem.1 hx
  simpa using hn k hk hk
 unfold jS
 rw[this];rfl
def pL (s:List Bd) (ts a:List Tm):Option (List Tm):=(jA ts s).map fun l=>a++l
theorem aDy {s:List Bd} {t:Tm} {ts a:List Tm}:pL s (t::ts) a=if(fC t s).2=true then pL s ts (a++ [(fC t s).1])else none:=by
 unfold pL
 rw[M6]
 split
 ·cases jA ts s<;>simp
 ·rfl
theorem bVn (s:List Bd) (le fu:Bool) {q M:Nat} (hq:q≤1000000): ∀t:Tm,dK q M t→ACall prog 26 [eT t,.list false fu (s.map vZ)] (fun r=>r= .tup [eT (fC t s).1,bl (fC t s).2]):=by
 refine fX fun t ih ho=>?_
 obtain⟨n,ts⟩:=t
 simp only[cS]at ih
 obtain⟨-,hl,ho⟩:=nW.1 ho
 have ho:=rU.1 ho
 have hv:=aDt (.mk n ts)
 rw[aC9]
 cases hU:lN (.mk n ts)
 ·rw[hU]at hv
  simp only[Bool.false_eq_true,if_false]
  cases hG:jA ts s with
  |none=>
   show ACall _ _ _ (fun r=>r= .tup [eT (.mk n ts),bl false])
   refine bF func26 call26 rfl (by simp[ntmps26]) ?_;simp only[ntmps26,results26]
   repeat' (first|(refine aC fun _ _=>?_)|refine zHg ?_|refine aV rfl (hv) (by simp) ?_|simp(disch:=omega) [go_sem])
   refine cL [1,2,4,7,38] [7,900,9] (fun y:Nat×List Tm=> [(39,nt .i64 y.1)]) (fun y:Nat×List Tm=>(7,⟨false,false,false,2,[.agg [.sc (.string n),if y.2.length=0 then .list false true []else .ref 900 0 y.2.length]],0⟩)::(if y.2.length=0 then[]else[(900,⟨true,false,false,2,y.2.map aL,0⟩)])) (fun y:Nat×List Tm=>ts.length - y.1) (fun y:Nat×List Tm=>y.1≤ts.length∧y.2.length=y.1∧pL s (ts.drop y.1) y.2=none) ((0,[])) (Le.sub4 rfl (by simp[go_sem])) ⟨?_⟩ ?_
   ·exact⟨Nat.zero_le _,rfl,by unfold pL;rw[List.drop_zero,hG];rfl⟩
   intro⟨i,a⟩ ⟨hi,ha,hinv⟩ AA hAA;simp only[kL,Nat.reduceBEq,Nat.reduceEqDiff,if_true,if_false,List.cons_append,List.nil_append,List.append_nil]
   dsimp only at*
   by_cases hlt:i<ts.length
   ·have hu:=ih _ (List.getElem_mem hlt) (ho _ (List.getElem_mem hlt))
    rw[List.drop_eq_getElem_cons hlt,aDy]at hinv
    generalize fC ts[i] s=x at*
    obtain⟨x,b⟩:=x
    dsimp only at*
    cases b
    ·by_cases h0:i=0
     ·subst h0
      obtain rfl:=List.eq_nil_of_length_eq_zero ha
      repeat' (first|(refine aC fun _ _=>?_)|refine zHg ?_|(refine aU [] ?_;simp[go_sem,hlt])|refine aV rfl (hu) (by simp) ?_|simp(disch:=omega) [go_sem,hlt])
     ·repeat' (first|(refine aC fun _ _=>?_)|refine zHg ?_|(refine aU [] ?_;simp[go_sem,hlt,h0,ha])|refine aV rfl (hu) (by simp) ?_|simp(disch:=omega) [go_sem,hlt,h0,ha])
    ·by_cases h0:i=0
     ·subst h0
      obtain rfl:=List.eq_nil_of_length_eq_zero ha
      repeat' (first|(refine aC fun _ _=>?_)|refine zHg ?_|refine aV rfl (hu) (by simp) ?_|(refine(hAA.next ((0+1,[x])) (Le.renSub [(59,900)] [(900,59)] (by simp[go_sem]) (by simp[go_sem]) (Le.sub4 rfl (by simp[go_sem]))) (by(try dsimp only);omega) ?_))|simp(disch:=omega) [go_sem,hlt])
      all_goals(first|omega|skip)
      exact⟨hlt,rfl,hinv⟩
     ·repeat' (first|(refine aC fun _ _=>?_)|refine zHg ?_|refine aV rfl (hu) (by simp) ?_|(refine(hAA.next ((i+1,a++ [x])) (Le.sub4 rfl (by simp[go_sem,ha])) (by(try dsimp only);omega) ?_))|simp(disch:=omega) [go_sem,hlt,h0,ha]|refine zAo ?_|fail)
      all_goals(first|omega|skip)
      exact⟨hlt,by simp[ha],hinv⟩
   ·obtain rfl:i=ts.length:=by omega
    rw[List.drop_length]at hinv
    simp[pL,zO]at hinv
  |some l=>
   show ACall _ _ _ (fun r=>r= .tup [eT (.mk n l),bl true])
   have hll:=M7 hG
   refine ACall.looseT (x:= .agg [.sc (.string n),.list false (decide (ts.length=0)) (l.map aL)]) rfl ?_
   refine bF func26 call26 rfl (by simp[ntmps26]) ?_;simp only[ntmps26,results26]
   repeat' (first|(refine aC fun _ _=>?_)|refine zHg ?_|refine aV rfl (hv) (by simp) ?_|simp(disch:=omega) [go_sem])
   refine cL [1,2,4,7,38] [7,900,9] (fun y:Nat×List Tm=> [(39,nt .i64 y.1)]) (fun y:Nat×List Tm=>(7,⟨false,false,false,2,[.agg [.sc (.string n),if y.2.length=0 then .list false true []else .ref 900 0 y.2.length]],0⟩)::(if y.2.length=0 then[]else[(900,⟨true,false,false,2,y.2.map aL,0⟩)])) (fun y:Nat×List Tm=>ts.length - y.1) (fun y:Nat×List Tm=>y.1≤ts.length∧y.2.length=y.1∧pL s (ts.drop y.1) y.2=some l) ((0,[])) (Le.sub4 rfl (by simp[go_sem])) ⟨?_⟩ ?_
   ·exact⟨Nat.zero_le _,rfl,by unfold pL;rw[List.drop_zero,hG];rfl⟩
   intro⟨i,a⟩ ⟨hi,ha,hinv⟩ AA hAA;simp only[kL,Nat.reduceBEq,Nat.reduceEqDiff,if_true,if_false,List.cons_append,List.nil_append,List.append_nil]
   dsimp only at*
   by_cases hlt:i<ts.length
   ·have hu:=ih _ (List.getElem_mem hlt) (ho _ (List.getElem_mem hlt))
    rw[List.drop_eq_getElem_cons hlt,aDy]at hinv
    generalize fC ts[i] s=x at*
    obtain⟨x,b⟩:=x
    dsimp only at*
    cases b
    ·cases hinv
    ·by_cases h0:i=0
     ·subst h0
      obtain rfl:=List.eq_nil_of_length_eq_zero ha
      repeat' (first|(refine aC fun _ _=>?_)|refine zHg ?_|refine aV rfl (hu) (by simp) ?_|(refine(hAA.next ((0+1,[x])) (Le.renSub [(59,900)] [(900,59)] (by simp[go_sem]) (by simp[go_sem]) (Le.sub4 rfl (by simp[go_sem]))) (by(try dsimp only);omega) ?_))|simp(disch:=omega) [go_sem,hlt])
      all_goals(first|omega|skip)
      exact⟨hlt,rfl,hinv⟩
     ·repeat' (first|(refine aC fun _ _=>?_)|refine zHg ?_|refine aV rfl (hu) (by simp) ?_|(refine(hAA.next ((i+1,a++ [x])) (Le.sub4 rfl (by simp[go_sem,ha])) (by(try dsimp only);omega) ?_))|simp(disch:=omega) [go_sem,hlt,h0,ha]|refine zAo ?_|fail)
      all_goals(first|omega|skip)
      exact⟨hlt,by simp[ha],hinv⟩
   ·obtain rfl:i=ts.length:=by omega
    rw[List.drop_length]at hinv
    simp only[pL,zO,Option.map_some,List.append_nil,Option.some.injEq]at hinv
    subst hinv
    by_cases h0:ts.length=0
    ·obtain rfl:=List.eq_nil_of_length_eq_zero (ha.trans h0)
     repeat' (first|(refine aC fun _ _=>?_)|refine zHg ?_|(refine aU [] ?_;simp[go_sem,h0])|simp(disch:=omega) [go_sem,h0])
    ·repeat' (first|(refine aC fun _ _=>?_)|refine zHg ?_|(refine aU [] ?_;simp[go_sem,h0,ha])|simp(disch:=omega) [go_sem,h0,ha])
 ·rw[hU]at hv
  simp only[if_true]
  clear ih ho
  generalize hR:rT (.mk n ts) (jS s n)=R
  refine ACall.bound (i:=1) rfl call26 fun hb=>?_
  rw[List.length_map]at hb
  have hb:s.length≤140737488355328:=hb
  refine bF func26 call26 rfl (by simp[ntmps26]) ?_;simp only[ntmps26,results26]
  repeat' (first|(refine aC fun _ _=>?_)|refine zHg ?_|refine aV rfl (hv) (by simp) ?_|simp(disch:=omega) [go_sem])
  refine cL [1,2,4,14] [] (fun i:Nat=> [(15,nt .i64 i)]) (fun i:Nat=> []) (fun i:Nat=>s.length - i) (fun i:Nat=>i≤s.length∧ ∀(k:Nat) (hk:k<s.length),k<i→ ¬s[k].v=n) (0) (Le.sub4 rfl (by simp[go_sem])) ⟨?_⟩ ?_
  ·exact⟨Nat.zero_le _,fun k _ hk=>absurd hk (Nat.not_lt_zero _)⟩
  intro i ⟨hi,hn⟩ AA hAA;simp only[kL,Nat.reduceBEq,Nat.reduceEqDiff,if_true,if_false,List.cons_append,List.nil_append,List.append_nil]
  by_cases hlt:i<s.length
  ·by_cases hq:s[i].v=n
   ·rw[aDw hlt hq hn]at hR
    subst hR
    repeat' (first|(refine aC fun _ _=>?_)|refine zHg ?_|(refine aU [] ?_;simp[go_sem,hlt,hq,rT])|simp(disch:=omega) [go_sem,hlt,hq,rT]|refine zDr 8 aT ?_|fail)
   ·repeat' (first|(refine aC fun _ _=>?_)|refine zHg ?_|(refine(hAA.next (i+1) (Le.sub4 rfl (by simp[go_sem])) (by(try dsimp only);omega) ?_))|simp(disch:=omega) [go_sem,hlt,hq]|refine zDr 8 aT ?_|fail)
    all_goals(first|omega|skip)
    exact⟨hlt,fun k hk hki=>by rcases Nat.lt_or_eq_of_le (Nat.le_of_lt_succ hki)with h|rfl;exact hn k hk h;exact hq⟩
  ·obtain rfl:i=s.length:=by omega
   rw[aDx hn]at hR
   subst hR
   repeat' (first|(refine aC fun _ _=>?_)|refine zHg ?_|(refine aU [] ?_;simp[go_sem,rT])|simp(disch:=omega) [go_sem,rT])
theorem bVo (a b:Tm):ACall prog 42 [eT a,eT b] (fun r=>r=bl (decide (a=b))):=by
 have h:=L4 a b
 have e:mK a b=decide (a=b):=by
  by_cases hab:a=b
  ·rw[decide_eq_true hab];exact(qM a b).2 hab
  ·rw[decide_eq_false hab]
   cases hq:mK a b
   ·rfl
   ·exact absurd ((qM a b).1 hq) hab
 rw[←e]
 exact h
def rW (ps ts:List Tm) (s:List Bd):Bool→List Bd×Bool
 |true=>iN ps ts s
 |false=>(s,false)
theorem bVp {p:Tm} {ps:List Tm} {t:Tm} {ts:List Tm} {s:List Bd}:rW (p::ps) (t::ts) s true=rW ps ts (dW p t s).1 (dW p t s).2:=by
 show iN _ _ _=_
 rw[M4]
 generalize dW p t s=r
 obtain⟨a,b⟩:=r
 cases b<;>rfl
theorem bVq: ∀(p t:Tm) (s:List Bd),(dW p t s).1.length≤s.length+p.size:=by
 refine fX fun p ih t s=>?_
 obtain⟨n,ps⟩:=p
 simp only[cS]at ih
 rw[M3]
 have hp:=rL (.mk n ps)
 split
 ·cases jS s n with
  |some u=>show s.length≤_;omega
  |none=>show(s++ [⟨n,t⟩]:List Bd).length≤_;rw[List.length_append];simp;omega
 ·split
  ·rw[iK,cS]
   have: ∀(ps ts:List Tm) (s:List Bd),(∀p∈ps,∀(t:Tm) (s:List Bd),(dW p t s).1.length≤s.length+p.size)→(iN ps ts s).1.length≤s.length+cE ps:=by
    intro ps
    induction ps with
    |nil=>intro ts s _;rw[M5];simp
    |cons p ps ihp=>
     intro ts s hp
     cases ts with
     |nil=>rw[iN];simp
     |cons t ts=>
      have a2:=hp p (by simp) t s
      rw[M4,cE]
      split
      ·have:=ihp ts (dW p t s).1 fun q hq=>hp q (by simp[hq])
       omega
      ·omega
   have:=this ps t.args s ih
   omega
  ·simp
theorem bVr: ∀(p t:Tm) (s:List Bd),p.size≤1000000→s.length+p.size≤1000000→ACall prog 43 [eT p,eT t,.list false false (s.map vZ)] (fun r=>r= .tup [.list false false ((dW p t s).1.map vZ),bl (dW p t s).2]):=by
 refine fX fun p ih t s hz hs=>?_
 obtain⟨n,ps⟩:=p
 obtain⟨m,ts⟩:=t
 simp only[cS]at ih
 have hv:=aDt (.mk n ps)
 rw[M3,qK,cS]
 cases hU:lN (.mk n ps)
 ·rw[hU]at hv
  simp only[Bool.false_eq_true,if_false]
  by_cases hc:n=m∧ps.length=ts.length
  ·rw[if_pos hc]
   obtain⟨rfl,hl⟩:=hc
   generalize hG:iN ps ts s=G
   refine bF func43 call43 rfl (by simp[ntmps43]) ?_;simp only[ntmps43,results43]
   repeat' (first|(refine aC fun _ _=>?_)|refine zHg ?_|refine aV rfl (hv) (by simp) ?_|simp(disch:=omega) [go_sem,hl])
   refine cL [3,4] [] (fun y:Nat×List Bd×Bool=> [(10,nt .i64 y.1),(2,.list false false (y.2.1.map vZ)),(9,bl y.2.2)]) (fun y:Nat×List Bd×Bool=> []) (fun y:Nat×List Bd×Bool=>ts.length - y.1) (fun y:Nat×List Bd×Bool=>y.1≤ts.length∧y.2.1.length+cE (ps.drop y.1)≤1000000∧rW (ps.drop y.1) (ts.drop y.1) y.2.1 y.2.2=G) ((0,s,true)) (Le.sub4 rfl (by simp[go_sem])) ⟨?_⟩ ?_
   ·exact⟨Nat.zero_le _,by rw[List.drop_zero];rw[iK,cS]at hs;show s.length+cE ps≤_;omega,by rw[List.drop_zero,List.drop_zero];exact hG⟩
   intro⟨i,a,b⟩ ⟨hi,ha,hinv⟩ AA hAA;simp only[kL,Nat.reduceBEq,Nat.reduceEqDiff,if_true,if_false,List.cons_append,List.nil_append,List.append_nil]
   dsimp only at*
   have hlen:=qL ps
   rw[iK,cS]at hz
   by_cases hlt:i<ts.length
   ·have hlp:i<ps.length:=by omega
    cases b
    ·subst hinv
     repeat' (first|(refine aC fun _ _=>?_)|refine zHg ?_|(refine aU [] ?_;simp[go_sem,hlt,hlp,rW])|simp(disch:=omega) [go_sem,hlt,hlp,rW])
    ·rw[List.drop_eq_getElem_cons hlt,List.drop_eq_getElem_cons hlp,bVp]at hinv
     rw[List.drop_eq_getElem_cons hlp,cE]at ha
     have hsz:=zC hlp
     have hu:=ih ps[i] (List.getElem_mem hlp) ts[i] a (by omega) (by omega)
     have hbl:=bVq ps[i] ts[i] a
     generalize dW ps[i] ts[i] a=x at*
     obtain⟨x,c⟩:=x
     dsimp only at*
     repeat' (first|(refine aC fun _ _=>?_)|refine zHg ?_|refine cU rfl (hu) rfl (by simp) ?_|(refine(hAA.next ((i+1,x,c)) (Le.sub4 rfl (by simp[go_sem])) (by(try dsimp only);omega) ?_))|simp(disch:=omega) [go_sem,hlt,hlp,hl]|refine zDr 17 aT ?_|fail)
     all_goals(first|omega|skip)
     exact⟨hlt,by show x.length+cE (ps.drop (i+1))≤_;omega,hinv⟩
   ·obtain rfl:i=ts.length:=by omega
    have hd:ps.drop ts.length= []:=by rw[←hl,List.drop_length]
    rw[hd,List.drop_length]at hinv
    cases b
    ·subst hinv
     repeat' (first|(refine aC fun _ _=>?_)|refine zHg ?_|(refine aU [] ?_;simp[go_sem,hl,rW])|simp(disch:=omega) [go_sem,hl,rW])
    ·have hinv:(a,true)=G:=by rw[←hinv];show _=iN _ _ _;rw[M5]
     subst hinv
     repeat' (first|(refine aC fun _ _=>?_)|refine zHg ?_|(refine aU [] ?_;simp[go_sem,hl])|simp(disch:=omega) [go_sem,hl])
  ·rw[if_neg hc]
   refine ACall.looseT (x:= .list false true []) rfl ?_
   by_cases h1:n=m
   ·have h2: ¬ps.length=ts.length:=fun h=>hc ⟨h1,h⟩
    subst h1
    refine bF func43 call43 rfl (by simp[ntmps43]) ?_;simp only[ntmps43,results43]
    repeat' (first|(refine aC fun _ _=>?_)|refine zHg ?_|(refine zqn ?_ ?_<;>(intro h;first|(exfalso;omega)|(simp only[h,zT])))|(refine aU [] ?_;simp[go_sem,h2])|refine aV rfl (hv) (by simp) ?_|simp(disch:=omega) [go_sem,h2])
   ·refine bF func43 call43 rfl (by simp[ntmps43]) ?_;simp only[ntmps43,results43]
    repeat' (first|(refine aC fun _ _=>?_)|refine zHg ?_|(refine aU [] ?_;simp[go_sem,h1])|refine aV rfl (hv) (by simp) ?_|simp(disch:=omega) [go_sem,h1])
 ·rw[hU]at hv
  simp only[if_true]
  clear ih
  have h0:=rL (.mk n ps)
  generalize hR:rS s n (.mk m ts) (jS s n)=R
  refine bF func43 call43 rfl (by simp[ntmps43]) ?_;simp only[ntmps43,results43]
  repeat' (first|(refine aC fun _ _=>?_)|refine zHg ?_|refine aV rfl (hv) (by simp) ?_|simp(disch:=omega) [go_sem])
  refine cL [2,3,4,14] [3,4] (fun i:Nat=> [(15,nt .i64 i)]) (fun i:Nat=> [(3,⟨false,true,false,2,[eT (.mk n ps)],0⟩),(4,⟨false,true,false,2,[eT (.mk m ts)],0⟩)]) (fun i:Nat=>s.length - i) (fun i:Nat=>i≤s.length∧ ∀(k:Nat) (hk:k<s.length),k<i→ ¬s[k].v=n) (0) (by refine Le.trans ?_ (Le.frz 3 rfl (by show(0:Nat)≠1;decide));exact(by refine Le.trans ?_ (Le.frz 4 rfl (by show(0:Nat)≠1;decide));exact(Le.sub4 rfl (by simp[go_sem])))) ⟨?_⟩ ?_
  ·exact⟨Nat.zero_le _,fun k _ hk=>absurd hk (Nat.not_lt_zero _)⟩
  intro i ⟨hi,hn⟩ AA hAA;simp only[kL,Nat.reduceBEq,Nat.reduceEqDiff,if_true,if_false,List.cons_append,List.nil_append,List.append_nil]
  by_cases hlt:i<s.length
  ·by_cases hq:s[i].v=n
   ·rw[aDw hlt hq hn]at hR
    subst hR
    have hu:=bVo s[i].t (.mk m ts)
    repeat' (first|(refine aC fun _ _=>?_)|refine zHg ?_|(refine aU [] ?_;simp[go_sem,hlt,hq,rS])|refine cU rfl (hu) rfl (by simp) ?_|simp(disch:=omega) [go_sem,hlt,hq,rS]|refine zDr 8 aT ?_|fail)
   ·repeat' (first|(refine aC fun _ _=>?_)|refine zHg ?_|(refine(hAA.next (i+1) (Le.sub4 rfl (by simp[go_sem])) (by(try dsimp only);omega) ?_))|simp(disch:=omega) [go_sem,hlt,hq]|refine zDr 8 aT ?_|fail)
    all_goals(first|omega|skip)
    exact⟨hlt,fun k hk hki=>by rcases Nat.lt_or_eq_of_le (Nat.le_of_lt_succ hki)with h|rfl;exact hn k hk h;exact hq⟩
  ·obtain rfl:i=s.length:=by omega
   rw[aDx hn]at hR
   subst hR
   repeat' (first|(refine aC fun _ _=>?_)|refine zHg ?_|(with_reducible refine dA ?_;first|(exact cX)|(refine zSkip ?_)|(refine cY rfl ?_ ?_))|(with_reducible refine cZ ?_;first|(refine zDone ?_)|(refine aD 0 rfl (by decide+kernel) (by decide+kernel) rfl rfl rfl ?_)|(refine aD 1 rfl (by decide+kernel) (by decide+kernel) rfl rfl rfl ?_)|(refine aD 3 rfl (by decide+kernel) (by decide+kernel) rfl rfl rfl ?_)|(refine aD 4 rfl (by decide+kernel) (by decide+kernel) rfl rfl rfl ?_)|(refine aD 5 rfl (by decide+kernel) (by decide+kernel) rfl rfl rfl ?_)|(refine aD 9 rfl (by decide+kernel) (by decide+kernel) rfl rfl rfl ?_)|(refine aD 10 rfl (by decide+kernel) (by decide+kernel) rfl rfl rfl ?_)|(refine zAll ?_;show cG _ _ _ _ _ _ _))|with_reducible refine dD ?_|(refine aU [35] ?_;simp[go_sem,rS])|simp(disch:=omega) [go_sem,rS]|refine zAo ?_|refine zAny aT ?_|fail)
end Go.Proofs.YtbgckcdddlmiaaaDoor
