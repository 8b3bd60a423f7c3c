import Derived.Test.YtkbglbcphjmiiaaGreatDoorS2
import Derived.Test.YtkbglbcphjmiiaaGreatDoorA5
import Derived.Test.YtkbglbcphjmiiaaGreatDoorS1
set_option linter.unusedSimpArgs false
set_option linter.unusedVariables false
open Go.Proofs.Tryz
namespace Go.Proofs.YtkbglbcphjmiiaaGreatDoor
open Go.Ab
set_option maxRecDepth 100000
set_option maxHeartbeats 4000000
mutual
def nX:Tm→Tm→Bool
 | .mk s ts,b=>decide (s=b.name)&&lJ ts b.args
def lJ:List Tm→List Tm→Bool
 | [],[]=>true
 |t::r,u::q=>nX t u&&lJ r q
 |_,_=>false
end
theorem aFq {a b:Tm}:nX a b=(decide (a.name=b.name)&&lJ a.args b.args):=by cases a;rfl
theorem H3 (t:Tm):t= .mk t.name t.args:=by cases t;rfl
theorem aFr {ts us:List Tm} (h: ∀t∈ts,∀u,nX t u=true↔t=u):lJ ts us=true↔ts=us:=by
 induction ts generalizing us with
 |nil=>cases us<;>simp[lJ]
 |cons t r ih=>
  cases us with
  |nil=>simp[lJ]
  |cons u q=>
   simp only[lJ,Bool.and_eq_true,List.cons.injEq]
   rw[h t (by simp),ih (fun v hv=>h v (by simp[hv]))]
theorem sI: ∀a b:Tm,nX a b=true↔a=b:=by
 refine dS fun a ih b=>?_
 rw[aFq,Bool.and_eq_true,decide_eq_true_eq,aFr ih]
 constructor
 ·rintro⟨h1,h2⟩;rw[H3 a,H3 b,h1,h2]
 ·rintro rfl;exact⟨rfl,rfl⟩
theorem cEe (ts us:List Tm):lJ ts us=true↔ts=us:=aFr fun t _ u=>sI t u
theorem cEf {ts us:List Tm} (h:ts.length≠us.length):lJ ts us=false:=by
 rw[Bool.eq_false_iff];intro e;rw[(cEe ts us).1 e]at h;exact h rfl
theorem cEg (ts us:List Tm) (l f l' f':Bool) (h: ∀t∈ts,∀u,ACall prog 47 [eT t,eT u] (fun r=>r=bl (nX t u))):
 ACall prog 85 [.list l f (ts.map bO),.list l' f' (us.map bO)] (fun r=>r=bl (lJ ts us)):=by
 refine ACall.bound (i:=0) rfl call85 fun hb=>?_
 rw[List.length_map]at hb
 have hb:ts.length≤140737488355328:=hb
 by_cases hl:ts.length=us.length
 ·have hl':(ts.length:Int)=us.length:=by omega
  generalize hR:lJ ts us=R
  refine bD func85 call85 rfl (by simp[ntmps85]) ?_;simp only[ntmps85,results85]
  repeat' (first|(refine aC fun _ _=>?_)|refine zHg ?_|simp(disch:=omega) [go_sem,hl])
  refine bR [0,1,12] [] (fun i:Nat=> [(13,nt .i64 i)]) (fun i:Nat=> []) (fun i:Nat=>ts.length - i) (fun i:Nat=>i≤ts.length∧lJ (ts.drop i) (us.drop i)=R) (0) (Le.sub4 rfl (by simp[go_sem,hl])) ⟨?_⟩ ?_
  ·exact⟨Nat.zero_le _,by simpa using hR⟩
  intro i ⟨hi,hc⟩ AA hAA;simp only[kL,Nat.reduceBEq,Nat.reduceEqDiff,if_true,if_false,List.cons_append,List.nil_append,List.append_nil]
  by_cases h1:i<us.length
  ·have h2:i<ts.length:=by omega
   have hu:=h ts[i] (List.getElem_mem h2) us[i]
   rw[List.drop_eq_getElem_cons h2,List.drop_eq_getElem_cons h1]at hc
   simp only[lJ]at hc
   cases hq:nX ts[i] us[i]with
   |true=>
    rw[hq]at hu hc
    simp only[Bool.true_and]at hc
    repeat' (first|(refine aC fun _ _=>?_)|refine zHg ?_|refine cP rfl (hu) rfl (by simp) ?_|(refine(hAA.next (i+1) (Le.sub4 rfl (by simp[go_sem])) (by(try dsimp only);omega) ?_))|simp(disch:=omega) [go_sem,h1,h2]|refine zDr 10 bE ?_|fail)
    exact⟨⟨by omega,hc⟩⟩
   |false=>
    rw[hq]at hu hc
    simp only[Bool.false_and]at hc
    subst hc
    repeat' (first|(refine aC fun _ _=>?_)|refine zHg ?_|(refine aT [] ?_;simp[go_sem,h1,h2])|refine cP rfl (hu) rfl (by simp) ?_|simp(disch:=omega) [go_sem,h1,h2]|refine zDr 10 bE ?_|fail)
  ·have e1:us.drop i= []:=List.drop_of_length_le (by omega)
   have e2:ts.drop i= []:=List.drop_of_length_le (by omega)
   rw[e1,e2]at hc
   simp only[lJ]at hc
   subst hc
   repeat' (first|(refine aC fun _ _=>?_)|refine zHg ?_|(refine aT [] ?_;simp[go_sem,h1])|simp(disch:=omega) [go_sem,h1])
 ·rw[cEf hl]
  have hl': ¬(ts.length:Int)=us.length:=by omega
  refine bD func85 call85 rfl (by simp[ntmps85]) ?_;simp only[ntmps85,results85]
  repeat' (first|(refine aC fun _ _=>?_)|refine zHg ?_|(refine aT [] ?_;simp[go_sem,hl'])|simp(disch:=omega) [go_sem,hl'])
theorem V3: ∀a b:Tm,ACall prog 47 [eT a,eT b] (fun r=>r=bl (nX a b)):=by
 refine dS fun a ih b=>?_
 have h1:=cEg a.args b.args false false false false ih
 rw[aFq]
 generalize lJ a.args b.args=c at*
 clear ih
 refine bD func47 call47 rfl (by simp[ntmps47]) ?_;simp only[ntmps47,results47]
 by_cases h:a.name=b.name
 ·repeat' (first|(refine aC fun _ _=>?_)|refine zHg ?_|(refine aT [] ?_;simp[go_sem,h])|refine aP rfl (h1) (by simp) ?_|simp(disch:=omega) [go_sem,h])
 ·repeat' (first|(refine aC fun _ _=>?_)|refine zHg ?_|(refine aT [] ?_;simp[go_sem,h])|simp(disch:=omega) [go_sem,h])
def eA (x y:Int):Int:=if x≠0 then x else y
def TR (ab bc ac:Int):Prop:=ab≤0→bc≤0→ac≤0∧(ac=0→ab=0∧bc=0)
theorem tX {a b c x y z:Int} (h:TR a b c) (k:TR x y z):TR (eA a x) (eA b y) (eA c z):=by
 unfold TR eA at*
 intro h1 h2
 have ha:a≤0:=by split at h1<;>omega
 have hb:b≤0:=by split at h2<;>omega
 have hh:=h ha hb
 by_cases hc:c=0
 ·have:=hh.2 hc
  simp only[this,hc]at*
  simpa using k (by simpa using h1) (by simpa using h2)
 ·rw[if_pos hc]
  exact⟨hh.1,fun e=>absurd e hc⟩
theorem H4 (a b:Int):dI a b= -1∨dI a b=0∨dI a b=1:=by unfold dI;split<;>(try split)<;>simp
theorem sJ {a b:Int}:dI a b=0↔a=b:=by unfold dI;split<;>(try split)<;>simp<;>omega
theorem H5 (a b:Int):dI b a= -dI a b:=by unfold dI;split<;>split<;>(try split)<;>omega
theorem H6 (a b c:Int):TR (dI a b) (dI b c) (dI a c):=by
 unfold TR dI
 intro h1 h2
 split<;>(try split)<;>(split at h1<;>(try split at h1))<;>(split at h2<;>(try split at h2))<;>(try split)<;>(try split)<;>(try split)<;>(try split)<;>simp<;>omega
theorem aFs (a b c:ByteArray):TR (cD a b) (cD b c) (cD a c):=by
 intro h1 h2
 refine⟨aFm h1 h2,fun h=>?_⟩
 have e:=sH.1 h
 subst e
 have:=H1 a b
 have hz:cD a b=0:=by omega
 exact⟨hz,by omega⟩
theorem tY (a b:Tm):eF a b=eA (dI (kd a).1 (kd b).1) (eA (dI (kd a).2.1 (kd b).2.1) (eA (dI (kd a).2.2.1 (kd b).2.2.1) (eA (cD (kd a).2.2.2 (kd b).2.2.2) (eO a.args b.args)))):=by
 rw[aFo]
 generalize kd a=x
 generalize kd b=y
 obtain⟨x1,x2,x3,x4⟩:=x
 obtain⟨y1,y2,y3,y4⟩:=y
 dsimp only
 by_cases q1:x1=y1
 ·subst q1
  have e1:dI x1 x1=0:=sJ.2 rfl
  by_cases q2:x2=y2
  ·subst q2
   have e2:dI x2 x2=0:=sJ.2 rfl
   by_cases q3:x3=y3
   ·subst q3
    have e3:dI x3 x3=0:=sJ.2 rfl
    by_cases q4:x4=y4
    ·subst q4;simp[eA,e1,e2,e3,cEb]
    ·have:cD x4 y4≠0:=fun h=>q4 (sH.1 h)
     simp[eA,e1,e2,e3,q4,this]
   ·have:dI x3 y3≠0:=fun h=>q3 (sJ.1 h)
    simp[eA,e1,e2,q3,this]
  ·have:dI x2 y2≠0:=fun h=>q2 (sJ.1 h)
   simp[eA,e1,q2,this]
 ·have:dI x1 y1≠0:=fun h=>q1 (sJ.1 h)
  simp[eA,q1,this]
theorem yV (t u:Tm) (r q:List Tm):eO (t::r) (u::q)=eA (eF t u) (eO r q):=rfl
theorem tZ {x y:Int} (h:x= -1∨x=0∨x=1) (k:y= -1∨y=0∨y=1):eA x y= -1∨eA x y=0∨eA x y=1:=by
 unfold eA;split
 ·exact h
 ·exact k
theorem uA {x y x' y':Int} (h:x'= -x) (k:y'= -y):eA x' y'= -eA x y:=by
 unfold eA;subst h;subst k;split<;>split<;>omega
theorem H7 {x y:Int}:eA x y=0↔x=0∧y=0:=by unfold eA;split<;>omega
theorem cEh {ts:List Tm}: ∀{us:List Tm},(∀t∈ts,∀u,eF t u= -1∨eF t u=0∨eF t u=1)→eO ts us= -1∨eO ts us=0∨eO ts us=1:=by
 induction ts with
 |nil=>intro us _;cases us<;>simp[eO]
 |cons t r ih=>
  intro us h
  cases us with
  |nil=>simp[eO]
  |cons u q=>rw[yV];exact tZ (h t (by simp) u) (ih fun v hv=>h v (by simp[hv]))
theorem cEi: ∀a b:Tm,eF a b= -1∨eF a b=0∨eF a b=1:=by
 refine dS fun a ih b=>?_
 rw[tY]
 exact tZ (H4 _ _) (tZ (H4 _ _) (tZ (H4 _ _) (tZ (aFl _ _) (cEh ih))))
theorem cEj {ts:List Tm}: ∀{us:List Tm},(∀t∈ts,∀u,eF u t= -eF t u)→eO us ts= -eO ts us:=by
 induction ts with
 |nil=>intro us _;cases us<;>simp[eO]
 |cons t r ih=>
  intro us h
  cases us with
  |nil=>simp[eO]
  |cons u q=>rw[yV,yV];exact uA (h t (by simp) u) (ih fun v hv=>h v (by simp[hv]))
theorem cEk: ∀a b:Tm,eF b a= -eF a b:=by
 refine dS fun a ih b=>?_
 rw[tY,tY a b]
 exact uA (H5 _ _) (uA (H5 _ _) (uA (H5 _ _) (uA (H1 _ _) (cEj ih))))
theorem cEl {ts:List Tm}: ∀{us vs:List Tm},(∀t∈ts,∀u v,TR (eF t u) (eF u v) (eF t v))→TR (eO ts us) (eO us vs) (eO ts vs):=by
 induction ts with
 |nil=>
  intro us vs _
  cases us<;>cases vs<;>simp[eO,TR]
 |cons t r ih=>
  intro us vs h
  cases us with
  |nil=>intro h1;simp[eO]at h1
  |cons u q=>
   cases vs with
   |nil=>intro _ h1;simp[eO]at h1
   |cons v p=>
    simp only[yV]
    exact tX (h t (by simp) u v) (ih fun w hw=>h w (by simp[hw]))
theorem cEm: ∀a b c:Tm,TR (eF a b) (eF b c) (eF a c):=by
 refine dS fun a ih b c=>?_
 rw[tY,tY b c,tY a c]
 exact tX (H6 _ _ _) (tX (H6 _ _ _) (tX (H6 _ _ _) (tX (aFs _ _ _) (cEl ih))))
theorem cEn {a b:ByteArray} (h:a.size=b.size) (k: ∀i,i<a.size→bt a i=bt b i):a=b:=by
 obtain⟨⟨a⟩⟩:=a
 obtain⟨⟨b⟩⟩:=b
 have hl:a.length=b.length:=h
 congr 2
 refine List.ext_getElem hl fun i h1 h2=>?_
 have:=k i h1
 simp only[bt,List.getD_eq_getElem?_getD,List.getElem?_eq_getElem h1,List.getElem?_eq_getElem h2,Option.getD_some]at this
 exact UInt8.toNat_inj.1 (by omega)
theorem cEo {s s':ByteArray} (h1:(fZ s).2=true) (h2:(fZ s').2=true) (h:(fZ s).1=(fZ s').1):s=s':=by
 unfold fZ at*
 split at h1
 ·rename_i c1
  split at h2
  ·rename_i c2
   rw[if_pos c1,if_pos c2]at h
   obtain⟨⟨a1,a2,a3⟩,a4⟩:=c1
   obtain⟨⟨b1,b2,b3⟩,b4⟩:=c2
   simp only at h
   have d1: ∀i,i<s.size→48≤bt s i∧bt s i≤57:=fun i hi=>by
    have:=List.all_eq_true.1 a4 i (by simpa using hi);simpa using this
   have d2: ∀i,i<s'.size→48≤bt s' i∧bt s' i≤57:=fun i hi=>by
    have:=List.all_eq_true.1 b4 i (by simpa using hi);simpa using this
   have p0:=d1 0 (by omega)
   have q0:=d2 0 (by omega)
   have n1:s.size=1∨s.size=2∨s.size=3∨s.size=4:=by omega
   have n2:s'.size=1∨s'.size=2∨s'.size=3∨s'.size=4:=by omega
   have key:s.size=s'.size∧ ∀i,i<s.size→bt s i=bt s' i:=by
    rcases n1 with e1|e1|e1|e1<;>rcases n2 with e2|e2|e2|e2<;>rw[e1,e2]at h<;>simp only[jR]at h
    all_goals
     have p1:=fun hh=>d1 1 hh
     have p2:=fun hh=>d1 2 hh
     have p3:=fun hh=>d1 3 hh
     have q1:=fun hh=>d2 1 hh
     have q2:=fun hh=>d2 2 hh
     have q3:=fun hh=>d2 3 hh
     rw[e1]at p1 p2 p3
     rw[e2]at q1 q2 q3
     simp only[Nat.reduceLT,Nat.lt_irrefl,forall_const,false_implies,implies_true]at p1 p2 p3 q1 q2 q3
     refine⟨by omega,fun i hi=>?_⟩
     have hi4:i=0∨i=1∨i=2∨i=3:=by omega
     rcases hi4 with rfl|rfl|rfl|rfl<;>omega
   exact cEn key.1 key.2
  ·simp at h2
 ·simp at h1
theorem cEp {ts:List Tm}: ∀{us:List Tm},(∀t∈ts,∀u,eF t u=0↔t=u)→(eO ts us=0↔ts=us):=by
 induction ts with
 |nil=>intro us _;cases us<;>simp[eO]
 |cons t r ih=>
  intro us h
  cases us with
  |nil=>simp[eO]
  |cons u q=>rw[yV,H7,h t (by simp) u,ih fun v hv=>h v (by simp[hv])];simp
theorem cEq: ∀a b:Tm,eF a b=0↔a=b:=by
 refine dS fun a ih b=>?_
 rw[tY]
 simp only[H7,sJ,sH,cEp ih]
 constructor
 ·rintro⟨h1,h2,h3,h4,h5⟩
  have hn:a.name=b.name:=by
   rcases V2 a with⟨a1,a2,a3⟩|⟨a1,a2⟩
   ·rcases V2 b with⟨b1,b2,b3⟩|⟨b1,b2⟩
    ·rw[a3,b3]at h2
     exact cEo a2 b2 h2
    ·exact absurd (by rw[←h1,a3]) b1
   ·rcases V2 b with⟨b1,b2,b3⟩|⟨b1,b2⟩
    ·exact absurd (by rw[h1,b3]) a1
    ·rw[a2,b2]at h4;exact h4
  rw[H3 a,H3 b,hn,h5]
 ·rintro rfl;simp
open Go.Ab
structure Tot {α:Type} (c:α→α→Int):Prop where
 rng: ∀a b,c a b= -1∨c a b=0∨c a b=1
 neg: ∀a b,c b a= -c a b
 tr: ∀a b d,TR (c a b) (c b d) (c a d)
 zero: ∀a b,c a b=0↔a=b
theorem aFt:Tot eF:=⟨cEi,cEk,cEm,cEq⟩
theorem Tot.two {α β γ:Type} {c:β→β→Int} {d:γ→γ→Int} (hc:Tot c) (hd:Tot d) (f:α→β) (g:α→γ) (hi: ∀x y,f x=f y→g x=g y→x=y):
 Tot (fun x y=>eA (c (f x) (f y)) (d (g x) (g y))):=
 ⟨fun a b=>tZ (hc.rng _ _) (hd.rng _ _),fun a b=>uA (hc.neg _ _) (hd.neg _ _),fun a b e=>tX (hc.tr _ _ _) (hd.tr _ _ _),
  fun a b=>by
   rw[H7,hc.zero,hd.zero]
   exact⟨fun h=>hi _ _ h.1 h.2,fun h=>by rw[h];exact⟨rfl,rfl⟩⟩⟩
def eG {α:Type} (c:α→α→Int):List α→List α→Int
 | [],[]=>0
 | [],_::_=> -1
 |_::_,[]=>1
 |a::r,b::q=>eA (c a b) (eG c r q)
theorem aFu {α:Type} {c:α→α→Int} {a b:α} {r q:List α}:eG c (a::r) (b::q)=eA (c a b) (eG c r q):=rfl
theorem aFv {α:Type} {c:α→α→Int} (h:Tot c): ∀a b:List α,eG c a b= -1∨eG c a b=0∨eG c a b=1
 | [],[]=> .inr (.inl rfl)
 | [],_::_=> .inl rfl
 |_::_,[]=> .inr (.inr rfl)
 |a::r,b::q=>tZ (h.rng a b) (aFv h r q)
theorem aFw {α:Type} {c:α→α→Int} (h:Tot c): ∀a b:List α,eG c b a= -eG c a b
 | [],[]=>rfl
 | [],_::_=>rfl
 |_::_,[]=>rfl
 |a::r,b::q=>uA (h.neg a b) (aFw h r q)
theorem aFx {α:Type} {c:α→α→Int} (h:Tot c): ∀a b:List α,eG c a b=0↔a=b
 | [],[]=>by simp[eG]
 | [],_::_=>by simp[eG]
 |_::_,[]=>by simp[eG]
 |a::r,b::q=>by rw[aFu,H7,h.zero,aFx h r q,List.cons.injEq]
theorem aFy {α:Type} {c:α→α→Int} (h:Tot c): ∀a b d:List α,TR (eG c a b) (eG c b d) (eG c a d)
 | [],b,[]=>by
  cases b with
  |nil=>intro _ _;exact⟨by simp[eG],fun _=>⟨rfl,rfl⟩⟩
  |cons x r=>intro _ h2;simp[eG]at h2
 | [],b,y::q=>by
  cases b with
  |nil=>intro _ _;exact⟨by simp[eG],fun h3=>by simp[eG]at h3⟩
  |cons x r=>intro _ _;exact⟨by simp[eG],fun h3=>by simp[eG]at h3⟩
 |a::p,[],d=>by intro h1;simp[eG]at h1
 |a::p,b::r,[]=>by intro _ h2;simp[eG]at h2
 |a::p,b::r,y::q=>tX (h.tr a b y) (aFy h p r q)
theorem Tot.lex {α:Type} {c:α→α→Int} (h:Tot c):Tot (eG c):=⟨aFv h,aFw h,aFy h,aFx h⟩
section
variable {α : Type} {c : α → α → Int}
theorem Tot.self (h:Tot c) (a:α):c a a=0:=(h.zero a a).2 rfl
theorem Tot.le_tr (h:Tot c) {a b d:α} (h1:c a b≤0) (h2:c b d≤0):c a d≤0:=(h.tr a b d h1 h2).1
theorem Tot.lt_le (h:Tot c) {a b d:α} (h1:c a b<0) (h2:c b d≤0):c a d<0:=by
 obtain⟨p,q⟩:=h.tr a b d (by omega) h2
 rcases Int.lt_or_eq_of_le p with p|p
 ·exact p
 ·have:=(q p).1;omega
theorem Tot.le_lt (h:Tot c) {a b d:α} (h1:c a b≤0) (h2:c b d<0):c a d<0:=by
 obtain⟨p,q⟩:=h.tr a b d h1 (by omega)
 rcases Int.lt_or_eq_of_le p with p|p
 ·exact p
 ·have:=(q p).2;omega
theorem Tot.anti (h:Tot c) {a b:α} (h1:c a b≤0) (h2:c b a≤0):a=b:=by
 rw[h.neg a b]at h2
 exact(h.zero a b).1 (by omega)
def gA (c:α→α→Int) (l:List α):Prop:=l.Pairwise fun a b=>c a b<0
theorem yW (h:Tot c): ∀{a b:List α},gA c a→gA c b→(∀t,t∈a↔t∈b)→a=b
 | [],[],_,_,_=>rfl
 | [],y::q,_,_,hm=>absurd ((hm y).2 (by simp)) (by simp)
 |x::r,[],_,_,hm=>absurd ((hm x).1 (by simp)) (by simp)
 |x::r,y::q,ha,hb,hm=>by
  obtain⟨a1,a2⟩:=List.pairwise_cons.1 ha
  obtain⟨b1,b2⟩:=List.pairwise_cons.1 hb
  have e:x=y:=by
   rcases List.mem_cons.1 ((hm x).1 (by simp))with e|hx
   ·exact e
   ·rcases List.mem_cons.1 ((hm y).2 (by simp))with e|hy
    ·exact e.symm
    ·have u:=a1 y hy
     have v:=b1 x hx
     rw[h.neg x y]at v
     omega
  subst e
  congr 1
  refine yW h a2 b2 fun t=>⟨fun ht=>?_,fun ht=>?_⟩
  ·rcases List.mem_cons.1 ((hm t).1 (by simp[ht]))with rfl|k
   ·have:=a1 t ht;rw[h.self]at this;omega
   ·exact k
  ·rcases List.mem_cons.1 ((hm t).2 (by simp[ht]))with rfl|k
   ·have:=b1 t ht;rw[h.self]at this;omega
   ·exact k
def mB (c:α→α→Int) (t:α):List α→List α
 | []=> [t]
 |x::r=>if c x t<0 then x::mB c t r else if c x t=0 then x::r else t::x::r
def eH (c:α→α→Int) (l:List α):List α:=l.foldl (fun o t=>mB c t o) []
theorem V4 (h:Tot c) {t x:α}: ∀{o:List α},x∈mB c t o↔x=t∨x∈o
 | []=>by simp[mB]
 |y::r=>by
  rw[mB]
  split
  ·rw[List.mem_cons,V4 h,List.mem_cons]
   constructor
   ·rintro(e|e|e)<;>simp[e]
   ·rintro(e|e|e)<;>simp[e]
  ·split
   ·rename_i h0
    have:=(h.zero _ _).1 h0
    subst this
    simp
   ·simp
theorem aFz (h:Tot c) {t:α}: ∀{o:List α},gA c o→gA c (mB c t o)
 | [],_=>List.pairwise_singleton _ _
 |y::r,ho=>by
  obtain⟨a1,a2⟩:=List.pairwise_cons.1 ho
  rw[mB]
  split
  ·rename_i hlt
   refine List.pairwise_cons.2 ⟨fun x hx=>?_,aFz h a2⟩
   rcases(V4 h).1 hx with rfl|hx
   ·exact hlt
   ·exact a1 x hx
  ·split
   ·exact ho
   ·rename_i h1 h2
    have hty:c t y<0:=by rw[h.neg y t];omega
    refine List.pairwise_cons.2 ⟨fun x hx=>?_,ho⟩
    rcases List.mem_cons.1 hx with rfl|hx
    ·exact hty
    ·exact h.lt_le hty (Int.le_of_lt (a1 x hx))
theorem V5 (h:Tot c): ∀(l o:List α),gA c o→gA c (l.foldl (fun o t=>mB c t o) o)∧ ∀x,x∈l.foldl (fun o t=>mB c t o) o↔x∈l∨x∈o
 | [],o,ho=>⟨ho,fun x=>by simp⟩
 |t::r,o,ho=>by
  obtain⟨h1,h2⟩:=V5 h r (mB c t o) (aFz h ho)
  refine⟨h1,fun x=>?_⟩
  rw[List.foldl_cons,h2 x,V4 h,List.mem_cons]
  constructor
  ·rintro(e|e|e)<;>simp[e]
  ·rintro((e|e)|e)<;>simp[e]
theorem uB (h:Tot c) (l:List α):gA c (eH c l):=(V5 h l [] List.Pairwise.nil).1
theorem sK (h:Tot c) (l:List α) (x:α):x∈eH c l↔x∈l:=by
 unfold eH
 rw[(V5 h l [] List.Pairwise.nil).2 x]
 simp
theorem cEr (h:Tot c) {a b:List α} (hm: ∀x,x∈a↔x∈b):eH c a=eH c b:=
 yW h (uB h a) (uB h b) fun x=>by rw[sK h,sK h,hm x]
theorem aF0 {t:α}: ∀{o:List α},(mB c t o).length≤o.length+1
 | []=>Nat.le_refl _
 |y::r=>by
  rw[mB]
  have:=aF0 (t:=t) (o:=r)
  split
  ·simp;omega
  ·split<;>simp
theorem sL: ∀(l:List α),(eH c l).length≤l.length:=by
 have key: ∀(l o:List α),(l.foldl (fun o t=>mB c t o) o).length≤l.length+o.length:=by
  intro l
  induction l with
  |nil=>intro o;simp
  |cons t r ih=>
   intro o
   have h1:=ih (mB c t o)
   have h2:=aF0 (c:=c) (t:=t) (o:=o)
   simp only[List.foldl_cons,List.length_cons]
   omega
 intro l
 have:=key l []
 simpa[eH]using this
def dL (c:α→α→Int) (l:List α):Nat→List α
 |0=> []
 |i+1=>match l[i]? with
  |some t=>if i=0∨c (l.getD (i - 1) t) t≠0 then dL c l i++ [t]else dL c l i
  |none=>dL c l i
theorem V6 {l:List α} {i:Nat} (h:i<l.length):dL c l (i+1)=if i=0∨c (l.getD (i - 1) l[i]) l[i]≠0 then dL c l i++ [l[i]]else dL c l i:=by
 rw[dL,List.getElem?_eq_getElem h]
theorem V7 {l:List α} {i:Nat} (h:i<l.length) (x:α):l.getD (i - 1) x=l[i - 1]:=by
 rw[List.getD_eq_getElem?_getD,List.getElem?_eq_getElem (by omega)];rfl
theorem aF1 (h:Tot c) {l:List α} (hs:l.Pairwise fun a b=>c a b≤0): ∀i,i≤l.length→gA c (dL c l i)∧ ∀x,x∈dL c l i↔x∈l.take i
 |0,_=>⟨List.Pairwise.nil,fun x=>by simp[dL]⟩
 |i+1,hi=>by
  have hlt:i<l.length:=by omega
  obtain⟨h1,h2⟩:=aF1 h hs i (by omega)
  rw[V6 hlt,iT hlt,V7 hlt]
  split
  ·rename_i hc
   refine⟨List.pairwise_append.2 ⟨h1,by simp,fun x hx y hy=>?_⟩,fun x=>by simp only[List.mem_append,List.mem_singleton,h2]⟩
   simp only[List.mem_singleton]at hy
   subst hy
   rcases hc with rfl|hc
   ·simp[dL]at hx
   ·rw[h2,List.mem_take_iff_getElem]at hx
    obtain⟨k,hk,rfl⟩:=hx
    by_cases hi0:i=0
    ·subst hi0;omega
    have h3:=List.pairwise_iff_getElem.1 hs (i - 1) i (by omega) hlt (by omega)
    have h4:c l[k] l[i - 1]≤0:=by
     by_cases e:k=i - 1
     ·subst e;rw[h.self];exact Int.le_refl _
     ·exact List.pairwise_iff_getElem.1 hs k (i - 1) (by omega) (by omega) (by omega)
    exact h.le_lt h4 (by omega)
  ·rename_i hc
   simp only[not_or,Decidable.not_not]at hc
   refine⟨h1,fun x=>?_⟩
   rw[h2]
   simp only[List.mem_append,List.mem_singleton]
   constructor
   ·exact .inl
   ·rintro(k|rfl)
    ·exact k
    ·have e:=(h.zero _ _).1 hc.2
     rw[←e,List.mem_take_iff_getElem]
     exact⟨i - 1,by omega,rfl⟩
theorem cEs (h:Tot c) {l m:List α} (hp:m.Perm l) (hs:m.Pairwise fun a b=>c a b≤0):dL c m m.length=eH c l:=by
 obtain⟨h1,h2⟩:=aF1 h hs m.length (Nat.le_refl _)
 refine yW h h1 (uB h l) fun x=>?_
 rw[h2,List.take_length,sK h,hp.mem_iff]
theorem H8 {l:List α}: ∀i,(dL c l i).length≤i
 |0=>Nat.le_refl _
 |i+1=>by
  have:=H8 (l:=l) i
  rw[dL]
  split
  ·split
   ·simp;omega
   ·omega
  ·omega
def jI (c:α→α→Int) (b:α) (l:List α):α:=l.foldl (fun b x=>if c x b<0 then x else b) b
theorem yX (h:Tot c): ∀(l:List α) (b:α),(jI c b l=b∨jI c b l∈l)∧c (jI c b l) b≤0∧ ∀x∈l,c (jI c b l) x≤0
 | [],b=>⟨.inl rfl,by show c b b≤0;rw[h.self];omega,fun x hx=>by simp at hx⟩
 |y::r,b=>by
  show(jI c (if c y b<0 then y else b) r=b∨_)∧c (jI c (if c y b<0 then y else b) r) b≤0∧ ∀x∈y::r,c (jI c (if c y b<0 then y else b) r) x≤0
  by_cases hc:c y b<0
  ·rw[if_pos hc]
   obtain⟨h1,h2,h3⟩:=yX h r y
   refine⟨.inr ?_,h.le_tr h2 (by omega),fun x hx=>?_⟩
   ·rcases h1 with e|e
    ·show jI c (if c y b<0 then y else b) r∈y::r
     rw[if_pos hc,e];simp
    ·show jI c (if c y b<0 then y else b) r∈y::r
     rw[if_pos hc];simp[e]
   ·rcases List.mem_cons.1 hx with rfl|hx
    ·exact h2
    ·exact h3 x hx
  ·rw[if_neg hc]
   obtain⟨h1,h2,h3⟩:=yX h r b
   refine⟨?_,h2,fun x hx=>?_⟩
   ·rcases h1 with e|e
    ·exact .inl e
    ·refine .inr ?_
     show jI c (if c y b<0 then y else b) r∈y::r
     rw[if_neg hc];simp[e]
   ·rcases List.mem_cons.1 hx with rfl|hx
    ·refine h.le_tr h2 ?_
     rw[h.neg x b];omega
    ·exact h3 x hx
theorem cEt (h:Tot c) {a b:α} {l m:List α} (hm: ∀x,x∈a::l↔x∈b::m):jI c a l=jI c b m:=by
 obtain⟨a1,a2,a3⟩:=yX h l a
 obtain⟨b1,b2,b3⟩:=yX h m b
 have ha:jI c a l∈b::m:=(hm _).1 (by rcases a1 with e|e;rw[e];simp;simp[e])
 have hb:jI c b m∈a::l:=(hm _).2 (by rcases b1 with e|e;rw[e];simp;simp[e])
 refine h.anti ?_ ?_
 ·rcases List.mem_cons.1 hb with e|e
  ·rw[e];exact a2
  ·exact a3 _ e
 ·rcases List.mem_cons.1 ha with e|e
  ·rw[e];exact b2
  ·exact b3 _ e
end
open Go.Ab
set_option maxRecDepth 100000
instance:DecidableEq Tm:=fun a b=>decidable_of_iff (nX a b=true) (sI a b)
structure Bd where
 v:ByteArray
 t:Tm
abbrev bK (x:Bd):AV:= .agg [.sc (.string x.v),.sc (.string x.t.name),.list false false (x.t.args.map bO)]
structure Lt where
 neg:Bool
 atom:Tm
abbrev bW (x:Lt):AV:= .agg [bl x.neg,.sc (.string x.atom.name),.list false false (x.atom.args.map bO)]
structure Rl where
 head:Tm
 body:List Lt
abbrev bN (x:Rl):AV:= .agg [.sc (.string x.head.name),.list false false (x.head.args.map bO),.list false false (x.body.map bW)]
def mX (t:Tm):Bool:=decide (t.args.length=0)&&(decide (t.name.size≠0)&&(decide (65≤bt t.name 0)&&decide (bt t.name 0≤90)))
mutual
def fD:Tm→ByteArray
 | .mk n ts=>jS (n++⟨#[40]⟩) ts++⟨#[41]⟩
def jS:ByteArray→List Tm→ByteArray
 |a,[]=>a
 |a,t::ts=>jS (a++(fD t++⟨#[44]⟩)) ts
end
mutual
def fP:Tm→Nat
 | .mk n ts=>n.size+2+eS ts
def eS:List Tm→Nat
 | []=>0
 |t::ts=>fP t+1+eS ts
end
theorem vV {n:ByteArray} {ts:List Tm}:fP (.mk n ts)=n.size+2+eS ts:=by rw[fP]
theorem yY (a b:ByteArray):(a++b).size=a.size+b.size:=ByteArray.size_append
theorem V8: ∀{ts:List Tm} {a:ByteArray},(∀t∈ts,(fD t).size=fP t)→(jS a ts).size=a.size+eS ts
 | [],a,_=>by simp[jS,eS]
 |t::ts,a,h=>by
  rw[jS,V8 fun u hu=>h u (by simp[hu]),yY,yY,h t (by simp),eS]
  have:(⟨#[44]⟩:ByteArray).size=1:=rfl
  omega
theorem aF2: ∀t:Tm,(fD t).size=fP t:=by
 refine dS fun t ih=>?_
 obtain⟨n,ts⟩:=t
 simp only[cT]at ih
 rw[fD,yY,V8 ih,yY,vV]
 have h1:(⟨#[40]⟩:ByteArray).size=1:=rfl
 have h2:(⟨#[41]⟩:ByteArray).size=1:=rfl
 omega
theorem aF3: ∀{ts us:List Tm} {a:ByteArray},jS a (ts++us)=jS (jS a ts) us
 | [],_,_=>rfl
 |t::ts,us,a=>by rw[List.cons_append,jS,jS,aF3]
theorem cEu {ts:List Tm} {a:ByteArray} {i:Nat} (h:i<ts.length):jS a (ts.take (i+1))=jS a (ts.take i)++(fD ts[i]++⟨#[44]⟩):=by
 rw[iT h,aF3];rfl
theorem aF4: ∀{a b:List Tm},eS (a++b)=eS a+eS b
 | [],b=>by simp[eS]
 |t::r,b=>by rw[List.cons_append,eS,eS,aF4];omega
theorem cEv {ts:List Tm} {i:Nat}:eS (ts.take i)≤eS ts:=by
 have:=aF4 (a:=ts.take i) (b:=ts.drop i)
 rw[List.take_append_drop]at this;omega
theorem aF5: ∀{ts:List Tm} {t:Tm},t∈ts→fP t+1≤eS ts
 |u::r,t,h=>by
  rcases List.mem_cons.1 h with rfl|h
  ·rw[eS];omega
  ·have:=aF5 h;rw[eS];omega
def fH (s:List Bd) (n:ByteArray):Option Tm:=(s.find? fun b=>decide (b.v=n)).map Bd.t
def uC (s:List Bd) (n:ByteArray) (t:Tm):Option Tm→List Bd×Bool
 |some u=>(s,decide (u=t))
 |none=>(s++ [⟨n,t⟩],true)
def uD (t:Tm):Option Tm→Tm×Bool
 |some u=>(u,true)
 |none=>(t,false)
def aF6 (n:ByteArray) (ts:List Tm):Option (List Tm)→Tm×Bool
 |some l=>(.mk n l,true)
 |none=>(.mk n ts,false)
mutual
def eX:Tm→Tm→List Bd→List Bd×Bool
 | .mk n ps,t,s=>if mX (.mk n ps)=true then uC s n t (fH s n)else if n=t.name∧ps.length=t.args.length then jT ps t.args s else([],false)
def jT:List Tm→List Tm→List Bd→List Bd×Bool
 | [],_,s=>(s,true)
 |_::_,[],s=>(s,true)
 |p::ps,t::ts,s=>if(eX p t s).2=true then jT ps ts (eX p t s).1 else eX p t s
end
theorem V9 {n:ByteArray} {ps:List Tm} {t:Tm} {s:List Bd}:eX (.mk n ps) t s=if mX (.mk n ps)=true then uC s n t (fH s n)else if n=t.name∧ps.length=t.args.length then jT ps t.args s else([],false):=by rw[eX]
theorem W0 {p:Tm} {ps:List Tm} {t:Tm} {ts:List Tm} {s:List Bd}:jT (p::ps) (t::ts) s=if(eX p t s).2=true then jT ps ts (eX p t s).1 else eX p t s:=by rw[jT]
theorem W1 {ts:List Tm} {s:List Bd}:jT [] ts s=(s,true):=by rw[jT]
mutual
def gL:Tm→List Bd→Tm×Bool
 | .mk n ts,s=>if mX (.mk n ts)=true then uD (.mk n ts) (fH s n)else aF6 n ts (kP ts s)
def kP:List Tm→List Bd→Option (List Tm)
 | [],_=>some []
 |t::ts,s=>if(gL t s).2=true then(kP ts s).map fun l=>(gL t s).1::l else none
end
theorem aF7 {n:ByteArray} {ts:List Tm} {s:List Bd}:gL (.mk n ts) s=if mX (.mk n ts)=true then uD (.mk n ts) (fH s n)else aF6 n ts (kP ts s):=by rw[gL]
theorem W2 {t:Tm} {ts:List Tm} {s:List Bd}:kP (t::ts) s=if(gL t s).2=true then(kP ts s).map fun l=>(gL t s).1::l else none:=by rw[kP]
theorem H9 {s:List Bd}:kP [] s=some []:=by rw[kP]
theorem W3: ∀{ts:List Tm} {s:List Bd} {l:List Tm},kP ts s=some l→l.length=ts.length
 | [],s,l,h=>by rw[H9]at h;obtain rfl:=Option.some.inj h;rfl
 |t::ts,s,l,h=>by
  rw[W2]at h
  split at h
  ·cases hq:kP ts s with
   |none=>rw[hq]at h;cases h
   |some m=>
    rw[hq]at h
    obtain rfl:=Option.some.inj h
    simp[W3 hq]
  ·cases h
mutual
def eE (q M:Nat):Tm→Prop
 | .mk n ts=>n.size≤M∧ts.length≤q∧pU q M ts
def pU (q M:Nat):List Tm→Prop
 | []=>True
 |t::ts=>eE q M t∧pU q M ts
end
theorem pV {q M:Nat} {n:ByteArray} {ts:List Tm}:eE q M (.mk n ts)↔n.size≤M∧ts.length≤q∧pU q M ts:=by rw[eE]
theorem uE {q M:Nat}: ∀{l:List Tm},pU q M l↔ ∀t∈l,eE q M t
 | []=>by simp[pU]
 |t::r=>by rw[pU,uE];simp
def KB (q M:Nat):Nat→Nat
 |0=>0
 |k+1=>M+2+q*(KB q M k+1)
theorem aF8 {b:Nat}: ∀{l:List Tm},(∀t∈l,fP t≤b)→eS l≤l.length*(b+1)
 | [],_=>by simp[eS]
 |t::r,h=>by
  have h1:=h t (by simp)
  have h2:=aF8 (b:=b) (l:=r) fun u hu=>h u (by simp[hu])
  rw[eS,List.length_cons,Nat.succ_mul];omega
theorem W4 {n:ByteArray} {ts:List Tm} {t:Tm} (h:t∈ts):t.depth+1≤(Tm.mk n ts).depth:=by
 rw[pS (.mk n ts),cT]
 have: ∀{l:List Tm},t∈l→t.depth≤eV l:=by
  intro l
  induction l with
  |nil=>intro h;simp at h
  |cons u r ih=>
   intro h
   rw[eV]
   rcases List.mem_cons.1 h with rfl|h
   ·omega
   ·have:=ih h;omega
 have:=this h
 omega
theorem W5 {q M:Nat}: ∀{k:Nat} {t:Tm},eE q M t→t.depth≤k→fP t≤KB q M k
 |0,t,_,h=>by rw[pS]at h;omega
 |k+1,.mk n ts,h,hd=>by
  obtain⟨h1,h2,h3⟩:=pV.1 h
  have h4:=aF8 (b:=KB q M k) (l:=ts) fun t ht=>W5 (uE.1 h3 t ht) (by have:=W4 (n:=n) ht;omega)
  have h5:ts.length*(KB q M k+1)≤q*(KB q M k+1):=Nat.mul_le_mul_right _ h2
  rw[vV,KB];omega
theorem cEw {q M:Nat}: ∀{t:Tm},eE q M t→fP t≤t.size*(M+3):=by
 have key: ∀t:Tm,eE q M t→fP t+1≤t.size*(M+3):=by
  refine dS fun t ih h=>?_
  obtain⟨n,ts⟩:=t
  simp only[cT]at ih
  obtain⟨h1,h2,h3⟩:=pV.1 h
  have: ∀{l:List Tm},(∀t∈l,fP t+1≤t.size*(M+3))→eS l≤cU l*(M+3):=by
   intro l
   induction l with
   |nil=>intro _;simp[eS]
   |cons u r ih=>
    intro h
    have a:=h u (by simp)
    have b:=ih fun v hv=>h v (by simp[hv])
    rw[eS,cU,Nat.add_mul];omega
  have h4:=this fun t ht=>ih t ht (uE.1 h3 t ht)
  rw[vV,iA,cT,Nat.add_mul];omega
 exact fun {t} h=>by have:=key t h;omega
def mY (q M:Nat) (s:List Bd):Prop:= ∀b∈s,eE q M b.t∧b.t.depth≤3
theorem cEx {q M:Nat} {s:List Bd} (h:mY q M s) {n:ByteArray} {u:Tm} (hu:fH s n=some u):eE q M u∧u.depth≤3:=by
 unfold fH at hu
 cases hf:s.find? fun b=>decide (b.v=n)with
 |none=>rw[hf]at hu;cases hu
 |some b=>
  rw[hf]at hu
  obtain rfl:=Option.some.inj hu
  exact h b (List.mem_of_find?_eq_some hf)
theorem aF9 {q M:Nat}: ∀(p t:Tm) (s:List Bd),eE q M t→t.depth≤4→(mX p=true→t.depth≤3)→mY q M s→mY q M (eX p t s).1∧(eX p t s).1.length≤s.length+p.size:=by
 have key: ∀p:Tm,∀(t:Tm) (s:List Bd),eE q M t→t.depth≤4→(mX p=true→t.depth≤3)→mY q M s→mY q M (eX p t s).1∧(eX p t s).1.length≤s.length+p.size:=by
  refine dS fun p ih t s ht hd h3 hs=>?_
  obtain⟨n,ps⟩:=p
  simp only[cT]at ih
  rw[V9]
  have hp:=tV (.mk n ps)
  split
  ·rename_i hu
   cases fH s n with
   |some u=>exact⟨hs,by show s.length≤_;omega⟩
   |none=>
    show mY q M (s++ [⟨n,t⟩])∧(s++ [⟨n,t⟩]:List Bd).length≤_
    refine⟨fun b hb=>?_,by(try simp);omega⟩
    rcases List.mem_append.1 hb with hb|hb
    ·exact hs b hb
    ·obtain rfl:=List.mem_singleton.1 hb
     exact⟨ht,h3 hu⟩
  ·split
   ·obtain⟨m,ts⟩:=t
    simp only[cT]
    have hts:=uE.1 (pV.1 ht).2.2
    have hdt: ∀t∈ts,t.depth≤3:=fun t h=>by have:=W4 (n:=m) h;omega
    rw[iA,cT]
    have: ∀(ps ts:List Tm) (s:List Bd),(∀p∈ps,∀(t:Tm) (s:List Bd),eE q M t→t.depth≤4→(mX p=true→t.depth≤3)→mY q M s→mY q M (eX p t s).1∧(eX p t s).1.length≤s.length+p.size)→(∀t∈ts,eE q M t∧t.depth≤3)→mY q M s→
     mY q M (jT ps ts s).1∧(jT ps ts s).1.length≤s.length+cU ps:=by
     intro ps
     induction ps with
     |nil=>intro ts s _ _ h;rw[W1];exact⟨h,by simp⟩
     |cons p ps ihp=>
      intro ts s hp ht hs
      cases ts with
      |nil=>rw[jT];exact⟨hs,by simp⟩
      |cons t ts=>
       obtain⟨a1,a2⟩:=hp p (by simp) t s (ht t (by simp)).1 (Nat.le_succ_of_le (ht t (by simp)).2) (fun _=>(ht t (by simp)).2) hs
       rw[W0,cU]
       split
       ·obtain⟨b1,b2⟩:=ihp ts _ (fun z hz=>hp z (by simp[hz])) (fun u hu=>ht u (by simp[hu])) a1
        exact⟨b1,by omega⟩
       ·exact⟨a1,by omega⟩
    obtain⟨c1,c2⟩:=this ps ts s ih (fun t h=>⟨hts t h,hdt t h⟩) hs
    exact⟨c1,by omega⟩
   ·exact⟨fun b hb=>by simp at hb,by simp⟩
 exact key
theorem cEy {q M:Nat} {s:List Bd} (hs:mY q M s): ∀p:Tm,eE q M p→eE q M (gL p s).1∧(gL p s).1.depth≤p.depth+3∧fP (gL p s).1≤fP p+p.size*KB q M 3:=by
 refine dS fun p ih hp=>?_
 obtain⟨n,ts⟩:=p
 simp only[cT]at ih
 have h0:=tV (.mk n ts)
 have h0':KB q M 3≤(Tm.mk n ts).size*KB q M 3:=Nat.le_mul_of_pos_left _ h0
 rw[aF7]
 split
 ·cases hu:fH s n with
  |some u=>
   obtain⟨a,b⟩:=cEx hs hu
   exact⟨a,by show u.depth≤_;omega,by have:=W5 a b;show fP u≤_;omega⟩
  |none=>exact⟨hp,Nat.le_add_right _ _,Nat.le_add_right _ _⟩
 ·cases hl:kP ts s with
  |none=>exact⟨hp,Nat.le_add_right _ _,Nat.le_add_right _ _⟩
  |some l=>
   obtain⟨h1,h2,h3⟩:=pV.1 hp
   have: ∀(ts l:List Tm),(∀t∈ts,eE q M t→eE q M (gL t s).1∧(gL t s).1.depth≤t.depth+3∧fP (gL t s).1≤fP t+t.size*KB q M 3)→pU q M ts→kP ts s=some l→
    pU q M l∧eV l≤eV ts+3∧eS l≤eS ts+cU ts*KB q M 3:=by
    intro ts
    induction ts with
    |nil=>intro l _ _ h;rw[H9]at h;obtain rfl:=Option.some.inj h;exact⟨trivial,by simp[eV],by simp[eS]⟩
    |cons t ts iht=>
     intro l h ho hl
     rw[W2]at hl
     rw[pU]at ho
     split at hl
     ·cases hq:kP ts s with
      |none=>rw[hq]at hl;cases hl
      |some m=>
       rw[hq]at hl
       obtain rfl:=Option.some.inj hl
       obtain⟨a1,a2,a3⟩:=h t (by simp) ho.1
       obtain⟨b1,b2,b3⟩:=iht m (fun u hu=>h u (by simp[hu])) ho.2 hq
       refine⟨by rw[pU];exact⟨a1,b1⟩,?_,?_⟩
       ·rw[eV,eV];omega
       ·rw[eS,eS,cU,Nat.add_mul];omega
     ·cases hl
   obtain⟨c1,c2,c3⟩:=this ts l ih h3 hl
   show eE q M (.mk n l)∧(Tm.mk n l).depth≤_∧fP (.mk n l)≤_
   refine⟨pV.2 ⟨h1,by rw[W3 hl];exact h2,c1⟩,?_,?_⟩
   ·rw[pS,pS,cT,cT];omega
   ·rw[vV,vV,iA,cT,Nat.add_mul];omega
open Go.Ab
set_option maxRecDepth 100000
set_option maxHeartbeats 8000000
def aI (s:ByteArray):AV:= .sc (.string s)
mutual
def cX:Tm→List ByteArray
 | .mk s ts=>if ts.length=0 then[s]else cE ts
def cE:List Tm→List ByteArray
 | []=> []
 |t::r=>cX t++cE r
end
theorem lK {s:ByteArray} {ts:List Tm}:cX (.mk s ts)=if ts.length=0 then[s]else cE ts:=rfl
theorem W6: ∀a b:List Tm,cE (a++b)=cE a++cE b
 | [],b=>by simp[cE]
 |t::r,b=>by simp[cE,W6 r b]
theorem vW {ts:List Tm} {i:Nat} (h:i<ts.length):cE (ts.take (i+1))=cE (ts.take i)++cX ts[i]:=by
 rw[iT h,W6];simp[cE]
theorem I0 (ts:List Tm) (i:Nat):(cE (ts.take i)).length≤(cE ts).length:=by
 have:=W6 (ts.take i) (ts.drop i)
 rw[List.take_append_drop]at this
 simp only[this,List.length_append];omega
theorem cEz: ∀t:Tm,0<(cX t).length:=by
 refine dS fun t ih=>?_
 obtain⟨s,ts⟩:=t
 simp only[cT]at ih
 rw[lK]
 split
 ·simp
 ·cases ts with
  |nil=>simp at*
  |cons u r=>
   have:=ih u (by simp)
   simp only[cE,List.length_append];omega
theorem I1: ∀ts:List Tm,ts.length≤(cE ts).length
 | []=>Nat.le_refl _
 |t::r=>by
  have:=I1 r
  have:=cEz t
  simp only[cE,List.length_append,List.length_cons];omega
theorem cE0: ∀t:Tm,∀xs:List ByteArray,xs.length+(cX t).length≤1000000→MCall prog 69 [.ref 1000 0 xs.length,eT t] [(1000,⟨true,false,true,1,xs.map aI,0⟩)] (fun r o'=>r= .ref 1001 0 (xs++cX t).length∧o'= [(1001,⟨true,false,false,1,(xs++cX t).map aI,0⟩)]):=by
 refine dS fun t ih xs hb=>?_
 obtain⟨s,ts⟩:=t
 simp only[cT,yT]at*
 rw[lK]at*
 by_cases h0:ts.length=0
 ·rw[if_pos h0]at hb ⊢
  simp only[List.length_cons,List.length_nil]at hb
  refine cL func69 call69 rfl (by simp[ntmps69]) ?_;simp only[ntmps69,results69]
  repeat' (first|(refine aC fun _ _=>?_)|refine zHg ?_|simp(disch:=omega) [go_sem,h0]|refine zAo ?_|fail)
  refine cS ⟨28,[(4,.ref 1001 0 (xs++ [s]).length)],[(1001,⟨true,false,false,1,(xs++ [s]).map aI,0⟩)]⟩ [.ref 1001 0 (xs++ [s]).length] (Le.renSub [(15,1001)] [(1001,15)] (by simp[go_sem,aI]) (by simp[go_sem,aI]) (Le.sub4 rfl (by simp[go_sem,aI]))) (by simp[go_sem,aI]) ⟨by simp[gG],by simp⟩
 ·rw[if_neg h0]at hb ⊢
  have hle:=I0 ts
  have hge:=I1 ts
  refine cL func69 call69 rfl (by simp[ntmps69]) ?_;simp only[ntmps69,results69]
  repeat' (first|(refine aC fun _ _=>?_)|refine zHg ?_|simp(disch:=omega) [go_sem,h0])
  refine bR [17,18] [900,1000] (fun i:Nat=> [(19,nt .i64 i),(0,.ref 900 0 (xs++cE (ts.take i)).length)]) (fun i:Nat=> [(900,⟨true,false,false,1,(xs++cE (ts.take i)).map aI,0⟩)]) (fun i:Nat=>ts.length - i) (fun i:Nat=>i≤ts.length) (0) (by refine Le.trans ?_ (Le.move (i:=0) (T:=1000) (T':=900) rfl (by show(0:Nat)≠1;decide) rfl rfl rfl);exact(Le.sub4 rfl (by simp[go_sem,List.take_zero,cE]))) ⟨?_⟩ ?_
  ·exact Nat.zero_le _
  intro i hi AA hAA;simp only[kL,Nat.reduceBEq,Nat.reduceEqDiff,if_true,if_false,List.cons_append,List.nil_append,List.append_nil]
  by_cases hlt:i<ts.length
  ·have hn:=vW hlt
   have hl1:=hle (i+1)
   rw[hn]at hl1
   rw[List.length_append]at hl1
   have hu:=ih ts[i] (List.getElem_mem hlt) (xs++cE (ts.take i)) (by rw[List.length_append];omega)
   rw[List.append_assoc,←hn]at hu
   generalize xs++cE (ts.take i)=A at*
   repeat' (first|(refine aC fun _ _=>?_)|refine zHg ?_|simp(disch:=omega) [go_sem,hlt])
   refine bC [(1000,900)] [(900,1000)] 10000 _ _ (Fits.mk' (by simp[go_sem]) (by simp[go_sem])) (by simp[go_sem]) (by simp[go_sem]) (hu) (by simp[go_sem]) (by simp[go_sem]) ?_
   repeat' (first|refine zHg ?_|(refine(hAA.next (i+1) (Le.renSub [(11001,900)] [(900,11001)] (by simp[go_sem]) (by simp[go_sem]) (Le.sub4 rfl (by simp[go_sem]))) (by(try dsimp only);omega) ?_))|simp(disch:=omega) [go_sem,hlt])
   all_goals(first|omega|skip)
   exact⟨hlt⟩
  ·obtain rfl:i=ts.length:=by omega
   rw[List.take_length]
   repeat' (first|(refine aC fun _ _=>?_)|refine zHg ?_|simp(disch:=omega) [go_sem])
   refine cS ⟨28,[(4,.ref 1001 0 (xs++cE ts).length)],[(1001,⟨true,false,false,1,(xs++cE ts).map aI,0⟩)]⟩ [.ref 1001 0 (xs++cE ts).length] (Le.renSub [(900,1001)] [(1001,900)] (by simp[go_sem]) (by simp[go_sem]) (Le.sub4 rfl (by simp[go_sem]))) (by simp[go_sem]) ⟨by simp[gG],by simp⟩
theorem cE1 (t:Tm) (hb:(cX t).length≤1000000):ACall prog 69 [.list false true [],eT t] (fun r=>r= .own 1 ((cX t).map aI)):=by
 obtain⟨s,ts⟩:=t
 rw[lK]at*
 by_cases h0:ts.length=0
 ·rw[if_pos h0]at hb ⊢
  refine bD func69 call69 rfl (by simp[ntmps69]) ?_;simp only[ntmps69,results69]
  repeat' (first|(refine aC fun _ _=>?_)|refine zHg ?_|(refine aT [] ?_;simp[go_sem,h0,aI])|simp(disch:=omega) [go_sem,h0,aI])
 ·rw[if_neg h0]at hb ⊢
  have hle:=I0 ts
  have hge:=I1 ts
  refine bD func69 call69 rfl (by simp[ntmps69]) ?_;simp only[ntmps69,results69]
  repeat' (first|(refine aC fun _ _=>?_)|refine zHg ?_|simp(disch:=omega) [go_sem,h0])
  refine bR [17,18] [900] (fun i:Nat=> [(19,nt .i64 i),(0,.ref 900 0 (cE (ts.take i)).length)]) (fun i:Nat=> [(900,⟨true,false,false,1,(cE (ts.take i)).map aI,0⟩)]) (fun i:Nat=>ts.length - i) (fun i:Nat=>i≤ts.length) (0) (by refine Le.trans ?_ (Le.nil (i:=0) (T:=900) (es:=1) rfl);exact(Le.sub4 rfl (by simp[go_sem,List.take_zero,cE]))) ⟨?_⟩ ?_
  ·exact Nat.zero_le _
  intro i hi AA hAA;simp only[kL,Nat.reduceBEq,Nat.reduceEqDiff,if_true,if_false,List.cons_append,List.nil_append,List.append_nil]
  by_cases hlt:i<ts.length
  ·have hn:=vW hlt
   have hl1:=hle (i+1)
   rw[hn]at hl1
   rw[List.length_append]at hl1
   have hu:=cE0 ts[i] (cE (ts.take i)) (by omega)
   rw[←hn]at hu
   generalize cE (ts.take i)=A at*
   repeat' (first|(refine aC fun _ _=>?_)|refine zHg ?_|simp(disch:=omega) [go_sem,hlt])
   refine bC [(1000,900)] [(900,1000)] 10000 _ _ (Fits.mk' (by simp[go_sem]) (by simp[go_sem])) (by simp[go_sem]) (by simp[go_sem]) (hu) (by simp[go_sem]) (by simp[go_sem]) ?_
   repeat' (first|refine zHg ?_|(refine(hAA.next (i+1) (Le.renSub [(11001,900)] [(900,11001)] (by simp[go_sem]) (by simp[go_sem]) (Le.sub4 rfl (by simp[go_sem]))) (by(try dsimp only);omega) ?_))|simp(disch:=omega) [go_sem,hlt])
   all_goals(first|omega|skip)
   exact⟨hlt⟩
  ·obtain rfl:i=ts.length:=by omega
   rw[List.take_length]
   repeat' (first|(refine aC fun _ _=>?_)|refine zHg ?_|(refine aT [] ?_;simp[go_sem])|simp(disch:=omega) [go_sem])
end Go.Proofs.YtkbglbcphjmiiaaGreatDoor
