import Derived.Test.YtkbglbcphjmiiaaGreatDoorS2
import Derived.Test.YtkbglbcphjmiiaaGreatDoorA5
import Derived.Test.YtkbglbcphjmiiaaGreatDoorS1
set_option linter.unusedSimpArgs false
set_option linter.unusedVariables false
namespace Go.Proofs.YtkbglbcphjmiiaaGreatDoor
open Go.Ab
set_option maxRecDepth 100000
set_option maxHeartbeats 4000000
mutual
def eqT:Tm→Tm→Bool
 | .mk s ts,b=>decide (s=b.name)&&eqL ts b.args
def eqL:List Tm→List Tm→Bool
 | [],[]=>true
 |t::r,u::q=>eqT t u&&eqL r q
 |_,_=>false
end
theorem eqT_eq {a b:Tm}:eqT a b=(decide (a.name=b.name)&&eqL a.args b.args):=by cases a;rfl
theorem tm_eta (t:Tm):t= .mk t.name t.args:=by cases t;rfl
theorem eqL_of {ts us:List Tm} (h: ∀t∈ts,∀u,eqT t u=true↔t=u):eqL ts us=true↔ts=us:=by
 induction ts generalizing us with
 |nil=>cases us<;>simp[eqL]
 |cons t r ih=>
  cases us with
  |nil=>simp[eqL]
  |cons u q=>
   simp only[eqL,Bool.and_eq_true,List.cons.injEq]
   rw[h t (by simp),ih (fun v hv=>h v (by simp[hv]))]
theorem eqT_iff: ∀a b:Tm,eqT a b=true↔a=b:=by
 refine tm_ind fun a ih b=>?_
 rw[eqT_eq,Bool.and_eq_true,decide_eq_true_eq,eqL_of ih]
 constructor
 ·rintro⟨h1,h2⟩;rw[tm_eta a,tm_eta b,h1,h2]
 ·rintro rfl;exact⟨rfl,rfl⟩
theorem eqL_iff (ts us:List Tm):eqL ts us=true↔ts=us:=eqL_of fun t _ u=>eqT_iff t u
theorem eqL_len {ts us:List Tm} (h:ts.length≠us.length):eqL ts us=false:=by
 rw[Bool.eq_false_iff];intro e;rw[(eqL_iff ts us).1 e]at h;exact h rfl
theorem plainTerms_of (ts us:List Tm) (l f l' f':Bool) (h: ∀t∈ts,∀u,ACall Tryz.prog 47 [eT t,eT u] (fun r=>r=bl (eqT t u))):
 ACall Tryz.prog 85 [.list l f (ts.map eTm),.list l' f' (us.map eTm)] (fun r=>r=bl (eqL ts us)):=by
 refine ACall.bound (i:=0) rfl Tryz.call85 fun hb=>?_
 rw[List.length_map]at hb
 have hb:ts.length≤140737488355328:=hb
 by_cases hl:ts.length=us.length
 ·have hl':(ts.length:Int)=us.length:=by omega
  generalize hR:eqL ts us=R
  refine acall_of_awp Tryz.func85 Tryz.call85 rfl (by simp[Tryz.ntmps85]) ?_;simp only[Tryz.ntmps85,Tryz.results85]
  repeat' (first|(refine awK fun _ _=>?_)|refine zHg ?_|(fail_if_success with_reducible refine Owe.mk ?_);(simp(disch:=omega) [go_sem,hl]))
  refine awp_for [0,1,12] [] (fun i:Nat=> [(13,nt .i64 i)]) (fun i:Nat=> []) (fun i:Nat=>ts.length - i) (fun i:Nat=>i≤ts.length∧eqL (ts.drop i) (us.drop i)=R) (0) (Le.sub4 rfl (by simp[go_sem,hl])) ⟨?_⟩ ?_
  ·exact⟨Nat.zero_le _,by simpa using hR⟩
  intro i ⟨hi,hc⟩ AA hAA;simp only[kL,Nat.reduceBEq,Nat.reduceEqDiff,if_true,if_false,List.cons_append,List.nil_append,List.append_nil]
  by_cases h1:i<us.length
  ·have h2:i<ts.length:=by omega
   have hu:=h ts[i] (List.getElem_mem h2) us[i]
   rw[List.drop_eq_getElem_cons h2,List.drop_eq_getElem_cons h1]at hc
   simp only[eqL]at hc
   cases hq:eqT ts[i] us[i]with
   |true=>
    rw[hq]at hu hc
    simp only[Bool.true_and]at hc
    repeat' (first|(refine awK fun _ _=>?_)|refine zHg ?_|refine dstepK_is rfl (hu) rfl (by simp) ?_|refine(hAA.next (i+1) (Le.sub4 rfl (by simp[go_sem])) (by(try dsimp only);omega) ?_)|(fail_if_success with_reducible refine Owe.mk ?_);(simp(disch:=omega) [go_sem,h1,h2])|refine zDr 10 mix ?_)
    exact⟨⟨by omega,hc⟩⟩
   |false=>
    rw[hq]at hu hc
    simp only[Bool.false_and]at hc
    subst hc
    repeat' (first|(refine awK fun _ _=>?_)|refine zHg ?_|refine end_ret [] ?_;simp[go_sem,h1,h2]|refine dstepK_is rfl (hu) rfl (by simp) ?_|(fail_if_success with_reducible refine Owe.mk ?_);(simp(disch:=omega) [go_sem,h1,h2])|refine zDr 10 mix ?_)
  ·have e1:us.drop i= []:=List.drop_of_length_le (by omega)
   have e2:ts.drop i= []:=List.drop_of_length_le (by omega)
   rw[e1,e2]at hc
   simp only[eqL]at hc
   subst hc
   repeat' (first|(refine awK fun _ _=>?_)|refine zHg ?_|refine end_ret [] ?_;simp[go_sem,h1]|(fail_if_success with_reducible refine Owe.mk ?_);(simp(disch:=omega) [go_sem,h1]))
 ·rw[eqL_len hl]
  have hl': ¬(ts.length:Int)=us.length:=by omega
  refine acall_of_awp Tryz.func85 Tryz.call85 rfl (by simp[Tryz.ntmps85]) ?_;simp only[Tryz.ntmps85,Tryz.results85]
  repeat' (first|(refine awK fun _ _=>?_)|refine zHg ?_|refine end_ret [] ?_;simp[go_sem,hl']|(fail_if_success with_reducible refine Owe.mk ?_);(simp(disch:=omega) [go_sem,hl']))
theorem plainTerm_ok: ∀a b:Tm,ACall Tryz.prog 47 [eT a,eT b] (fun r=>r=bl (eqT a b)):=by
 refine tm_ind fun a ih b=>?_
 have h1:=plainTerms_of a.args b.args false false false false ih
 rw[eqT_eq]
 generalize eqL a.args b.args=c at*
 clear ih
 refine acall_of_awp Tryz.func47 Tryz.call47 rfl (by simp[Tryz.ntmps47]) ?_;simp only[Tryz.ntmps47,Tryz.results47]
 by_cases h:a.name=b.name
 ·repeat' (first|(refine awK fun _ _=>?_)|refine zHg ?_|refine end_ret [] ?_;simp[go_sem,h]|refine stepK_is rfl (h1) (by simp) ?_|(fail_if_success with_reducible refine Owe.mk ?_);(simp(disch:=omega) [go_sem,h]))
 ·repeat' (first|(refine awK fun _ _=>?_)|refine zHg ?_|refine end_ret [] ?_;simp[go_sem,h]|(fail_if_success with_reducible refine Owe.mk ?_);(simp(disch:=omega) [go_sem,h]))
def thn (x y:Int):Int:=if x≠0 then x else y
def TR (ab bc ac:Int):Prop:=ab≤0→bc≤0→ac≤0∧(ac=0→ab=0∧bc=0)
theorem thn_TR {a b c x y z:Int} (h:TR a b c) (k:TR x y z):TR (thn a x) (thn b y) (thn c z):=by
 unfold TR thn at*
 intro h1 h2
 have ha:a≤0:=by split at h1<;>omega
 have hb:b≤0:=by split at h2<;>omega
 have hh:=h ha hb
 by_cases hc:c=0
 ·have:=hh.2 hc
  simp only[this,hc]at*
  simpa using k (by simpa using h1) (by simpa using h2)
 ·rw[if_pos hc]
  exact⟨hh.1,fun e=>absurd e hc⟩
theorem ord_range (a b:Int):ord a b= -1∨ord a b=0∨ord a b=1:=by unfold ord;split<;>(try split)<;>simp
theorem ord_zero {a b:Int}:ord a b=0↔a=b:=by unfold ord;split<;>(try split)<;>simp<;>omega
theorem ord_neg (a b:Int):ord b a= -ord a b:=by unfold ord;split<;>split<;>(try split)<;>omega
theorem ord_TR (a b c:Int):TR (ord a b) (ord b c) (ord a c):=by
 unfold TR ord
 intro h1 h2
 split<;>(try split)<;>(split at h1<;>(try split at h1))<;>(split at h2<;>(try split at h2))<;>(try split)<;>(try split)<;>(try split)<;>(try split)<;>simp<;>omega
theorem strC_TR (a b c:ByteArray):TR (strC a b) (strC b c) (strC a c):=by
 intro h1 h2
 refine⟨strC_trans h1 h2,fun h=>?_⟩
 have e:=strC_zero.1 h
 subst e
 have:=strC_neg a b
 have hz:strC a b=0:=by omega
 exact⟨hz,by omega⟩
theorem cmpT_thn (a b:Tm):cmpT a b=thn (ord (kd a).1 (kd b).1) (thn (ord (kd a).2.1 (kd b).2.1) (thn (ord (kd a).2.2.1 (kd b).2.2.1) (thn (strC (kd a).2.2.2 (kd b).2.2.2) (cmpL a.args b.args)))):=by
 rw[cmpT_eq]
 generalize kd a=x
 generalize kd b=y
 obtain⟨x1,x2,x3,x4⟩:=x
 obtain⟨y1,y2,y3,y4⟩:=y
 dsimp only
 by_cases q1:x1=y1
 ·subst q1
  have e1:ord x1 x1=0:=ord_zero.2 rfl
  by_cases q2:x2=y2
  ·subst q2
   have e2:ord x2 x2=0:=ord_zero.2 rfl
   by_cases q3:x3=y3
   ·subst q3
    have e3:ord x3 x3=0:=ord_zero.2 rfl
    by_cases q4:x4=y4
    ·subst q4;simp[thn,e1,e2,e3,strC_self]
    ·have:strC x4 y4≠0:=fun h=>q4 (strC_zero.1 h)
     simp[thn,e1,e2,e3,q4,this]
   ·have:ord x3 y3≠0:=fun h=>q3 (ord_zero.1 h)
    simp[thn,e1,e2,q3,this]
  ·have:ord x2 y2≠0:=fun h=>q2 (ord_zero.1 h)
   simp[thn,e1,q2,this]
 ·have:ord x1 y1≠0:=fun h=>q1 (ord_zero.1 h)
  simp[thn,q1,this]
theorem cmpL_cons (t u:Tm) (r q:List Tm):cmpL (t::r) (u::q)=thn (cmpT t u) (cmpL r q):=rfl
theorem thn_range {x y:Int} (h:x= -1∨x=0∨x=1) (k:y= -1∨y=0∨y=1):thn x y= -1∨thn x y=0∨thn x y=1:=by
 unfold thn;split
 ·exact h
 ·exact k
theorem thn_neg {x y x' y':Int} (h:x'= -x) (k:y'= -y):thn x' y'= -thn x y:=by
 unfold thn;subst h;subst k;split<;>split<;>omega
theorem thn_zero {x y:Int}:thn x y=0↔x=0∧y=0:=by unfold thn;split<;>omega
theorem cmpL_range_of {ts:List Tm}: ∀{us:List Tm},(∀t∈ts,∀u,cmpT t u= -1∨cmpT t u=0∨cmpT t u=1)→cmpL ts us= -1∨cmpL ts us=0∨cmpL ts us=1:=by
 induction ts with
 |nil=>intro us _;cases us<;>simp[cmpL]
 |cons t r ih=>
  intro us h
  cases us with
  |nil=>simp[cmpL]
  |cons u q=>rw[cmpL_cons];exact thn_range (h t (by simp) u) (ih fun v hv=>h v (by simp[hv]))
theorem cmp_range: ∀a b:Tm,cmpT a b= -1∨cmpT a b=0∨cmpT a b=1:=by
 refine tm_ind fun a ih b=>?_
 rw[cmpT_thn]
 exact thn_range (ord_range _ _) (thn_range (ord_range _ _) (thn_range (ord_range _ _) (thn_range (strC_range _ _) (cmpL_range_of ih))))
theorem cmpL_neg_of {ts:List Tm}: ∀{us:List Tm},(∀t∈ts,∀u,cmpT u t= -cmpT t u)→cmpL us ts= -cmpL ts us:=by
 induction ts with
 |nil=>intro us _;cases us<;>simp[cmpL]
 |cons t r ih=>
  intro us h
  cases us with
  |nil=>simp[cmpL]
  |cons u q=>rw[cmpL_cons,cmpL_cons];exact thn_neg (h t (by simp) u) (ih fun v hv=>h v (by simp[hv]))
theorem cmp_neg: ∀a b:Tm,cmpT b a= -cmpT a b:=by
 refine tm_ind fun a ih b=>?_
 rw[cmpT_thn,cmpT_thn a b]
 exact thn_neg (ord_neg _ _) (thn_neg (ord_neg _ _) (thn_neg (ord_neg _ _) (thn_neg (strC_neg _ _) (cmpL_neg_of ih))))
theorem cmpL_TR_of {ts:List Tm}: ∀{us vs:List Tm},(∀t∈ts,∀u v,TR (cmpT t u) (cmpT u v) (cmpT t v))→TR (cmpL ts us) (cmpL us vs) (cmpL ts vs):=by
 induction ts with
 |nil=>
  intro us vs _
  cases us<;>cases vs<;>simp[cmpL,TR]
 |cons t r ih=>
  intro us vs h
  cases us with
  |nil=>intro h1;simp[cmpL]at h1
  |cons u q=>
   cases vs with
   |nil=>intro _ h1;simp[cmpL]at h1
   |cons v p=>
    simp only[cmpL_cons]
    exact thn_TR (h t (by simp) u v) (ih fun w hw=>h w (by simp[hw]))
theorem cmp_TR: ∀a b c:Tm,TR (cmpT a b) (cmpT b c) (cmpT a c):=by
 refine tm_ind fun a ih b c=>?_
 rw[cmpT_thn,cmpT_thn b c,cmpT_thn a c]
 exact thn_TR (ord_TR _ _ _) (thn_TR (ord_TR _ _ _) (thn_TR (ord_TR _ _ _) (thn_TR (strC_TR _ _ _) (cmpL_TR_of ih))))
theorem bytes_ext {a b:ByteArray} (h:a.size=b.size) (k: ∀i,i<a.size→bt a i=bt b i):a=b:=by
 obtain⟨⟨a⟩⟩:=a
 obtain⟨⟨b⟩⟩:=b
 have hl:a.length=b.length:=h
 congr 2
 refine List.ext_getElem hl fun i h1 h2=>?_
 have:=k i h1
 simp only[bt,List.getD_eq_getElem?_getD,List.getElem?_eq_getElem h1,List.getElem?_eq_getElem h2,Option.getD_some]at this
 exact UInt8.toNat_inj.1 (by omega)
theorem numS_inj {s s':ByteArray} (h1:(numS s).2=true) (h2:(numS s').2=true) (h:(numS s).1=(numS s').1):s=s':=by
 unfold numS at*
 split at h1
 ·rename_i c1
  split at h2
  ·rename_i c2
   rw[if_pos c1,if_pos c2]at h
   obtain⟨⟨a1,a2,a3⟩,a4⟩:=c1
   obtain⟨⟨b1,b2,b3⟩,b4⟩:=c2
   simp only at h
   have d1: ∀i,i<s.size→48≤bt s i∧bt s i≤57:=fun i hi=>by
    have:=List.all_eq_true.1 a4 i (by simpa using hi);simpa using this
   have d2: ∀i,i<s'.size→48≤bt s' i∧bt s' i≤57:=fun i hi=>by
    have:=List.all_eq_true.1 b4 i (by simpa using hi);simpa using this
   have p0:=d1 0 (by omega)
   have q0:=d2 0 (by omega)
   have n1:s.size=1∨s.size=2∨s.size=3∨s.size=4:=by omega
   have n2:s'.size=1∨s'.size=2∨s'.size=3∨s'.size=4:=by omega
   have key:s.size=s'.size∧ ∀i,i<s.size→bt s i=bt s' i:=by
    rcases n1 with e1|e1|e1|e1<;>rcases n2 with e2|e2|e2|e2<;>rw[e1,e2]at h<;>simp only[valS]at h
    all_goals
     have p1:=fun hh=>d1 1 hh
     have p2:=fun hh=>d1 2 hh
     have p3:=fun hh=>d1 3 hh
     have q1:=fun hh=>d2 1 hh
     have q2:=fun hh=>d2 2 hh
     have q3:=fun hh=>d2 3 hh
     rw[e1]at p1 p2 p3
     rw[e2]at q1 q2 q3
     simp only[Nat.reduceLT,Nat.lt_irrefl,forall_const,false_implies,implies_true]at p1 p2 p3 q1 q2 q3
     refine⟨by omega,fun i hi=>?_⟩
     have hi4:i=0∨i=1∨i=2∨i=3:=by omega
     rcases hi4 with rfl|rfl|rfl|rfl<;>omega
   exact bytes_ext key.1 key.2
  ·simp at h2
 ·simp at h1
theorem cmpL_zero_of {ts:List Tm}: ∀{us:List Tm},(∀t∈ts,∀u,cmpT t u=0↔t=u)→(cmpL ts us=0↔ts=us):=by
 induction ts with
 |nil=>intro us _;cases us<;>simp[cmpL]
 |cons t r ih=>
  intro us h
  cases us with
  |nil=>simp[cmpL]
  |cons u q=>rw[cmpL_cons,thn_zero,h t (by simp) u,ih fun v hv=>h v (by simp[hv])];simp
theorem cmp_zero: ∀a b:Tm,cmpT a b=0↔a=b:=by
 refine tm_ind fun a ih b=>?_
 rw[cmpT_thn]
 simp only[thn_zero,ord_zero,strC_zero,cmpL_zero_of ih]
 constructor
 ·rintro⟨h1,h2,h3,h4,h5⟩
  have hn:a.name=b.name:=by
   rcases kd_cases a with⟨a1,a2,a3⟩|⟨a1,a2⟩
   ·rcases kd_cases b with⟨b1,b2,b3⟩|⟨b1,b2⟩
    ·rw[a3,b3]at h2
     exact numS_inj a2 b2 h2
    ·exact absurd (by rw[←h1,a3]) b1
   ·rcases kd_cases b with⟨b1,b2,b3⟩|⟨b1,b2⟩
    ·exact absurd (by rw[h1,b3]) a1
    ·rw[a2,b2]at h4;exact h4
  rw[tm_eta a,tm_eta b,hn,h5]
 ·rintro rfl;simp
open Go.Ab
structure Tot {α:Type} (c:α→α→Int):Prop where
 rng: ∀a b,c a b= -1∨c a b=0∨c a b=1
 neg: ∀a b,c b a= -c a b
 tr: ∀a b d,TR (c a b) (c b d) (c a d)
 zero: ∀a b,c a b=0↔a=b
theorem tot_T:Tot cmpT:=⟨cmp_range,cmp_neg,cmp_TR,cmp_zero⟩
theorem Tot.two {α β γ:Type} {c:β→β→Int} {d:γ→γ→Int} (hc:Tot c) (hd:Tot d) (f:α→β) (g:α→γ) (hi: ∀x y,f x=f y→g x=g y→x=y):
 Tot (fun x y=>thn (c (f x) (f y)) (d (g x) (g y))):=
 ⟨fun a b=>thn_range (hc.rng _ _) (hd.rng _ _),fun a b=>thn_neg (hc.neg _ _) (hd.neg _ _),fun a b e=>thn_TR (hc.tr _ _ _) (hd.tr _ _ _),
  fun a b=>by
   rw[thn_zero,hc.zero,hd.zero]
   exact⟨fun h=>hi _ _ h.1 h.2,fun h=>by rw[h];exact⟨rfl,rfl⟩⟩⟩
def lexC {α:Type} (c:α→α→Int):List α→List α→Int
 | [],[]=>0
 | [],_::_=> -1
 |_::_,[]=>1
 |a::r,b::q=>thn (c a b) (lexC c r q)
theorem lexC_cons {α:Type} {c:α→α→Int} {a b:α} {r q:List α}:lexC c (a::r) (b::q)=thn (c a b) (lexC c r q):=rfl
theorem lex_rng {α:Type} {c:α→α→Int} (h:Tot c): ∀a b:List α,lexC c a b= -1∨lexC c a b=0∨lexC c a b=1
 | [],[]=> .inr (.inl rfl)
 | [],_::_=> .inl rfl
 |_::_,[]=> .inr (.inr rfl)
 |a::r,b::q=>thn_range (h.rng a b) (lex_rng h r q)
theorem lex_neg {α:Type} {c:α→α→Int} (h:Tot c): ∀a b:List α,lexC c b a= -lexC c a b
 | [],[]=>rfl
 | [],_::_=>rfl
 |_::_,[]=>rfl
 |a::r,b::q=>thn_neg (h.neg a b) (lex_neg h r q)
theorem lex_zero {α:Type} {c:α→α→Int} (h:Tot c): ∀a b:List α,lexC c a b=0↔a=b
 | [],[]=>by simp[lexC]
 | [],_::_=>by simp[lexC]
 |_::_,[]=>by simp[lexC]
 |a::r,b::q=>by rw[lexC_cons,thn_zero,h.zero,lex_zero h r q,List.cons.injEq]
theorem lex_TR {α:Type} {c:α→α→Int} (h:Tot c): ∀a b d:List α,TR (lexC c a b) (lexC c b d) (lexC c a d)
 | [],b,[]=>by
  cases b with
  |nil=>intro _ _;exact⟨by simp[lexC],fun _=>⟨rfl,rfl⟩⟩
  |cons x r=>intro _ h2;simp[lexC]at h2
 | [],b,y::q=>by
  cases b with
  |nil=>intro _ _;exact⟨by simp[lexC],fun h3=>by simp[lexC]at h3⟩
  |cons x r=>intro _ _;exact⟨by simp[lexC],fun h3=>by simp[lexC]at h3⟩
 |a::p,[],d=>by intro h1;simp[lexC]at h1
 |a::p,b::r,[]=>by intro _ h2;simp[lexC]at h2
 |a::p,b::r,y::q=>thn_TR (h.tr a b y) (lex_TR h p r q)
theorem Tot.lex {α:Type} {c:α→α→Int} (h:Tot c):Tot (lexC c):=⟨lex_rng h,lex_neg h,lex_TR h,lex_zero h⟩
section
variable {α : Type} {c : α → α → Int}
theorem Tot.self (h:Tot c) (a:α):c a a=0:=(h.zero a a).2 rfl
theorem Tot.le_tr (h:Tot c) {a b d:α} (h1:c a b≤0) (h2:c b d≤0):c a d≤0:=(h.tr a b d h1 h2).1
theorem Tot.lt_le (h:Tot c) {a b d:α} (h1:c a b<0) (h2:c b d≤0):c a d<0:=by
 obtain⟨p,q⟩:=h.tr a b d (by omega) h2
 rcases Int.lt_or_eq_of_le p with p|p
 ·exact p
 ·have:=(q p).1;omega
theorem Tot.le_lt (h:Tot c) {a b d:α} (h1:c a b≤0) (h2:c b d<0):c a d<0:=by
 obtain⟨p,q⟩:=h.tr a b d h1 (by omega)
 rcases Int.lt_or_eq_of_le p with p|p
 ·exact p
 ·have:=(q p).2;omega
theorem Tot.anti (h:Tot c) {a b:α} (h1:c a b≤0) (h2:c b a≤0):a=b:=by
 rw[h.neg a b]at h2
 exact(h.zero a b).1 (by omega)
def AscG (c:α→α→Int) (l:List α):Prop:=l.Pairwise fun a b=>c a b<0
theorem ascG_uniq (h:Tot c): ∀{a b:List α},AscG c a→AscG c b→(∀t,t∈a↔t∈b)→a=b
 | [],[],_,_,_=>rfl
 | [],y::q,_,_,hm=>absurd ((hm y).2 (by simp)) (by simp)
 |x::r,[],_,_,hm=>absurd ((hm x).1 (by simp)) (by simp)
 |x::r,y::q,ha,hb,hm=>by
  obtain⟨a1,a2⟩:=List.pairwise_cons.1 ha
  obtain⟨b1,b2⟩:=List.pairwise_cons.1 hb
  have e:x=y:=by
   rcases List.mem_cons.1 ((hm x).1 (by simp))with e|hx
   ·exact e
   ·rcases List.mem_cons.1 ((hm y).2 (by simp))with e|hy
    ·exact e.symm
    ·have u:=a1 y hy
     have v:=b1 x hx
     rw[h.neg x y]at v
     omega
  subst e
  congr 1
  refine ascG_uniq h a2 b2 fun t=>⟨fun ht=>?_,fun ht=>?_⟩
  ·rcases List.mem_cons.1 ((hm t).1 (by simp[ht]))with rfl|k
   ·have:=a1 t ht;rw[h.self]at this;omega
   ·exact k
  ·rcases List.mem_cons.1 ((hm t).2 (by simp[ht]))with rfl|k
   ·have:=b1 t ht;rw[h.self]at this;omega
   ·exact k
def insG (c:α→α→Int) (t:α):List α→List α
 | []=> [t]
 |x::r=>if c x t<0 then x::insG c t r else if c x t=0 then x::r else t::x::r
def srtG (c:α→α→Int) (l:List α):List α:=l.foldl (fun o t=>insG c t o) []
theorem mem_insG (h:Tot c) {t x:α}: ∀{o:List α},x∈insG c t o↔x=t∨x∈o
 | []=>by simp[insG]
 |y::r=>by
  rw[insG]
  split
  ·rw[List.mem_cons,mem_insG h,List.mem_cons]
   constructor
   ·rintro(e|e|e)<;>simp[e]
   ·rintro(e|e|e)<;>simp[e]
  ·split
   ·rename_i h0
    have:=(h.zero _ _).1 h0
    subst this
    simp
   ·simp
theorem asc_insG (h:Tot c) {t:α}: ∀{o:List α},AscG c o→AscG c (insG c t o)
 | [],_=>List.pairwise_singleton _ _
 |y::r,ho=>by
  obtain⟨a1,a2⟩:=List.pairwise_cons.1 ho
  rw[insG]
  split
  ·rename_i hlt
   refine List.pairwise_cons.2 ⟨fun x hx=>?_,asc_insG h a2⟩
   rcases(mem_insG h).1 hx with rfl|hx
   ·exact hlt
   ·exact a1 x hx
  ·split
   ·exact ho
   ·rename_i h1 h2
    have hty:c t y<0:=by rw[h.neg y t];omega
    refine List.pairwise_cons.2 ⟨fun x hx=>?_,ho⟩
    rcases List.mem_cons.1 hx with rfl|hx
    ·exact hty
    ·exact h.lt_le hty (Int.le_of_lt (a1 x hx))
theorem foldl_insG (h:Tot c): ∀(l o:List α),AscG c o→AscG c (l.foldl (fun o t=>insG c t o) o)∧ ∀x,x∈l.foldl (fun o t=>insG c t o) o↔x∈l∨x∈o
 | [],o,ho=>⟨ho,fun x=>by simp⟩
 |t::r,o,ho=>by
  obtain⟨h1,h2⟩:=foldl_insG h r (insG c t o) (asc_insG h ho)
  refine⟨h1,fun x=>?_⟩
  rw[List.foldl_cons,h2 x,mem_insG h,List.mem_cons]
  constructor
  ·rintro(e|e|e)<;>simp[e]
  ·rintro((e|e)|e)<;>simp[e]
theorem srtG_asc (h:Tot c) (l:List α):AscG c (srtG c l):=(foldl_insG h l [] List.Pairwise.nil).1
theorem srtG_mem (h:Tot c) (l:List α) (x:α):x∈srtG c l↔x∈l:=by
 unfold srtG
 rw[(foldl_insG h l [] List.Pairwise.nil).2 x]
 simp
theorem srtG_congr (h:Tot c) {a b:List α} (hm: ∀x,x∈a↔x∈b):srtG c a=srtG c b:=
 ascG_uniq h (srtG_asc h a) (srtG_asc h b) fun x=>by rw[srtG_mem h,srtG_mem h,hm x]
theorem insG_len {t:α}: ∀{o:List α},(insG c t o).length≤o.length+1
 | []=>Nat.le_refl _
 |y::r=>by
  rw[insG]
  have:=insG_len (t:=t) (o:=r)
  split
  ·simp;omega
  ·split<;>simp
theorem srtG_len: ∀(l:List α),(srtG c l).length≤l.length:=by
 have key: ∀(l o:List α),(l.foldl (fun o t=>insG c t o) o).length≤l.length+o.length:=by
  intro l
  induction l with
  |nil=>intro o;simp
  |cons t r ih=>
   intro o
   have h1:=ih (insG c t o)
   have h2:=insG_len (c:=c) (t:=t) (o:=o)
   simp only[List.foldl_cons,List.length_cons]
   omega
 intro l
 have:=key l []
 simpa[srtG]using this
def ddQ (c:α→α→Int) (l:List α):Nat→List α
 |0=> []
 |i+1=>match l[i]? with
  |some t=>if i=0∨c (l.getD (i - 1) t) t≠0 then ddQ c l i++ [t]else ddQ c l i
  |none=>ddQ c l i
theorem ddQ_next {l:List α} {i:Nat} (h:i<l.length):ddQ c l (i+1)=if i=0∨c (l.getD (i - 1) l[i]) l[i]≠0 then ddQ c l i++ [l[i]]else ddQ c l i:=by
 rw[ddQ,List.getElem?_eq_getElem h]
theorem getD_prev {l:List α} {i:Nat} (h:i<l.length) (x:α):l.getD (i - 1) x=l[i - 1]:=by
 rw[List.getD_eq_getElem?_getD,List.getElem?_eq_getElem (by omega)];rfl
theorem ddQ_facts (h:Tot c) {l:List α} (hs:l.Pairwise fun a b=>c a b≤0): ∀i,i≤l.length→AscG c (ddQ c l i)∧ ∀x,x∈ddQ c l i↔x∈l.take i
 |0,_=>⟨List.Pairwise.nil,fun x=>by simp[ddQ]⟩
 |i+1,hi=>by
  have hlt:i<l.length:=by omega
  obtain⟨h1,h2⟩:=ddQ_facts h hs i (by omega)
  rw[ddQ_next hlt,take_next hlt,getD_prev hlt]
  split
  ·rename_i hc
   refine⟨List.pairwise_append.2 ⟨h1,by simp,fun x hx y hy=>?_⟩,fun x=>by simp only[List.mem_append,List.mem_singleton,h2]⟩
   simp only[List.mem_singleton]at hy
   subst hy
   rcases hc with rfl|hc
   ·simp[ddQ]at hx
   ·rw[h2,List.mem_take_iff_getElem]at hx
    obtain⟨k,hk,rfl⟩:=hx
    by_cases hi0:i=0
    ·subst hi0;omega
    have h3:=List.pairwise_iff_getElem.1 hs (i - 1) i (by omega) hlt (by omega)
    have h4:c l[k] l[i - 1]≤0:=by
     by_cases e:k=i - 1
     ·subst e;rw[h.self];exact Int.le_refl _
     ·exact List.pairwise_iff_getElem.1 hs k (i - 1) (by omega) (by omega) (by omega)
    exact h.le_lt h4 (by omega)
  ·rename_i hc
   simp only[not_or,Decidable.not_not]at hc
   refine⟨h1,fun x=>?_⟩
   rw[h2]
   simp only[List.mem_append,List.mem_singleton]
   constructor
   ·exact .inl
   ·rintro(k|rfl)
    ·exact k
    ·have e:=(h.zero _ _).1 hc.2
     rw[←e,List.mem_take_iff_getElem]
     exact⟨i - 1,by omega,rfl⟩
theorem ddQ_sort (h:Tot c) {l m:List α} (hp:m.Perm l) (hs:m.Pairwise fun a b=>c a b≤0):ddQ c m m.length=srtG c l:=by
 obtain⟨h1,h2⟩:=ddQ_facts h hs m.length (Nat.le_refl _)
 refine ascG_uniq h h1 (srtG_asc h l) fun x=>?_
 rw[h2,List.take_length,srtG_mem h,hp.mem_iff]
theorem ddQ_len {l:List α}: ∀i,(ddQ c l i).length≤i
 |0=>Nat.le_refl _
 |i+1=>by
  have:=ddQ_len (l:=l) i
  rw[ddQ]
  split
  ·split
   ·simp;omega
   ·omega
  ·omega
def minG (c:α→α→Int) (b:α) (l:List α):α:=l.foldl (fun b x=>if c x b<0 then x else b) b
theorem minG_facts (h:Tot c): ∀(l:List α) (b:α),(minG c b l=b∨minG c b l∈l)∧c (minG c b l) b≤0∧ ∀x∈l,c (minG c b l) x≤0
 | [],b=>⟨.inl rfl,by show c b b≤0;rw[h.self];omega,fun x hx=>by simp at hx⟩
 |y::r,b=>by
  show(minG c (if c y b<0 then y else b) r=b∨_)∧c (minG c (if c y b<0 then y else b) r) b≤0∧ ∀x∈y::r,c (minG c (if c y b<0 then y else b) r) x≤0
  by_cases hc:c y b<0
  ·rw[if_pos hc]
   obtain⟨h1,h2,h3⟩:=minG_facts h r y
   refine⟨.inr ?_,h.le_tr h2 (by omega),fun x hx=>?_⟩
   ·rcases h1 with e|e
    ·show minG c (if c y b<0 then y else b) r∈y::r
     rw[if_pos hc,e];simp
    ·show minG c (if c y b<0 then y else b) r∈y::r
     rw[if_pos hc];simp[e]
   ·rcases List.mem_cons.1 hx with rfl|hx
    ·exact h2
    ·exact h3 x hx
  ·rw[if_neg hc]
   obtain⟨h1,h2,h3⟩:=minG_facts h r b
   refine⟨?_,h2,fun x hx=>?_⟩
   ·rcases h1 with e|e
    ·exact .inl e
    ·refine .inr ?_
     show minG c (if c y b<0 then y else b) r∈y::r
     rw[if_neg hc];simp[e]
   ·rcases List.mem_cons.1 hx with rfl|hx
    ·refine h.le_tr h2 ?_
     rw[h.neg x b];omega
    ·exact h3 x hx
theorem min_uniq (h:Tot c) {a b:α} {l m:List α} (hm: ∀x,x∈a::l↔x∈b::m):minG c a l=minG c b m:=by
 obtain⟨a1,a2,a3⟩:=minG_facts h l a
 obtain⟨b1,b2,b3⟩:=minG_facts h m b
 have ha:minG c a l∈b::m:=(hm _).1 (by rcases a1 with e|e;rw[e];simp;simp[e])
 have hb:minG c b m∈a::l:=(hm _).2 (by rcases b1 with e|e;rw[e];simp;simp[e])
 refine h.anti ?_ ?_
 ·rcases List.mem_cons.1 hb with e|e
  ·rw[e];exact a2
  ·exact a3 _ e
 ·rcases List.mem_cons.1 ha with e|e
  ·rw[e];exact b2
  ·exact b3 _ e
end
open Go.Ab
set_option maxRecDepth 100000
instance:DecidableEq Tm:=fun a b=>decidable_of_iff (eqT a b=true) (eqT_iff a b)
structure Bd where
 v:ByteArray
 t:Tm
abbrev eBd (x:Bd):AV:= .agg [.sc (.string x.v),.sc (.string x.t.name),.list false false (x.t.args.map eTm)]
structure Lt where
 neg:Bool
 atom:Tm
abbrev eLt (x:Lt):AV:= .agg [bl x.neg,.sc (.string x.atom.name),.list false false (x.atom.args.map eTm)]
structure Rl where
 head:Tm
 body:List Lt
abbrev eRl (x:Rl):AV:= .agg [.sc (.string x.head.name),.list false false (x.head.args.map eTm),.list false false (x.body.map eLt)]
def isU (t:Tm):Bool:=decide (t.args.length=0)&&(decide (t.name.size≠0)&&(decide (65≤bt t.name 0)&&decide (bt t.name 0≤90)))
mutual
def keyT:Tm→ByteArray
 | .mk n ts=>keyS (n++⟨#[40]⟩) ts++⟨#[41]⟩
def keyS:ByteArray→List Tm→ByteArray
 |a,[]=>a
 |a,t::ts=>keyS (a++(keyT t++⟨#[44]⟩)) ts
end
mutual
def kzT:Tm→Nat
 | .mk n ts=>n.size+2+kzL ts
def kzL:List Tm→Nat
 | []=>0
 |t::ts=>kzT t+1+kzL ts
end
theorem kzT_mk {n:ByteArray} {ts:List Tm}:kzT (.mk n ts)=n.size+2+kzL ts:=by rw[kzT]
theorem size_app (a b:ByteArray):(a++b).size=a.size+b.size:=ByteArray.size_append
theorem keyS_of: ∀{ts:List Tm} {a:ByteArray},(∀t∈ts,(keyT t).size=kzT t)→(keyS a ts).size=a.size+kzL ts
 | [],a,_=>by simp[keyS,kzL]
 |t::ts,a,h=>by
  rw[keyS,keyS_of fun u hu=>h u (by simp[hu]),size_app,size_app,h t (by simp),kzL]
  have:(⟨#[44]⟩:ByteArray).size=1:=rfl
  omega
theorem keyT_size: ∀t:Tm,(keyT t).size=kzT t:=by
 refine tm_ind fun t ih=>?_
 obtain⟨n,ts⟩:=t
 simp only[args_mk]at ih
 rw[keyT,size_app,keyS_of ih,size_app,kzT_mk]
 have h1:(⟨#[40]⟩:ByteArray).size=1:=rfl
 have h2:(⟨#[41]⟩:ByteArray).size=1:=rfl
 omega
theorem keyS_app: ∀{ts us:List Tm} {a:ByteArray},keyS a (ts++us)=keyS (keyS a ts) us
 | [],_,_=>rfl
 |t::ts,us,a=>by rw[List.cons_append,keyS,keyS,keyS_app]
theorem keyS_next {ts:List Tm} {a:ByteArray} {i:Nat} (h:i<ts.length):keyS a (ts.take (i+1))=keyS a (ts.take i)++(keyT ts[i]++⟨#[44]⟩):=by
 rw[take_next h,keyS_app];rfl
theorem kzL_app: ∀{a b:List Tm},kzL (a++b)=kzL a+kzL b
 | [],b=>by simp[kzL]
 |t::r,b=>by rw[List.cons_append,kzL,kzL,kzL_app];omega
theorem kzL_take {ts:List Tm} {i:Nat}:kzL (ts.take i)≤kzL ts:=by
 have:=kzL_app (a:=ts.take i) (b:=ts.drop i)
 rw[List.take_append_drop]at this;omega
theorem kzT_mem: ∀{ts:List Tm} {t:Tm},t∈ts→kzT t+1≤kzL ts
 |u::r,t,h=>by
  rcases List.mem_cons.1 h with rfl|h
  ·rw[kzL];omega
  ·have:=kzT_mem h;rw[kzL];omega
def lookB (s:List Bd) (n:ByteArray):Option Tm:=(s.find? fun b=>decide (b.v=n)).map Bd.t
def bndV (s:List Bd) (n:ByteArray) (t:Tm):Option Tm→List Bd×Bool
 |some u=>(s,decide (u=t))
 |none=>(s++ [⟨n,t⟩],true)
def inzV (t:Tm):Option Tm→Tm×Bool
 |some u=>(u,true)
 |none=>(t,false)
def inzW (n:ByteArray) (ts:List Tm):Option (List Tm)→Tm×Bool
 |some l=>(.mk n l,true)
 |none=>(.mk n ts,false)
mutual
def bndT:Tm→Tm→List Bd→List Bd×Bool
 | .mk n ps,t,s=>if isU (.mk n ps)=true then bndV s n t (lookB s n)else if n=t.name∧ps.length=t.args.length then bndL ps t.args s else([],false)
def bndL:List Tm→List Tm→List Bd→List Bd×Bool
 | [],_,s=>(s,true)
 |_::_,[],s=>(s,true)
 |p::ps,t::ts,s=>if(bndT p t s).2=true then bndL ps ts (bndT p t s).1 else bndT p t s
end
theorem bndT_mk {n:ByteArray} {ps:List Tm} {t:Tm} {s:List Bd}:bndT (.mk n ps) t s=if isU (.mk n ps)=true then bndV s n t (lookB s n)else if n=t.name∧ps.length=t.args.length then bndL ps t.args s else([],false):=by rw[bndT]
theorem bndL_cons {p:Tm} {ps:List Tm} {t:Tm} {ts:List Tm} {s:List Bd}:bndL (p::ps) (t::ts) s=if(bndT p t s).2=true then bndL ps ts (bndT p t s).1 else bndT p t s:=by rw[bndL]
theorem bndL_nil {ts:List Tm} {s:List Bd}:bndL [] ts s=(s,true):=by rw[bndL]
mutual
def inzT:Tm→List Bd→Tm×Bool
 | .mk n ts,s=>if isU (.mk n ts)=true then inzV (.mk n ts) (lookB s n)else inzW n ts (inzL ts s)
def inzL:List Tm→List Bd→Option (List Tm)
 | [],_=>some []
 |t::ts,s=>if(inzT t s).2=true then(inzL ts s).map fun l=>(inzT t s).1::l else none
end
theorem inzT_mk {n:ByteArray} {ts:List Tm} {s:List Bd}:inzT (.mk n ts) s=if isU (.mk n ts)=true then inzV (.mk n ts) (lookB s n)else inzW n ts (inzL ts s):=by rw[inzT]
theorem inzL_cons {t:Tm} {ts:List Tm} {s:List Bd}:inzL (t::ts) s=if(inzT t s).2=true then(inzL ts s).map fun l=>(inzT t s).1::l else none:=by rw[inzL]
theorem inzL_nil {s:List Bd}:inzL [] s=some []:=by rw[inzL]
theorem inzL_len: ∀{ts:List Tm} {s:List Bd} {l:List Tm},inzL ts s=some l→l.length=ts.length
 | [],s,l,h=>by rw[inzL_nil]at h;obtain rfl:=Option.some.inj h;rfl
 |t::ts,s,l,h=>by
  rw[inzL_cons]at h
  split at h
  ·cases hq:inzL ts s with
   |none=>rw[hq]at h;cases h
   |some m=>
    rw[hq]at h
    obtain rfl:=Option.some.inj h
    simp[inzL_len hq]
  ·cases h
mutual
def okT (q M:Nat):Tm→Prop
 | .mk n ts=>n.size≤M∧ts.length≤q∧okL q M ts
def okL (q M:Nat):List Tm→Prop
 | []=>True
 |t::ts=>okT q M t∧okL q M ts
end
theorem okT_mk {q M:Nat} {n:ByteArray} {ts:List Tm}:okT q M (.mk n ts)↔n.size≤M∧ts.length≤q∧okL q M ts:=by rw[okT]
theorem okL_iff {q M:Nat}: ∀{l:List Tm},okL q M l↔ ∀t∈l,okT q M t
 | []=>by simp[okL]
 |t::r=>by rw[okL,okL_iff];simp
def KB (q M:Nat):Nat→Nat
 |0=>0
 |k+1=>M+2+q*(KB q M k+1)
theorem kzL_bd {b:Nat}: ∀{l:List Tm},(∀t∈l,kzT t≤b)→kzL l≤l.length*(b+1)
 | [],_=>by simp[kzL]
 |t::r,h=>by
  have h1:=h t (by simp)
  have h2:=kzL_bd (b:=b) (l:=r) fun u hu=>h u (by simp[hu])
  rw[kzL,List.length_cons,Nat.succ_mul];omega
theorem depth_arg {n:ByteArray} {ts:List Tm} {t:Tm} (h:t∈ts):t.depth+1≤(Tm.mk n ts).depth:=by
 rw[depth_eq (.mk n ts),args_mk]
 have: ∀{l:List Tm},t∈l→t.depth≤depthL l:=by
  intro l
  induction l with
  |nil=>intro h;simp at h
  |cons u r ih=>
   intro h
   rw[depthL]
   rcases List.mem_cons.1 h with rfl|h
   ·omega
   ·have:=ih h;omega
 have:=this h
 omega
theorem kz_bd {q M:Nat}: ∀{k:Nat} {t:Tm},okT q M t→t.depth≤k→kzT t≤KB q M k
 |0,t,_,h=>by rw[depth_eq]at h;omega
 |k+1,.mk n ts,h,hd=>by
  obtain⟨h1,h2,h3⟩:=okT_mk.1 h
  have h4:=kzL_bd (b:=KB q M k) (l:=ts) fun t ht=>kz_bd (okL_iff.1 h3 t ht) (by have:=depth_arg (n:=n) ht;omega)
  have h5:ts.length*(KB q M k+1)≤q*(KB q M k+1):=Nat.mul_le_mul_right _ h2
  rw[kzT_mk,KB];omega
theorem kz_size {q M:Nat}: ∀{t:Tm},okT q M t→kzT t≤t.size*(M+3):=by
 have key: ∀t:Tm,okT q M t→kzT t+1≤t.size*(M+3):=by
  refine tm_ind fun t ih h=>?_
  obtain⟨n,ts⟩:=t
  simp only[args_mk]at ih
  obtain⟨h1,h2,h3⟩:=okT_mk.1 h
  have: ∀{l:List Tm},(∀t∈l,kzT t+1≤t.size*(M+3))→kzL l≤sizeL l*(M+3):=by
   intro l
   induction l with
   |nil=>intro _;simp[kzL]
   |cons u r ih=>
    intro h
    have a:=h u (by simp)
    have b:=ih fun v hv=>h v (by simp[hv])
    rw[kzL,sizeL,Nat.add_mul];omega
  have h4:=this fun t ht=>ih t ht (okL_iff.1 h3 t ht)
  rw[kzT_mk,size_eq,args_mk,Nat.add_mul];omega
 exact fun {t} h=>by have:=key t h;omega
def okB (q M:Nat) (s:List Bd):Prop:= ∀b∈s,okT q M b.t∧b.t.depth≤3
theorem lookB_ok {q M:Nat} {s:List Bd} (h:okB q M s) {n:ByteArray} {u:Tm} (hu:lookB s n=some u):okT q M u∧u.depth≤3:=by
 unfold lookB at hu
 cases hf:s.find? fun b=>decide (b.v=n)with
 |none=>rw[hf]at hu;cases hu
 |some b=>
  rw[hf]at hu
  obtain rfl:=Option.some.inj hu
  exact h b (List.mem_of_find?_eq_some hf)
theorem bnd_ok {q M:Nat}: ∀(p t:Tm) (s:List Bd),okT q M t→t.depth≤4→(isU p=true→t.depth≤3)→okB q M s→okB q M (bndT p t s).1∧(bndT p t s).1.length≤s.length+p.size:=by
 have key: ∀p:Tm,∀(t:Tm) (s:List Bd),okT q M t→t.depth≤4→(isU p=true→t.depth≤3)→okB q M s→okB q M (bndT p t s).1∧(bndT p t s).1.length≤s.length+p.size:=by
  refine tm_ind fun p ih t s ht hd h3 hs=>?_
  obtain⟨n,ps⟩:=p
  simp only[args_mk]at ih
  rw[bndT_mk]
  have hp:=size_pos (.mk n ps)
  split
  ·rename_i hu
   cases lookB s n with
   |some u=>exact⟨hs,by show s.length≤_;omega⟩
   |none=>
    show okB q M (s++ [⟨n,t⟩])∧(s++ [⟨n,t⟩]:List Bd).length≤_
    refine⟨fun b hb=>?_,by simp;omega⟩
    rcases List.mem_append.1 hb with hb|hb
    ·exact hs b hb
    ·obtain rfl:=List.mem_singleton.1 hb
     exact⟨ht,h3 hu⟩
  ·split
   ·obtain⟨m,ts⟩:=t
    simp only[args_mk]
    have hts:=okL_iff.1 (okT_mk.1 ht).2.2
    have hdt: ∀t∈ts,t.depth≤3:=fun t h=>by have:=depth_arg (n:=m) h;omega
    rw[size_eq,args_mk]
    have: ∀(ps ts:List Tm) (s:List Bd),(∀p∈ps,∀(t:Tm) (s:List Bd),okT q M t→t.depth≤4→(isU p=true→t.depth≤3)→okB q M s→okB q M (bndT p t s).1∧(bndT p t s).1.length≤s.length+p.size)→(∀t∈ts,okT q M t∧t.depth≤3)→okB q M s→
     okB q M (bndL ps ts s).1∧(bndL ps ts s).1.length≤s.length+sizeL ps:=by
     intro ps
     induction ps with
     |nil=>intro ts s _ _ h;rw[bndL_nil];exact⟨h,by simp⟩
     |cons p ps ihp=>
      intro ts s hp ht hs
      cases ts with
      |nil=>rw[bndL];exact⟨hs,by simp⟩
      |cons t ts=>
       obtain⟨a1,a2⟩:=hp p (by simp) t s (ht t (by simp)).1 (Nat.le_succ_of_le (ht t (by simp)).2) (fun _=>(ht t (by simp)).2) hs
       rw[bndL_cons,sizeL]
       split
       ·obtain⟨b1,b2⟩:=ihp ts _ (fun z hz=>hp z (by simp[hz])) (fun u hu=>ht u (by simp[hu])) a1
        exact⟨b1,by omega⟩
       ·exact⟨a1,by omega⟩
    obtain⟨c1,c2⟩:=this ps ts s ih (fun t h=>⟨hts t h,hdt t h⟩) hs
    exact⟨c1,by omega⟩
   ·exact⟨fun b hb=>by simp at hb,by simp⟩
 exact key
theorem inz_ok {q M:Nat} {s:List Bd} (hs:okB q M s): ∀p:Tm,okT q M p→okT q M (inzT p s).1∧(inzT p s).1.depth≤p.depth+3∧kzT (inzT p s).1≤kzT p+p.size*KB q M 3:=by
 refine tm_ind fun p ih hp=>?_
 obtain⟨n,ts⟩:=p
 simp only[args_mk]at ih
 have h0:=size_pos (.mk n ts)
 have h0':KB q M 3≤(Tm.mk n ts).size*KB q M 3:=Nat.le_mul_of_pos_left _ h0
 rw[inzT_mk]
 split
 ·cases hu:lookB s n with
  |some u=>
   obtain⟨a,b⟩:=lookB_ok hs hu
   exact⟨a,by show u.depth≤_;omega,by have:=kz_bd a b;show kzT u≤_;omega⟩
  |none=>exact⟨hp,Nat.le_add_right _ _,Nat.le_add_right _ _⟩
 ·cases hl:inzL ts s with
  |none=>exact⟨hp,Nat.le_add_right _ _,Nat.le_add_right _ _⟩
  |some l=>
   obtain⟨h1,h2,h3⟩:=okT_mk.1 hp
   have: ∀(ts l:List Tm),(∀t∈ts,okT q M t→okT q M (inzT t s).1∧(inzT t s).1.depth≤t.depth+3∧kzT (inzT t s).1≤kzT t+t.size*KB q M 3)→okL q M ts→inzL ts s=some l→
    okL q M l∧depthL l≤depthL ts+3∧kzL l≤kzL ts+sizeL ts*KB q M 3:=by
    intro ts
    induction ts with
    |nil=>intro l _ _ h;rw[inzL_nil]at h;obtain rfl:=Option.some.inj h;exact⟨trivial,by simp[depthL],by simp[kzL]⟩
    |cons t ts iht=>
     intro l h ho hl
     rw[inzL_cons]at hl
     rw[okL]at ho
     split at hl
     ·cases hq:inzL ts s with
      |none=>rw[hq]at hl;cases hl
      |some m=>
       rw[hq]at hl
       obtain rfl:=Option.some.inj hl
       obtain⟨a1,a2,a3⟩:=h t (by simp) ho.1
       obtain⟨b1,b2,b3⟩:=iht m (fun u hu=>h u (by simp[hu])) ho.2 hq
       refine⟨by rw[okL];exact⟨a1,b1⟩,?_,?_⟩
       ·rw[depthL,depthL];omega
       ·rw[kzL,kzL,sizeL,Nat.add_mul];omega
     ·cases hl
   obtain⟨c1,c2,c3⟩:=this ts l ih h3 hl
   show okT q M (.mk n l)∧(Tm.mk n l).depth≤_∧kzT (.mk n l)≤_
   refine⟨okT_mk.2 ⟨h1,by rw[inzL_len hl];exact h2,c1⟩,?_,?_⟩
   ·rw[depth_eq,depth_eq,args_mk,args_mk];omega
   ·rw[kzT_mk,kzT_mk,size_eq,args_mk,Nat.add_mul];omega
open Go.Ab
set_option maxRecDepth 100000
set_option maxHeartbeats 8000000
def eStr (s:ByteArray):AV:= .sc (.string s)
mutual
def lvs:Tm→List ByteArray
 | .mk s ts=>if ts.length=0 then[s]else lvsS ts
def lvsS:List Tm→List ByteArray
 | []=> []
 |t::r=>lvs t++lvsS r
end
theorem lvs_mk {s:ByteArray} {ts:List Tm}:lvs (.mk s ts)=if ts.length=0 then[s]else lvsS ts:=rfl
theorem lvsS_append: ∀a b:List Tm,lvsS (a++b)=lvsS a++lvsS b
 | [],b=>by simp[lvsS]
 |t::r,b=>by simp[lvsS,lvsS_append r b]
theorem lvsS_next {ts:List Tm} {i:Nat} (h:i<ts.length):lvsS (ts.take (i+1))=lvsS (ts.take i)++lvs ts[i]:=by
 rw[take_next h,lvsS_append];simp[lvsS]
theorem lvsS_take_le (ts:List Tm) (i:Nat):(lvsS (ts.take i)).length≤(lvsS ts).length:=by
 have:=lvsS_append (ts.take i) (ts.drop i)
 rw[List.take_append_drop]at this
 simp only[this,List.length_append];omega
theorem lvs_pos: ∀t:Tm,0<(lvs t).length:=by
 refine tm_ind fun t ih=>?_
 obtain⟨s,ts⟩:=t
 simp only[args_mk]at ih
 rw[lvs_mk]
 split
 ·simp
 ·cases ts with
  |nil=>simp at*
  |cons u r=>
   have:=ih u (by simp)
   simp only[lvsS,List.length_append];omega
theorem lvsS_ge: ∀ts:List Tm,ts.length≤(lvsS ts).length
 | []=>Nat.le_refl _
 |t::r=>by
  have:=lvsS_ge r
  have:=lvs_pos t
  simp only[lvsS,List.length_append,List.length_cons];omega
theorem leaves_row: ∀t:Tm,∀xs:List ByteArray,xs.length+(lvs t).length≤1000000→MCall Tryz.prog 69 [.ref 1000 0 xs.length,eT t] [(1000,⟨true,false,true,1,xs.map eStr,0⟩)] (fun r o'=>r= .ref 1001 0 (xs++lvs t).length∧o'= [(1001,⟨true,false,false,1,(xs++lvs t).map eStr,0⟩)]):=by
 refine tm_ind fun t ih xs hb=>?_
 obtain⟨s,ts⟩:=t
 simp only[args_mk,name_mk]at*
 rw[lvs_mk]at*
 by_cases h0:ts.length=0
 ·rw[if_pos h0]at hb ⊢
  simp only[List.length_cons,List.length_nil]at hb
  refine mcall_of_awpL Tryz.func69 Tryz.call69 rfl (by simp[Tryz.ntmps69]) ?_;simp only[Tryz.ntmps69,Tryz.results69]
  repeat' (first|(refine awK fun _ _=>?_)|refine zHg ?_|(fail_if_success with_reducible refine Owe.mk ?_);(simp(disch:=omega) [go_sem,h0])|refine zAo ?_)
  refine endL_ret ⟨28,[(4,.ref 1001 0 (xs++ [s]).length)],[(1001,⟨true,false,false,1,(xs++ [s]).map eStr,0⟩)]⟩ [.ref 1001 0 (xs++ [s]).length] (Le.renSub [(15,1001)] [(1001,15)] (by simp[go_sem,eStr]) (by simp[go_sem,eStr]) (Le.sub4 rfl (by simp[go_sem,eStr]))) (by simp[go_sem,eStr]) ⟨by simp[pack],by simp⟩
 ·rw[if_neg h0]at hb ⊢
  have hle:=lvsS_take_le ts
  have hge:=lvsS_ge ts
  refine mcall_of_awpL Tryz.func69 Tryz.call69 rfl (by simp[Tryz.ntmps69]) ?_;simp only[Tryz.ntmps69,Tryz.results69]
  repeat' (first|(refine awK fun _ _=>?_)|refine zHg ?_|(fail_if_success with_reducible refine Owe.mk ?_);(simp(disch:=omega) [go_sem,h0]))
  refine awp_for [17,18] [900,1000] (fun i:Nat=> [(19,nt .i64 i),(0,.ref 900 0 (xs++lvsS (ts.take i)).length)]) (fun i:Nat=> [(900,⟨true,false,false,1,(xs++lvsS (ts.take i)).map eStr,0⟩)]) (fun i:Nat=>ts.length - i) (fun i:Nat=>i≤ts.length) (0) (by refine Le.trans ?_ (Le.move (i:=0) (T:=1000) (T':=900) rfl (by show(0:Nat)≠1;decide) rfl rfl rfl);exact(Le.sub4 rfl (by simp[go_sem,List.take_zero,lvsS]))) ⟨?_⟩ ?_
  ·exact Nat.zero_le _
  intro i hi AA hAA;simp only[kL,Nat.reduceBEq,Nat.reduceEqDiff,if_true,if_false,List.cons_append,List.nil_append,List.append_nil]
  by_cases hlt:i<ts.length
  ·have hn:=lvsS_next hlt
   have hl1:=hle (i+1)
   rw[hn]at hl1
   rw[List.length_append]at hl1
   have hu:=ih ts[i] (List.getElem_mem hlt) (xs++lvsS (ts.take i)) (by rw[List.length_append];omega)
   rw[List.append_assoc,←hn]at hu
   generalize xs++lvsS (ts.take i)=A at*
   repeat' (first|(refine awK fun _ _=>?_)|refine zHg ?_|(fail_if_success with_reducible refine Owe.mk ?_);(simp(disch:=omega) [go_sem,hlt]))
   refine stepK_fis [(1000,900)] [(900,1000)] 10000 _ _ (Fits.mk' (by simp[go_sem]) (by simp[go_sem])) (by simp[go_sem]) (by simp[go_sem]) (hu) (by simp[go_sem]) (by simp[go_sem]) ?_
   repeat' (first|refine zHg ?_|refine(hAA.next (i+1) (Le.renSub [(11001,900)] [(900,11001)] (by simp[go_sem]) (by simp[go_sem]) (Le.sub4 rfl (by simp[go_sem]))) (by(try dsimp only);omega) ?_)|(fail_if_success with_reducible refine Owe.mk ?_);(simp(disch:=omega) [go_sem,hlt]))
   all_goals(first|omega|skip)
   exact⟨hlt⟩
  ·obtain rfl:i=ts.length:=by omega
   rw[List.take_length]
   repeat' (first|(refine awK fun _ _=>?_)|refine zHg ?_|(fail_if_success with_reducible refine Owe.mk ?_);(simp(disch:=omega) [go_sem]))
   refine endL_ret ⟨28,[(4,.ref 1001 0 (xs++lvsS ts).length)],[(1001,⟨true,false,false,1,(xs++lvsS ts).map eStr,0⟩)]⟩ [.ref 1001 0 (xs++lvsS ts).length] (Le.renSub [(900,1001)] [(1001,900)] (by simp[go_sem]) (by simp[go_sem]) (Le.sub4 rfl (by simp[go_sem]))) (by simp[go_sem]) ⟨by simp[pack],by simp⟩
theorem leaves_ok (t:Tm) (hb:(lvs t).length≤1000000):ACall Tryz.prog 69 [.list false true [],eT t] (fun r=>r= .own 1 ((lvs t).map eStr)):=by
 obtain⟨s,ts⟩:=t
 rw[lvs_mk]at*
 by_cases h0:ts.length=0
 ·rw[if_pos h0]at hb ⊢
  refine acall_of_awp Tryz.func69 Tryz.call69 rfl (by simp[Tryz.ntmps69]) ?_;simp only[Tryz.ntmps69,Tryz.results69]
  repeat' (first|(refine awK fun _ _=>?_)|refine zHg ?_|refine end_ret [] ?_;simp[go_sem,h0,eStr]|(fail_if_success with_reducible refine Owe.mk ?_);(simp(disch:=omega) [go_sem,h0,eStr]))
 ·rw[if_neg h0]at hb ⊢
  have hle:=lvsS_take_le ts
  have hge:=lvsS_ge ts
  refine acall_of_awp Tryz.func69 Tryz.call69 rfl (by simp[Tryz.ntmps69]) ?_;simp only[Tryz.ntmps69,Tryz.results69]
  repeat' (first|(refine awK fun _ _=>?_)|refine zHg ?_|(fail_if_success with_reducible refine Owe.mk ?_);(simp(disch:=omega) [go_sem,h0]))
  refine awp_for [17,18] [900] (fun i:Nat=> [(19,nt .i64 i),(0,.ref 900 0 (lvsS (ts.take i)).length)]) (fun i:Nat=> [(900,⟨true,false,false,1,(lvsS (ts.take i)).map eStr,0⟩)]) (fun i:Nat=>ts.length - i) (fun i:Nat=>i≤ts.length) (0) (by refine Le.trans ?_ (Le.nil (i:=0) (T:=900) (es:=1) rfl);exact(Le.sub4 rfl (by simp[go_sem,List.take_zero,lvsS]))) ⟨?_⟩ ?_
  ·exact Nat.zero_le _
  intro i hi AA hAA;simp only[kL,Nat.reduceBEq,Nat.reduceEqDiff,if_true,if_false,List.cons_append,List.nil_append,List.append_nil]
  by_cases hlt:i<ts.length
  ·have hn:=lvsS_next hlt
   have hl1:=hle (i+1)
   rw[hn]at hl1
   rw[List.length_append]at hl1
   have hu:=leaves_row ts[i] (lvsS (ts.take i)) (by omega)
   rw[←hn]at hu
   generalize lvsS (ts.take i)=A at*
   repeat' (first|(refine awK fun _ _=>?_)|refine zHg ?_|(fail_if_success with_reducible refine Owe.mk ?_);(simp(disch:=omega) [go_sem,hlt]))
   refine stepK_fis [(1000,900)] [(900,1000)] 10000 _ _ (Fits.mk' (by simp[go_sem]) (by simp[go_sem])) (by simp[go_sem]) (by simp[go_sem]) (hu) (by simp[go_sem]) (by simp[go_sem]) ?_
   repeat' (first|refine zHg ?_|refine(hAA.next (i+1) (Le.renSub [(11001,900)] [(900,11001)] (by simp[go_sem]) (by simp[go_sem]) (Le.sub4 rfl (by simp[go_sem]))) (by(try dsimp only);omega) ?_)|(fail_if_success with_reducible refine Owe.mk ?_);(simp(disch:=omega) [go_sem,hlt]))
   all_goals(first|omega|skip)
   exact⟨hlt⟩
  ·obtain rfl:i=ts.length:=by omega
   rw[List.take_length]
   repeat' (first|(refine awK fun _ _=>?_)|refine zHg ?_|refine end_ret [] ?_;simp[go_sem]|(fail_if_success with_reducible refine Owe.mk ?_);(simp(disch:=omega) [go_sem]))
end Go.Proofs.YtkbglbcphjmiiaaGreatDoor
