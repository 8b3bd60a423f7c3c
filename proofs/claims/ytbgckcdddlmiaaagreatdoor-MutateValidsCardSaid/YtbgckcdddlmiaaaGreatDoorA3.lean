import Derived.Test.YtbgckcdddlmiaaaGreatDoorA2
set_option linter.all false
namespace Go.Ab
open Go.RowKit
def A3:List AV->Bool
 | []=>true
 |r::rs=> !oJ r&&A3 rs
def J8:AV->Bool
 | .own _ _=>false
 | .tup rs=>A3 rs
 |_=>true
def xM (P:Program) [Glob P] (r:Res) (d:Option Nat) (k:ASt->Prop) (s:ASt):Prop:=
 match r,d with
 | .v r,some d=>r.need/\d<s.n/\k (s.put d r.val)
 | .c g as,some d=>d<s.n/\ ∃bs v,lK s.o as=some bs/\ACall P g bs (fun x=>x=v)/\J8 v=true/\k (s.put d v)
 |_,_=>False
def J9 (d:Option Nat) (k:ASt->Prop) (s:ASt):Prop:=
 match d with
 |some d=>d<s.n/\k (s.put d .dead)
 |none=>False
def uC (d:Option Nat) (k:ASt->Prop) (s:ASt):Prop:=
 match d with
 |some d=>d<s.n/\k (s.put d (.tup []))
 |none=>False
def gB (o:Oper):Bool:=match o.op,o.dst,o.guard with
 | .alloc _,some _,none=>true
 |_,_,_=>false
def uD (P:Program) [Glob P] (o:Oper) (k:ASt->Prop) (s:ASt):Prop:=match gB o with
 |true=>J9 o.dst k s
 |false=>xM P (bA P o s) o.dst k s
def pS (P:Program) [Glob P]:List Oper->(ASt->Prop)->ASt->Prop
 | [],k,s=>k s
 |o::r,k,s=>match o.op,o.dst with
  | .alloc t,some d=>match aL P t with
   |some z=>z.plain=true/\d<s.n/\pS P r k ((s.adopt d (jA z)).put d (.ptr d 0 0))
   |none=>False
  |_,_=>False
def fK (P:Program) [Glob P] (g:GV) (o:Oper) (k:ASt->Prop) (s:ASt):Prop:=
 match g with
 | .run=>uD P o k s
 | .test b want=>(b=want->uD P o k s)/\(b≠want->uC o.dst k s)
 | .skip=>uC o.dst k s
 | .bad=>False
def lP (P:Program) [Glob P] (ops:Array Oper):Nat->List Oper->(ASt->Prop)->ASt->Prop
 |0,l,k,s=>pS P ((ops.toList.take (ops.size - l.length)).filter gB) (nN P ops l k) s
 |_+1,[],k,s=>False
 |m+1,o::r,k,s=>fK P (gX ops o.guard s) o (lP P ops m r k) s
def xN (P:Program) [Glob P] (o:Oper) (s:ASt) (v:AV):Prop:=
 (∃r:Sv,bA P o s= .v r/\r.need/\r.val=v)\/(∃g as bs,bA P o s= .c g as/\lK s.o as=some bs/\ACall P g bs (fun x=>x=v)/\J8 v=true)\/(gB o=true/\v= .dead)
def qS (P:Program) [Glob P] (ops:Array Oper) (o:Oper) (s:ASt) (v:AV):Prop:=
 match o.guard with
 |none=>xN P o s v
 |some (j,want)=>(∃b,(nM ops j).bind (lk s.t)=some (.sc (.bool b))/\((b=want/\xN P o s v)\/(b≠want/\v= .tup [])))\/((nM ops j).bind (lk s.t)=some (.tup [])/\v= .tup [])
def DR (P:Program) [Glob P] (ops:Array Oper):List Oper->List AV->ASt->ASt->Prop
 | [],[],s,s'=>s=s'
 |o::r,v::vs,s,s'=>qS P ops o s v/\ ∃d,o.dst=some d/\d<s.n/\DR P ops r vs (s.put d v) s'
 |_,_,_,_=>False
theorem aG4 {P:Program} [Glob P] {o:Oper} {k:ASt->Prop} {s:ASt} (h:uD P o k s): ∃d v,o.dst=some d/\d<s.n/\xN P o s v/\k (s.put d v):=by
 unfold uD at h
 split at h
 ·rename_i hal
  unfold J9 at h
  split at h
  ·rename_i d hd
   exact⟨d,.dead,hd,h.1,.inr (.inr ⟨hal,rfl⟩),h.2⟩
  ·exact h.elim
 ·unfold xM at h
  split at h
  ·rename_i r d hr hd
   exact⟨d,r.val,hd,h.2.1,.inl ⟨r,hr,h.1,rfl⟩,h.2.2⟩
  ·rename_i g as d hr hd
   obtain⟨h1,bs,v,h2,h3,h4,h5⟩:=h
   exact⟨d,v,hd,h1,.inr (.inl ⟨g,as,bs,hr,h2,h3,h4⟩),h5⟩
  ·exact h.elim
theorem aG5 {P:Program} [Glob P] {ops:Array Oper}: ∀(m:Nat) (l:List Oper) (k:ASt->Prop) (s:ASt),lP P ops m l k s-> ∃vs s',DR P ops (l.take m) vs s s'/\pS P ((ops.toList.take (ops.size - (l.drop m).length)).filter gB) (nN P ops (l.drop m) k) s'
 |0,l,k,s,h=>⟨[],s,rfl,h⟩
 |m+1,[],k,s,h=>h.elim
 |m+1,o::r,k,s,h=>by
  simp only[lP]at h
  have key: ∃d v,o.dst=some d/\d<s.n/\qS P ops o s v/\lP P ops m r k (s.put d v):=by
   unfold fK at h
   split at h
   ·rename_i hg
    have hg':o.guard=none:=by
     cases hgo:o.guard with
     |none=>rfl
     |some p=>
      obtain⟨j,want⟩:=p
      simp only[gX,hgo]at hg
      split at hg<;>cases hg
    obtain⟨d,v,h1,h2,h3,h4⟩:=aG4 h
    exact⟨d,v,h1,h2,by unfold qS;rw[hg'];exact h3,h4⟩
   ·rename_i b want hg
    obtain⟨j,hgo,hb⟩: ∃j,o.guard=some (j,want)/\(nM ops j).bind (lk s.t)=some (.sc (.bool b)):=by
     cases hgo:o.guard with
     |none=>simp[gX,hgo]at hg
     |some p=>
      obtain⟨j,want'⟩:=p
      simp only[gX,hgo]at hg
      split at hg
      ·rename_i b' hb
       obtain⟨rfl,rfl⟩:=GV.test.inj hg
       exact⟨j,rfl,hb⟩
      ·cases hg
      ·cases hg
    by_cases hbw:b=want
    ·obtain⟨d,v,h1,h2,h3,h4⟩:=aG4 (h.1 hbw)
     exact⟨d,v,h1,h2,by unfold qS;rw[hgo];exact .inl ⟨b,hb,.inl ⟨hbw,h3⟩⟩,h4⟩
    ·have h2:=h.2 hbw
     unfold uC at h2
     split at h2
     ·rename_i d hd
      exact⟨d,.tup [],hd,h2.1,by unfold qS;rw[hgo];exact .inl ⟨b,hb,.inr ⟨hbw,rfl⟩⟩,h2.2⟩
     ·exact h2.elim
   ·rename_i hg
    obtain⟨j,want,hgo,hb⟩: ∃j want,o.guard=some (j,want)/\(nM ops j).bind (lk s.t)=some (.tup []):=by
     cases hgo:o.guard with
     |none=>simp[gX,hgo]at hg
     |some p=>
      obtain⟨j,want'⟩:=p
      simp only[gX,hgo]at hg
      split at hg
      ·cases hg
      ·rename_i hb;exact⟨j,want',rfl,hb⟩
      ·cases hg
    unfold uC at h
    split at h
    ·rename_i d hd
     exact⟨d,.tup [],hd,h.1,by unfold qS;rw[hgo];exact .inr ⟨hb,rfl⟩,h.2⟩
    ·exact h.elim
   ·exact h.elim
  obtain⟨d,v,h1,h2,h3,h4⟩:=key
  obtain⟨vs,s',h5,h6⟩:=aG5 m r k (s.put d v) h4
  exact⟨v::vs,s',⟨h3,d,h1,h2,h5⟩,h6⟩
theorem aG6 {P:Program} [Glob P] {ops:Array Oper}: ∀{l:List Oper} {vs:List AV} {s s':ASt},DR P ops l vs s s'-> ∀(i:Nat) (o:Oper),l[i]?=some o->
 ∃si v d,vs[i]?=some v/\o.dst=some d/\d<s.n/\si.o=s.o/\qS P ops o si v/\ ∀t x,lk si.t t=some x->
  (∃(j:Nat) (oj:Oper),j<i/\l[j]?=some oj/\oj.dst=some t/\vs[j]?=some x)\/(lk s.t t=some x/\ ∀(j:Nat) (oj:Oper),j<i->l[j]?=some oj->oj.dst≠some t)
 | [],vs,s,s',h,i,o,ho=>by simp at ho
 |o'::r,[],s,s',h,i,o,ho=>h.elim
 |o'::r,v::vs,s,s',h,i,o,ho=>by
  obtain⟨h1,d,h2,h3,h4⟩:=h
  cases i with
  |zero=>
   simp at ho;subst ho
   exact⟨s,v,d,rfl,h2,h3,rfl,h1,fun t x hx=> .inr ⟨hx,fun j oj hj=>by omega⟩⟩
  |succ i=>
   simp at ho
   obtain⟨si,v',d',g1,g2,g3,g4,g5,g6⟩:=aG6 h4 i o ho
   refine⟨si,v',d',by simpa using g1,g2,g3,g4,g5,fun t x hx=>?_⟩
   rcases g6 t x hx with⟨j,oj,q1,q2,q3,q4⟩|⟨q1,q2⟩
   ·exact .inl ⟨j+1,oj,by omega,by simpa using q2,q3,by simpa using q4⟩
   ·simp only[ASt.put,lk]at q1
    by_cases hd:d=t
    ·rw[if_pos hd]at q1
     exact .inl ⟨0,o',by omega,rfl,by rw[h2,hd],by simpa using q1⟩
    ·rw[if_neg hd]at q1
     refine .inr ⟨q1,fun j oj hj hoj=>?_⟩
     cases j with
     |zero=>simp at hoj;subst hoj;rw[h2];simpa using hd
     |succ j=>exact q2 j oj (by omega) (by simpa using hoj)
theorem aG7 {P:Program} [Glob P] {ops:Array Oper}: ∀{l:List Oper} {vs:List AV} {s s':ASt},DR P ops l vs s s'->s'.o=s.o/\s'.n=s.n/\vs.length=l.length/\ ∀t x,lk s'.t t=some x->
 (∃(j:Nat) (oj:Oper),l[j]?=some oj/\oj.dst=some t/\vs[j]?=some x)\/(lk s.t t=some x/\ ∀(j:Nat) (oj:Oper),l[j]?=some oj->oj.dst≠some t)
 | [],[],s,s',h=>by obtain rfl:s=s':=h;exact⟨rfl,rfl,rfl,fun t x hx=> .inr ⟨hx,fun j oj hj=>by simp at hj⟩⟩
 | [],v::vs,s,s',h=>h.elim
 |o'::r,[],s,s',h=>h.elim
 |o'::r,v::vs,s,s',h=>by
  obtain⟨h1,d,h2,h3,h4⟩:=h
  obtain⟨e1,e2,e3,e4⟩:=aG7 h4
  refine⟨e1,e2,by simp[e3],fun t x hx=>?_⟩
  rcases e4 t x hx with⟨j,oj,q2,q3,q4⟩|⟨q1,q2⟩
  ·exact .inl ⟨j+1,oj,by simpa using q2,q3,by simpa using q4⟩
  ·simp only[ASt.put,lk]at q1
   by_cases hd:d=t
   ·rw[if_pos hd]at q1
    exact .inl ⟨0,o',rfl,by rw[h2,hd],by simpa using q1⟩
   ·rw[if_neg hd]at q1
    refine .inr ⟨q1,fun j oj hoj=>?_⟩
    cases j with
    |zero=>simp at hoj;subst hoj;rw[h2];simpa using hd
    |succ j=>exact q2 j oj (by simpa using hoj)
def kU (o:Oper) (j:Nat):Bool:=o.after.any fun e=>e.on==j&&Region.binds .any e
def xO (ops:Array Oper):Nat->Oper->Nat->Bool
 |0,_,_=>false
 |f+1,o,j=>kU o j||o.after.any fun e=>Region.binds .any e&&match ops[e.on]? with
  |some o'=>xO ops f o' j
  |none=>false
def gY (o:Oper) (t:Nat):Bool:=o.op.operands.any fun x=>match x with
 | .tmp u=>u==t
 |_=>false
def qT (ops:Array Oper) (j:Nat):Bool:=match ops[j]? with
 |some o=>(match o.op with
  | .move _=>true
  | .assign _=>true
  | .binOp _ _ _ _ _=>true
  | .extract _ _=>true
  |_=>false)&&o.guard.isNone&&match o.dst with
  |some d=>(List.range ops.size).all fun q=>match ops[q]? with
   |some o'=>decide (q=j)|| !(o'.dst==some d)
   |none=>false
  |none=>false
 |none=>false
def aG8 (ops:Array Oper) (m:Nat):Bool:=(List.range m).all fun j=>match ops[j]? with
 |some o=>(match o.op with
  | .binOp _ _ _ _ _=>false
  |_=>true)
 |none=>true
def qU (ops:Array Oper) (m j:Nat):Bool:=aG8 ops m&&match ops[j]? with
 |some o=>(match o.op with
  | .load _ _=>true
  | .fieldAddr _ _ _=>true
  |_=>false)&&o.guard.isNone&&match o.dst with
  |some d=>(List.range ops.size).all fun q=>match ops[q]? with
   |some o'=>decide (q=j)|| !(o'.dst==some d)
   |none=>false
  |none=>false
 |none=>false
def Y9 (o:Oper):Bool:=match o.op with
 | .buildSlice _ _ _=>true
 |_=>false
def nP (ops:Array Oper) (m:Nat):Bool:=
 let n:=ops.size
 decide (m<=n)&&
 (List.range n).all fun i=>match ops[i]? with
  |none=>false
  |some o=>
   pL o.op&&
   (o.after.all fun e=> !Region.binds .any e||decide (e.on<i))&&
   (match o.guard with
    |none=>true
    |some (j,_)=>decide (j<i)&&kU o j&&((ops[j]?).bind (·.dst)).isSome)&&
   (decide (i<m)||(List.range i).all fun j=>xO ops n o j||(decide (j<m)&&(qT ops j||(qU ops m j&&Y9 o))))&&
   (List.range n).all fun j=>match ops[j]? with
    |none=>false
    |some o'=>match o'.dst with
     |none=>true
     |some t=>(decide (i=j)|| !(o.dst==some t)||decide (m<=i)||decide (m<=j))&&(!gY o t||(decide (j<i)&&kU o j)||(decide (i<j)&&kU o' i))
theorem K1 {ops:Array Oper} {m:Nat} (h:nP ops m=true):m<=ops.size/\ ∀(i:Nat) (o:Oper),ops[i]?=some o->pL o.op=true/\(∀e∈o.after,Region.binds .any e=true->e.on<i)/\
 (∀j want,o.guard=some (j,want)->j<i/\kU o j=true/\((ops[j]?).bind (·.dst)).isSome=true)/\(m<=i-> ∀j,j<i->xO ops ops.size o j=true\/(j<m/\(qT ops j=true\/(qU ops m j=true/\Y9 o=true))))/\
 ∀(j:Nat) (o':Oper) (t:Nat),ops[j]?=some o'->o'.dst=some t->(o.dst=some t->i<m->j<m->i=j)/\(gY o t=true->(j<i/\kU o j=true)\/(i<j/\kU o' i=true)):=by
 unfold nP at h
 simp only[Bool.and_eq_true,decide_eq_true_eq,List.all_eq_true,List.mem_range]at h
 obtain⟨hm,h⟩:=h
 refine⟨hm,fun i o ho=>?_⟩
 have hi:i<ops.size:=(Array.getElem?_eq_some_iff.1 ho).1
 have hx:=h i hi
 simp only[ho,Bool.and_eq_true,List.all_eq_true,List.mem_range]at hx
 obtain⟨⟨⟨⟨h1,h2⟩,h3⟩,h4⟩,h5⟩:=hx
 refine⟨h1,fun e he hb=>?_,fun j want hg=>?_,fun hmi j hj=>?_,fun j o' t ho' ht=>?_⟩
 ·have:=(Array.all_eq_true_iff_forall_mem.1 h2) e he
  simpa[hb]using this
 ·rw[hg]at h3
  simp at h3
  exact⟨h3.1.1,h3.1.2,by simpa using h3.2⟩
 ·simp at h4
  rcases h4 with hh|hh
  ·omega
  ·exact hh j hj
 ·have hj:j<ops.size:=(Array.getElem?_eq_some_iff.1 ho').1
  have:=h5 j hj
  simp only[ho',ht,Bool.and_eq_true,Bool.or_eq_true,decide_eq_true_eq,Bool.not_eq_true',beq_eq_false_iff_ne]at this
  obtain⟨g1,g2⟩:=this
  refine⟨fun hd him hjm=>?_,fun hr=>?_⟩
  ·rcases g1 with((hh|hh)|hh)|hh
   ·exact hh
   ·exact(hh hd).elim
   ·omega
   ·omega
  ·rcases g2 with(hh|hh)|hh
   ·rw[hr]at hh;cases hh
   ·exact .inl hh
   ·exact .inr hh
theorem vN {o:Oper} {j:Nat} (h:kU o j=true): ∃e∈o.after,e.on=j/\Region.binds .any e=true:=by
 unfold kU at h
 rw[Array.any_eq_true]at h
 obtain⟨i,hi,he⟩:=h
 simp at he
 exact⟨o.after[i],Array.getElem_mem hi,he.1,he.2⟩
theorem K2 {ops:Array Oper} {X:Array Bool} (hcl: ∀(i:Nat) (o:Oper),ops[i]?=some o->X.getD i true=true-> ∀e∈o.after,Region.binds .any e=true->X.getD e.on true=true):
 ∀(f:Nat) (o:Oper) (j:Nat),(∀e∈o.after,Region.binds .any e=true->X.getD e.on true=true)->xO ops f o j=true->X.getD j true=true
 |0,o,j,_,h=>by cases h
 |f+1,o,j,hd,h=>by
  simp only[xO,Bool.or_eq_true]at h
  rcases h with h|h
  ·obtain⟨e,he,hej,heb⟩:=vN h
   rw[<-hej];exact hd e he heb
  ·rw[Array.any_eq_true]at h
   obtain⟨q,hq,he⟩:=h
   simp only[Bool.and_eq_true]at he
   obtain⟨hb,he⟩:=he
   split at he
   ·rename_i o' ho'
    exact K2 hcl f o' j (fun e' he' hb'=>hcl _ o' ho' (hd _ (Array.getElem_mem hq) hb) e' he' hb') he
   ·cases he
theorem mem_ready {ops:Array Oper} {X:Array Bool} {i:Nat}:i∈Region.ready .any ops X↔i<ops.size/\X.getD i true=false/\ ∃o,ops[i]?=some o/\ ∀e∈o.after,Region.binds .any e=true->X.getD e.on false=true:=by
 simp only[Region.ready,List.mem_filter,List.mem_range,Bool.and_eq_true,Bool.not_eq_true']
 constructor
 ·rintro⟨h1,h2,h3⟩
  refine⟨h1,h2,?_⟩
  cases ho:ops[i]? with
  |none=>simp[ho]at h3
  |some o=>
   simp[ho]at h3
   refine⟨o,rfl,fun e he hb=>?_⟩
   obtain⟨q,hq,rfl⟩:=Array.mem_iff_getElem.1 he
   have:=h3 q hq
   simpa[hb]using this
 ·rintro⟨h1,h2,o,ho,h3⟩
  refine⟨h1,h2,?_⟩
  simp[ho]
  intro q hq
  cases hb:Region.binds .any o.after[q]with
  |false=>simp
  |true=>have:=h3 _ (Array.getElem_mem hq) hb;simpa using this
theorem A4 {ops:Array Oper} {j:Nat} (h:qT ops j=true): ∃o d,ops[j]?=some o/\o.dst=some d/\o.guard=none/\((∃x,o.op= .move x)\/(∃x,o.op= .assign x)\/(∃op t x y yt,o.op= .binOp op t x y yt)\/ ∃x i,o.op= .extract x i)/\
 ∀(q:Nat) (o':Oper),ops[q]?=some o'->q≠j->o'.dst≠some d:=by
 unfold qT at h
 split at h
 ·rename_i o ho
  simp only[Bool.and_eq_true]at h
  obtain⟨⟨h1,h2⟩,h3⟩:=h
  split at h3
  ·rename_i d hd
   refine⟨o,d,ho,hd,by simpa using h2,?_,fun q o' hq hne=>?_⟩
   ·split at h1
    ·rename_i x hx;exact .inl ⟨x,hx⟩
    ·rename_i x hx;exact .inr (.inl ⟨x,hx⟩)
    ·rename_i op t x y yt hx;exact .inr (.inr (.inl ⟨op,t,x,y,yt,hx⟩))
    ·rename_i x i hx;exact .inr (.inr (.inr ⟨x,i,hx⟩))
    ·cases h1
   ·rw[List.all_eq_true]at h3
    have hlt:q<ops.size:=(Array.getElem?_eq_some_iff.1 hq).1
    have:=h3 q (List.mem_range.2 hlt)
    rw[hq]at this
    simpa[hne]using this
  ·cases h3
 ·cases h
theorem K3 {ops:Array Oper} {m j:Nat} (h:qU ops m j=true):aG8 ops m=true/\ ∃o d,ops[j]?=some o/\o.dst=some d/\o.guard=none/\((∃t x,o.op= .load t x)\/ ∃t x f,o.op= .fieldAddr t x f)/\
 ∀(q:Nat) (o':Oper),ops[q]?=some o'->q≠j->o'.dst≠some d:=by
 unfold qU at h
 rw[Bool.and_eq_true]at h
 refine⟨h.1,?_⟩
 have h:=h.2
 split at h
 ·rename_i o ho
  simp only[Bool.and_eq_true]at h
  obtain⟨⟨h1,h2⟩,h3⟩:=h
  split at h3
  ·rename_i d hd
   refine⟨o,d,ho,hd,by simpa using h2,?_,fun q o' hq hne=>?_⟩
   ·split at h1
    ·rename_i t x hx;exact .inl ⟨t,x,hx⟩
    ·rename_i t x f hx;exact .inr ⟨t,x,f,hx⟩
    ·cases h1
   ·rw[List.all_eq_true]at h3
    have hlt:q<ops.size:=(Array.getElem?_eq_some_iff.1 hq).1
    have:=h3 q (List.mem_range.2 hlt)
    rw[hq]at this
    simpa[hne]using this
  ·cases h3
 ·cases h
def Ext (w w':World):Prop:= ∀k,k<w.heap.size->w'.heap[k]?=w.heap[k]?
theorem Ext.refl (w:World):Ext w w:=fun _ _=>rfl
theorem Ext.trans {a b c:World} (h:Ext a b) (k:Ext b c):Ext a c:=fun i hi=>by
 have h1:=h i hi
 have hs: ∃o,a.heap[i]?=some o:=⟨a.heap[i],by simp[hi]⟩
 obtain⟨o,ho⟩:=hs
 rw[ho]at h1
 rw[k i (gJ h1),h1,ho]
def fD {α:Type} (g:Bool):Sem α->Prop
 | .pure _=>True
 | .load _ _ k=> ∀v,fD g (k v)
 | .new _ k=>g=true/\ ∀r,fD g (k r)
 | .shape _ k=> ∀s,fD g (k s)
 | .frozen _ k=> ∀b,fD g (k b)
 | .getObj _ k=> ∀o,fD g (k o)
 | .program k=> ∀p,fD g (k p)
 | .choose _ k=> ∀n,fD g (k n)
 | .mark _ k=>fD g k
 | .halt _=>True
 |_=>False
theorem Z0 {P:Program} [Glob P] {α:Type} {g:Bool}: ∀(m:Sem α) {w w':World} {a:α},fD g m->m.run P w= .ok a w'->Ext w w':=by
 intro m
 induction m with
 |pure a=>intro w w' b _ h;simp only[Sem.run]at h;cases h;exact Ext.refl _
 |load mm a k ih=>
  intro w w' b hm h
  simp only[Sem.run]at h
  split at h
  ·exact ih _ (hm _) h
  ·split at h
   ·exact ih _ (hm _) h
   ·cases h
 |new o k ih=>
  intro w w' b hm h
  simp only[Sem.run]at h
  refine Ext.trans ?_ (ih _ (hm.2 _) h)
  intro i hi
  simp only
  rw[Array.getElem?_push,if_neg (by omega)]
 |shape r k ih=>intro w w' b hm h;simp only[Sem.run]at h;exact ih _ (hm _) h
 |frozen a k ih=>intro w w' b hm h;simp only[Sem.run]at h;exact ih _ (hm _) h
 |getObj r k ih=>
  intro w w' b hm h
  simp only[Sem.run]at h
  split at h
  ·cases h
  ·exact ih _ (hm _) h
  ·cases h
 |program k ih=>intro w w' b hm h;simp only[Sem.run]at h;exact ih _ (hm _) h
 |choose q k ih=>
  intro w w' b hm h
  simp only[Sem.run]at h
  split at h
  ·exact ih _ (hm _) h
  ·exact(show Ext w {heap:=w.heap,tape:=w.tape,drawn:=w.drawn+1,os:=w.os,output:=w.output} from fun i hi=>rfl).trans (ih _ (hm _) h)
 |mark x k ih=>intro w w' b hm h;simp only[Sem.run]at h;exact ih hm h
 |halt x=>intro w w' b _ h;simp only[Sem.run]at h;cases h
 |_=>intro w w' b hm;exact hm.elim
theorem fE {α β:Type} {g:Bool} {f:α->Sem β} (hf: ∀a,fD g (f a)): ∀(x:Sem α),fD g x->fD g (x>>=f):=by
 intro x
 induction x with
 |pure a=>intro _;exact hf a
 |load mm a k ih=>intro h v;exact ih v (h v)
 |new o k ih=>intro h;exact⟨h.1,fun r=>ih r (h.2 r)⟩
 |shape r k ih=>intro h v;exact ih v (h v)
 |frozen a k ih=>intro h v;exact ih v (h v)
 |getObj r k ih=>intro h v;exact ih v (h v)
 |program k ih=>intro h v;exact ih v (h v)
 |choose q k ih=>intro h v;exact ih v (h v)
 |mark x k ih=>intro h;exact ih h
 |halt x=>intro h;trivial
 |_=>intro h;exact h.elim
theorem uE {α:Type} {g:Bool} (a:α):fD g (pure a:Sem α):=trivial
theorem Z1 {g:Bool}:fD g program:=fun _=>trivial
theorem Z2 {g:Bool} (t:TypeId):fD g (underlying t):=by
 unfold underlying
 refine fE (fun p=>?_) _ Z1
 split
 ·trivial
 ·trivial
theorem aG9 {g:Bool} (t:TypeId):fD g (typeInfo t):=by
 unfold typeInfo
 refine fE (fun p=>?_) _ Z1
 split
 ·trivial
 ·trivial
theorem Z3 {g:Bool} (t:TypeId):fD g (sizeOf t):=by
 unfold sizeOf
 exact fE (fun p=>uE _) _ (aG9 t)
theorem aR1 {g:Bool} (t:TypeId):fD g (zeroValue t):=by
 unfold zeroValue
 refine fE (fun p=>?_) _ (aG9 t)
 split
 ·trivial
 ·trivial
theorem aR2 {g:Bool} (t:TypeId):fD g (isAgg t):=by
 unfold isAgg
 refine fE (fun p=>?_) _ (Z2 t)
 split<;>trivial
theorem aHa {g:Bool} (a:Addr): ∀(n i:Nat) (acc:Array Value),fD g (loadCellsFrom a i n acc)
 |0,i,acc=>trivial
 |n+1,i,acc=>by
  unfold loadCellsFrom
  exact fE (fun v=>aHa a n (i+1) _) _ (fun v=>trivial)
theorem aR3 {g:Bool} (t:TypeId) (v:Value):fD g (Instr.loadAt t v):=by
 unfold Instr.loadAt
 refine fE (fun a=>?_) _ (by unfold Instr.sureAddr;split<;>trivial)
 unfold loadVar
 refine fE (fun b=>?_) _ (aR2 t)
 split
 ·refine fE (fun n=>?_) _ (Z3 t)
  unfold loadCells
  exact fE (fun c=>uE _) _ (aHa a _ _ _)
 ·exact fun v=>trivial
theorem aHb {g:Bool} (r:Nat):fD g (shape r):=fun _=>trivial
theorem aR4 {g:Bool} (r:Nat):fD g (viewAt r):=by
 unfold viewAt
 refine fE (fun s=>?_) _ (aHb r)
 split
 ·trivial
 ·refine fE (fun o=>?_) _ (fun _=>trivial)
  split<;>trivial
theorem aR5 {g:Bool} (a:Addr):fD g (noView a):=by
 unfold noView
 refine fE (fun s=>?_) _ (aR4 _)
 split<;>trivial
theorem aHc {g:Bool} (a:Addr):fD g (byteOf a):=by
 unfold byteOf
 split
 ·trivial
 ·refine fE (fun p=>fE (fun _=>fE (fun x=>?_) _ (aHb _)) _ (aR5 a)) _ Z1
  split
  ·dsimp only
   split
   ·trivial
   ·split<;>trivial
  ·trivial
theorem aR6 {g:Bool} (t:TypeId) (v:Value) (f:Nat):fD g (Instr.fieldAt t v f):=by
 unfold Instr.fieldAt
 refine fE (fun d=>?_) _ (Z2 t)
 split
 ·split
  ·refine fE (fun a=>fE (fun b=>uE _) _ ?_) _ (by unfold Instr.sureAddr;split<;>trivial)
   unfold fieldPlace
   refine fE (fun n=>?_) _ (Z3 _)
   split
   ·unfold partAt
    exact fE (fun b=>fE (fun c=>uE _) _ (aHc _)) _ (aHc _)
   ·trivial
  ·trivial
 ·trivial
theorem aR7 (e:TypeId) (cells:Array Value):fD true (newRow e cells):=by
 unfold newRow
 exact fE (fun b=>uE _) _ ⟨rfl,fun r=>trivial⟩
theorem aR8 (t:TypeId) (len:Nat) (parts:Array (Nat×Value)):fD true (Instr.buildSlice t len parts):=by
 unfold Instr.buildSlice
 refine fE (fun d=>?_) _ (Z2 t)
 split
 ·refine fE (fun n=>?_) _ (Z3 _)
  dsimp only
  have key: ∀(zero:Array Value) (elem:TypeId),fD true (match Instr.fill (fun i=>some (i*n,n)) (Array.map (fun x=>zero[x % zero.size]!) (Array.range (len*n))) parts.toList with
   |some cells=>do
    let r<-newRow elem cells
    pure (Value.slice (some r) len len)
   |_=>stuck "buildSlice: a part of the wrong size"):=fun zero elem=>by
   split
   ·exact fE (fun b=>uE _) _ (aR7 _ _)
   ·trivial
  split
  ·trivial
  ·split
   ·exact fE (fun z=>key z _) _ (uE _)
   ·exact fE (fun v=>fE (fun z=>key z _) _ (uE _)) _ (aR1 _)
 ·trivial
def sB (o:Oper):Bool:=match o.op with
 | .move _=>true
 | .assign _=>true
 | .load _ _=>true
 | .fieldAddr _ _ _=>true
 | .buildSlice _ _ _=>true
 | .extract _ _=>true
 |_=>false
theorem A5 {P:Program} [Glob P] {s:Sem Value} {w w':World} {n:Next} (h:(do pure (Next.value (<-s)):Sem Next).run P w= .ok n w'): ∃v,n= .value v/\s.run P w= .ok v w':=by
 rw[Sem.run_bind]at h
 cases hs:s.run P w with
 |ok v w1=>
  rw[hs,Result.andThen_ok]at h
  cases h
  exact⟨v,rfl,rfl⟩
 |halt x w1=>rw[hs]at h;cases h
theorem aR9 {P:Program} [Glob P] {o:Oper} {ev:Operand->Value} {w w':World} {n:Next} (hk:sB o=true) (h:(execOp ev o).run P w= .ok n w'): ∃v,n= .value v/\Ext w w':=by
 unfold sB at hk
 split at hk
 ·rename_i x e
  simp only[execOp,e]at h
  cases h
  exact⟨_,rfl,Ext.refl _⟩
 ·rename_i x e
  simp only[execOp,e]at h
  cases h
  exact⟨_,rfl,Ext.refl _⟩
 ·rename_i t x e
  simp only[execOp,e]at h
  obtain⟨v,rfl,h2⟩:=A5 h
  exact⟨v,rfl,Z0 (g:=true) _ (aR3 _ _) h2⟩
 ·rename_i t x f e
  simp only[execOp,e]at h
  obtain⟨v,rfl,h2⟩:=A5 h
  exact⟨v,rfl,Z0 (g:=true) _ (aR6 _ _ _) h2⟩
 ·rename_i t l ps e
  simp only[execOp,e]at h
  obtain⟨v,rfl,h2⟩:=A5 h
  exact⟨v,rfl,Z0 (g:=true) _ (aR8 _ _ _) h2⟩
 ·rename_i x i e
  simp only[execOp,e]at h
  obtain⟨v,rfl,h2⟩:=A5 h
  refine⟨v,rfl,?_⟩
  have:w'=w:=by
   unfold Instr.extract at h2
   split at h2
   ·split at h2
    ·cases h2;rfl
    ·simp[Go.stuck]at h2
   ·simp[Go.stuck]at h2
  subst this
  exact Ext.refl _
 ·cases hk
theorem put_comm (a:Act) {d d':Nat} (h:d≠d') (z v:Value):(a.put (some d) z).put (some d') v=(a.put (some d') v).put (some d) z:=by
 simp only[Act.put]
 rw[Array.setIfInBounds_comm _ _ h]
theorem aSa {ro:Option Nat} {P:Program} [Glob P] {ops:Array Oper} {m:Nat} (hok:nP ops m=true) {Q:Exit->Act->World->Prop} (hQ: ∀e a w,Q e a w->e= .normal) {l:Nat} (hlz:qT ops l=true) {o:Oper} (ho:ops[l]?=some o) {d:Nat} (hd:o.dst=some d) (z:Value):
 ∀(fuel:Nat) (X:Array Bool) (a:Act) (w:World),X.size=ops.size->l∈Region.ready .any ops X->(∀w,(execOp a.eval o).run P w= .ok (.value z) w)->
  iG ro P .any ops Q fuel (X.setIfInBounds l true) (a.put (some d) z) w->iG ro P .any ops Q (fuel+1) X a w:=by
 obtain⟨hm,hop⟩:=K1 hok
 obtain⟨o',d',ho',hd',hg,hkind,huniq⟩:=A4 hlz
 obtain rfl:o=o':=Option.some.inj (ho.symm.trans ho')
 obtain rfl:d=d':=Option.some.inj (hd.symm.trans hd')
 obtain⟨s1,s2,s3,s4,s5⟩:=hop l o ho
 intro fuel
 induction fuel using Nat.strongRecOn with
 |_ fuel ih=>
 intro X a w hsz hl hrun h
 have hgd: ∀j,j<ops.size->X.getD j false=X.getD j true:=fun j hj=>by
  simp[Array.getD_eq_getD_getElem?,hsz,hj]
 obtain⟨hln,hlx,_,ho2,hldep⟩:=mem_ready.1 hl
 obtain rfl:=Option.some.inj (ho.symm.trans ho2)
 refine⟨fun hnil=>by rw[hnil]at hl;simp at hl,fun i hi=>?_⟩
 by_cases hil:i=l
 ·subst hil
  simp only[wOp,ho]
  rw[if_pos (by simp[Region.wanted,hg])]
  unfold oW
  rw[hrun w,nO,hd]
  exact h
 ·obtain⟨hin,hix,oi,hoi,hidep⟩:=mem_ready.1 hi
  obtain⟨c1,c2,c3,c4,c5⟩:=hop i oi hoi
  have hXg: ∀(Y:Array Bool) (u j:Nat),Y.size=ops.size->j<ops.size->(Y.setIfInBounds u true).getD j true=if j=u then true else Y.getD j true:=fun Y u j hY hj=>by
   rw[Array.getD_eq_getD_getElem?,Array.getElem?_setIfInBounds]
   by_cases hju:u=j
   ·subst hju;simp[hY,hj]
   ·rw[if_neg hju,<-Array.getD_eq_getD_getElem?,if_neg (Ne.symm hju)]
  have hXf: ∀(Y:Array Bool) (u j:Nat),Y.size=ops.size->j<ops.size->(Y.setIfInBounds u true).getD j false=if j=u then true else Y.getD j false:=fun Y u j hY hj=>by
   rw[Array.getD_eq_getD_getElem?,Array.getElem?_setIfInBounds]
   by_cases hju:u=j
   ·subst hju;simp[hY,hj]
   ·rw[if_neg hju,<-Array.getD_eq_getD_getElem?,if_neg (Ne.symm hju)]
  have hdone: ∀j,kU oi j=true->X.getD j true=true:=fun j hw=>by
   obtain⟨e,he1,he2,he3⟩:=vN hw
   have h4:=hidep e he1 he3
   have h5:=c2 e he1 he3
   rw[hgd _ (by omega),he2]at h4;exact h4
  have hdonel: ∀j,kU o j=true->X.getD j true=true:=fun j hw=>by
   obtain⟨e,he1,he2,he3⟩:=vN hw
   have h4:=hldep e he1 he3
   have h5:=s2 e he1 he3
   rw[hgd _ (by omega),he2]at h4;exact h4
  have hwd:oi.dst≠some d:=huniq i oi hoi hil
  have hrd:gY oi d=false:=by
   cases hr:gY oi d with
   |false=>rfl
   |true=>
    rcases(c5 l o d ho hd).2 hr with hh|hh
    ·have:=hdone l hh.2;rw[hlx]at this;cases this
    ·have:=hdonel i hh.2;rw[hix]at this;cases this
  have hlr: ∀t,oi.dst=some t->gY o t=false:=fun t ht=>by
   cases hr:gY o t with
   |false=>rfl
   |true=>
    rcases(s5 i oi t hoi ht).2 hr with hh|hh
    ·have:=hdonel i hh.2;rw[hix]at this;cases this
    ·have:=hdone l hh.2;rw[hlx]at this;cases this
  have hcong: ∀(b b':Act) (q:Oper),pL q.op=true->(∀t,gY q t=true->b.tmps.getD t undef=b'.tmps.getD t undef)->execOp b.eval q=execOp b'.eval q:=fun b b' q hs hb=>
   execOp_congr q (fun cs bb he=>by simp[he,pL]at hs) (fun x hx=>by
    cases x with
    |tmp u=>
     have hr:gY q u=true:=by
      unfold gY
      rw[Array.any_eq_true]
      obtain⟨r,hr,he⟩:=Array.mem_iff_getElem.1 hx
      exact⟨r,hr,by simp[he]⟩
     exact hb u hr
    |_=>rfl)
  have hgetput: ∀(b:Act) (u:Nat) (v:Value) (t:Nat),t≠u->(b.put (some u) v).tmps.getD t undef=b.tmps.getD t undef:=fun b u v t ht=>by
   simp only[Act.put,Array.getD_eq_getD_getElem?,Array.getElem?_setIfInBounds,if_neg (Ne.symm ht)]
  have hex:execOp (a.put (some d) z).eval oi=execOp a.eval oi:=hcong _ _ oi c1 fun t ht=>hgetput a d z t (by rintro rfl;rw[hrd]at ht;cases ht)
  have hi2:i∈Region.ready .any ops (X.setIfInBounds l true):=mem_ready.2 ⟨hin,by rw[hXg X l i hsz hin,if_neg hil];exact hix,oi,hoi,fun e he hb=>by
   have h5:=c2 e he hb
   rw[hXf X l e.on hsz (by omega)]
   split
   ·rfl
   ·exact hidep e he hb⟩
  cases fuel with
  |zero=>
   have:=h.1
   rw[this]at hi2;simp at hi2
  |succ f=>
   have h2:=h.2 i hi2
   have hl2:l∈Region.ready .any ops (X.setIfInBounds i true):=mem_ready.2 ⟨hln,by rw[hXg X i l hsz hln,if_neg (Ne.symm hil)];exact hlx,o,ho,fun e he hb=>by
    have h5:=s2 e he hb
    rw[hXf X i e.on hsz (by omega)]
    split
    ·rfl
    ·exact hldep e he hb⟩
   have hK: ∀(df:List Deferred) (v:Value) (w':World),iG ro P .any ops Q f ((X.setIfInBounds l true).setIfInBounds i true) (({a with defers:=df}.put (some d) z).put oi.dst v) w'->
    iG ro P .any ops Q (f+1) (X.setIfInBounds i true) ({a with defers:=df}.put oi.dst v) w':=by
    intro df v w' hk
    refine ih f (by omega) (X.setIfInBounds i true) _ w' (by simpa using hsz) hl2 (fun w=>?_) ?_
    ·have he:execOp (({a with defers:=df}:Act).put oi.dst v).eval o=execOp a.eval o:=hcong _ _ o s1 fun t ht=>by
      cases hdi:oi.dst with
      |none=>rfl
      |some u=>exact hgetput {a with defers:=df} u v t (by rintro rfl;rw[hlr t hdi]at ht;cases ht)
     exact(congrArg (fun e=>Sem.run P e w) he).trans (hrun w)
    ·rw[Array.setIfInBounds_comm _ _ hil]
     cases hdi:oi.dst with
     |none=>rw[hdi]at hk;exact hk
     |some u=>
      rw[hdi]at hk hwd
      rw[<-put_comm _ (by rintro rfl;exact hwd rfl)]
      exact hk
   simp only[wOp,hoi]at h2 ⊢
   have hwant:Region.wanted oi (yielded ops (a.put (some d) z).tmps)=Region.wanted oi (yielded ops a.tmps):=by
    unfold Region.wanted
    cases hgi:oi.guard with
    |none=>rfl
    |some p=>
     obtain⟨j,want⟩:=p
     obtain⟨k1,k2,k3⟩:=c3 j want hgi
     have:yielded ops (a.put (some d) z).tmps j=yielded ops a.tmps j:=by
      unfold yielded
      cases hj:(ops[j]?).bind (·.dst)with
      |none=>rfl
      |some dj=>
       have hne:d≠dj:=by
        rintro rfl
        cases hoj:ops[j]? with
        |none=>simp[hoj]at hj
        |some oj=>
         simp[hoj]at hj
         have hjl:j≠l:=by
          rintro rfl
          have:=hdone j k2;rw[hlx]at this;cases this
         exact huniq j oj hoj hjl hj
       simp only[Option.bind_some,Act.put,Array.getElem?_setIfInBounds,if_neg hne]
     simp only[this]
   rw[hwant]at h2
   split at h2
   ·rename_i hw
    rw[if_pos hw]
    unfold oW at h2 ⊢
    rw[hex]at h2
    generalize(execOp a.eval oi).run P w=r at h2 ⊢
    cases r with
    |ok n w'=>
     cases n<;>simp only[mJ]at h2 ⊢ <;>
      first
       |exact hK a.defers _ _ h2
       |exact Calls.mono h2 (fun e w'' he=>by
        cases e with
        |returned v=>exact hK a.defers _ _ he
        |panicked c=>have:=hQ _ _ _ he;cases this
        |outgrown=>exact he)
       |exact RoundIn.mono h2 (fun e w'' he=>by
        cases e with
        |returned v=>exact hK a.defers _ _ he
        |panicked c=>have:=hQ _ _ _ he;cases this
        |outgrown=>exact he)
    |halt x w'=>
     cases x<;>simp only[mJ]at h2 ⊢
     have:=hQ _ _ _ h2;cases this
   ·rename_i hw
    rw[if_neg hw]
    exact hK a.defers _ _ h2
theorem aSb {ro:Option Nat} {P:Program} [Glob P] {ops:Array Oper} {m:Nat} (hok:nP ops m=true) {Q:Exit->Act->World->Prop} (hQ: ∀e a w,Q e a w->e= .normal) {l:Nat} (hlz:qU ops m l=true) (hlm:l<m) {o:Oper} (ho:ops[l]?=some o) {d:Nat} (hd:o.dst=some d) (z:Value):
 ∀(fuel:Nat) (X:Array Bool) (a:Act) (w:World),X.size=ops.size->l∈Region.ready .any ops X->(∀(i:Nat) (o:Oper),ops[i]?=some o->X.getD i true=true-> ∀e∈o.after,Region.binds .any e=true->X.getD e.on true=true)->(∀q,q<m->X.getD q true=false->qT ops q=true\/qU ops m q=true)->
  (∀w',Ext w w'->(execOp a.eval o).run P w'= .ok (.value z) w')->
  iG ro P .any ops Q fuel (X.setIfInBounds l true) (a.put (some d) z) w->iG ro P .any ops Q (fuel+1) X a w:=by
 obtain⟨hm,hop⟩:=K1 hok
 obtain⟨hnb,o',d',ho',hd',hg,hkind,huniq⟩:=K3 hlz
 obtain rfl:o=o':=Option.some.inj (ho.symm.trans ho')
 obtain rfl:d=d':=Option.some.inj (hd.symm.trans hd')
 obtain⟨s1,s2,s3,s4,s5⟩:=hop l o ho
 intro fuel
 induction fuel using Nat.strongRecOn with
 |_ fuel ih=>
 intro X a w hsz hl hcl hpend hrun h
 have hgd: ∀j,j<ops.size->X.getD j false=X.getD j true:=fun j hj=>by
  simp[Array.getD_eq_getD_getElem?,hsz,hj]
 obtain⟨hln,hlx,_,ho2,hldep⟩:=mem_ready.1 hl
 obtain rfl:=Option.some.inj (ho.symm.trans ho2)
 refine⟨fun hnil=>by rw[hnil]at hl;simp at hl,fun i hi=>?_⟩
 by_cases hil:i=l
 ·subst hil
  simp only[wOp,ho]
  rw[if_pos (by simp[Region.wanted,hg])]
  unfold oW
  rw[hrun w (Ext.refl w),nO,hd]
  exact h
 ·obtain⟨hin,hix,oi,hoi,hidep⟩:=mem_ready.1 hi
  obtain⟨c1,c2,c3,c4,c5⟩:=hop i oi hoi
  have hmild:sB oi=true:=by
   have hwl:m<=i->xO ops ops.size oi l=true->False:=fun hmi hw=>by
    have:=K2 (X:=X) hcl ops.size oi l (fun e he hb=>by
     have h6:=c2 e he hb
     have:=hidep e he hb
     rw[hgd e.on (by omega)]at this;exact this) hw
    rw[hlx]at this;cases this
   rcases Nat.lt_or_ge i m with him|hmi
   ··have hnbi: ∀op t x y yt,oi.op≠ .binOp op t x y yt:=fun op t x y yt he=>by
      have:=List.all_eq_true.1 hnb i (List.mem_range.2 him)
      rw[hoi]at this
      simp[he]at this
     rcases hpend i him hix with hb|hb
     ·obtain⟨o2,_,e1,_,_,e2,_⟩:=A4 hb
      obtain rfl:=Option.some.inj (hoi.symm.trans e1)
      rcases e2 with⟨x,e2⟩|⟨x,e2⟩|⟨op,t,x,y,yt,e2⟩|⟨x,i,e2⟩
      ·unfold sB;rw[e2]
      ·unfold sB;rw[e2]
      ·exact absurd e2 (hnbi op t x y yt)
      ·unfold sB;rw[e2]
     ·obtain⟨_,o2,_,e1,_,_,e2,_⟩:=K3 hb
      obtain rfl:=Option.some.inj (hoi.symm.trans e1)
      rcases e2 with⟨t,x,e2⟩|⟨t,x,f,e2⟩
      ·unfold sB;rw[e2]
      ·unfold sB;rw[e2]
   ·rcases c4 hmi l (by omega)with hw|⟨_,hw|⟨_,hw⟩⟩
    ·exact(hwl hmi hw).elim
    ·exfalso
     obtain⟨o2,_,e1,_,_,e2,_⟩:=A4 hw
     obtain rfl:=Option.some.inj (ho.symm.trans e1)
     rcases hkind with⟨t,x,e3⟩|⟨t,x,f,e3⟩<;>(rw[e3]at e2;rcases e2 with⟨x,e2⟩|⟨x,e2⟩|⟨op,t,x,y,yt,e2⟩|⟨x,i,e2⟩<;>cases e2)
    ·unfold Y9 at hw
     unfold sB
     split at hw
     ·rename_i e3;rw[e3]
     ·cases hw
  have hXg: ∀(Y:Array Bool) (u j:Nat),Y.size=ops.size->j<ops.size->(Y.setIfInBounds u true).getD j true=if j=u then true else Y.getD j true:=fun Y u j hY hj=>by
   rw[Array.getD_eq_getD_getElem?,Array.getElem?_setIfInBounds]
   by_cases hju:u=j
   ·subst hju;simp[hY,hj]
   ·rw[if_neg hju,<-Array.getD_eq_getD_getElem?,if_neg (Ne.symm hju)]
  have hXf: ∀(Y:Array Bool) (u j:Nat),Y.size=ops.size->j<ops.size->(Y.setIfInBounds u true).getD j false=if j=u then true else Y.getD j false:=fun Y u j hY hj=>by
   rw[Array.getD_eq_getD_getElem?,Array.getElem?_setIfInBounds]
   by_cases hju:u=j
   ·subst hju;simp[hY,hj]
   ·rw[if_neg hju,<-Array.getD_eq_getD_getElem?,if_neg (Ne.symm hju)]
  have hdone: ∀j,kU oi j=true->X.getD j true=true:=fun j hw=>by
   obtain⟨e,he1,he2,he3⟩:=vN hw
   have h4:=hidep e he1 he3
   have h5:=c2 e he1 he3
   rw[hgd _ (by omega),he2]at h4;exact h4
  have hdonel: ∀j,kU o j=true->X.getD j true=true:=fun j hw=>by
   obtain⟨e,he1,he2,he3⟩:=vN hw
   have h4:=hldep e he1 he3
   have h5:=s2 e he1 he3
   rw[hgd _ (by omega),he2]at h4;exact h4
  have hwd:oi.dst≠some d:=huniq i oi hoi hil
  have hrd:gY oi d=false:=by
   cases hr:gY oi d with
   |false=>rfl
   |true=>
    rcases(c5 l o d ho hd).2 hr with hh|hh
    ·have:=hdone l hh.2;rw[hlx]at this;cases this
    ·have:=hdonel i hh.2;rw[hix]at this;cases this
  have hlr: ∀t,oi.dst=some t->gY o t=false:=fun t ht=>by
   cases hr:gY o t with
   |false=>rfl
   |true=>
    rcases(s5 i oi t hoi ht).2 hr with hh|hh
    ·have:=hdonel i hh.2;rw[hix]at this;cases this
    ·have:=hdone l hh.2;rw[hlx]at this;cases this
  have hcong: ∀(b b':Act) (q:Oper),pL q.op=true->(∀t,gY q t=true->b.tmps.getD t undef=b'.tmps.getD t undef)->execOp b.eval q=execOp b'.eval q:=fun b b' q hs hb=>
   execOp_congr q (fun cs bb he=>by simp[he,pL]at hs) (fun x hx=>by
    cases x with
    |tmp u=>
     have hr:gY q u=true:=by
      unfold gY
      rw[Array.any_eq_true]
      obtain⟨r,hr,he⟩:=Array.mem_iff_getElem.1 hx
      exact⟨r,hr,by simp[he]⟩
     exact hb u hr
    |_=>rfl)
  have hgetput: ∀(b:Act) (u:Nat) (v:Value) (t:Nat),t≠u->(b.put (some u) v).tmps.getD t undef=b.tmps.getD t undef:=fun b u v t ht=>by
   simp only[Act.put,Array.getD_eq_getD_getElem?,Array.getElem?_setIfInBounds,if_neg (Ne.symm ht)]
  have hex:execOp (a.put (some d) z).eval oi=execOp a.eval oi:=hcong _ _ oi c1 fun t ht=>hgetput a d z t (by rintro rfl;rw[hrd]at ht;cases ht)
  have hi2:i∈Region.ready .any ops (X.setIfInBounds l true):=mem_ready.2 ⟨hin,by rw[hXg X l i hsz hin,if_neg hil];exact hix,oi,hoi,fun e he hb=>by
   have h5:=c2 e he hb
   rw[hXf X l e.on hsz (by omega)]
   split
   ·rfl
   ·exact hidep e he hb⟩
  cases fuel with
  |zero=>
   have:=h.1
   rw[this]at hi2;simp at hi2
  |succ f=>
   have h2:=h.2 i hi2
   have hl2:l∈Region.ready .any ops (X.setIfInBounds i true):=mem_ready.2 ⟨hln,by rw[hXg X i l hsz hln,if_neg (Ne.symm hil)];exact hlx,o,ho,fun e he hb=>by
    have h5:=s2 e he hb
    rw[hXf X i e.on hsz (by omega)]
    split
    ·rfl
    ·exact hldep e he hb⟩
   have hK: ∀(df:List Deferred) (v:Value) (w':World),Ext w w'->iG ro P .any ops Q f ((X.setIfInBounds l true).setIfInBounds i true) (({a with defers:=df}.put (some d) z).put oi.dst v) w'->
    iG ro P .any ops Q (f+1) (X.setIfInBounds i true) ({a with defers:=df}.put oi.dst v) w':=by
    intro df v w' hE hk
    refine ih f (by omega) (X.setIfInBounds i true) _ w' (by simpa using hsz) hl2 (fun i' o' ho' hx' e he hb=>?_) (fun q hqm hq=>?_) (fun w2 hw2=>?_) ?_
    ·have hi':i'<ops.size:=(Array.getElem?_eq_some_iff.1 ho').1
     have hon:e.on<i':=(hop i' o' ho').2.1 e he hb
     rw[hXg X i e.on hsz (by omega)]
     rw[hXg X i i' hsz hi']at hx'
     split
     ·rfl
     ·by_cases hii:i'=i
      ·subst hii
       obtain rfl:=Option.some.inj (ho'.symm.trans hoi)
       have:=hidep e he hb
       rw[hgd e.on (by omega)]at this;exact this
      ·rw[if_neg hii]at hx'
       exact hcl i' o' ho' hx' e he hb
    ·have hqs:q<ops.size:=by omega
     rw[hXg X i q hsz hqs]at hq
     split at hq
     ·cases hq
     ·exact hpend q hqm hq
    ·have he:execOp (({a with defers:=df}:Act).put oi.dst v).eval o=execOp a.eval o:=hcong _ _ o s1 fun t ht=>by
      cases hdi:oi.dst with
      |none=>rfl
      |some u=>exact hgetput {a with defers:=df} u v t (by rintro rfl;rw[hlr t hdi]at ht;cases ht)
     exact(congrArg (fun e=>Sem.run P e w2) he).trans (hrun w2 (hE.trans hw2))
    ·rw[Array.setIfInBounds_comm _ _ hil]
     cases hdi:oi.dst with
     |none=>rw[hdi]at hk;exact hk
     |some u=>
      rw[hdi]at hk hwd
      rw[<-put_comm _ (by rintro rfl;exact hwd rfl)]
      exact hk
   simp only[wOp,hoi]at h2 ⊢
   have hwant:Region.wanted oi (yielded ops (a.put (some d) z).tmps)=Region.wanted oi (yielded ops a.tmps):=by
    unfold Region.wanted
    cases hgi:oi.guard with
    |none=>rfl
    |some p=>
     obtain⟨j,want⟩:=p
     obtain⟨k1,k2,k3⟩:=c3 j want hgi
     have:yielded ops (a.put (some d) z).tmps j=yielded ops a.tmps j:=by
      unfold yielded
      cases hj:(ops[j]?).bind (·.dst)with
      |none=>rfl
      |some dj=>
       have hne:d≠dj:=by
        rintro rfl
        cases hoj:ops[j]? with
        |none=>simp[hoj]at hj
        |some oj=>
         simp[hoj]at hj
         have hjl:j≠l:=by
          rintro rfl
          have:=hdone j k2;rw[hlx]at this;cases this
         exact huniq j oj hoj hjl hj
       simp only[Option.bind_some,Act.put,Array.getElem?_setIfInBounds,if_neg hne]
     simp only[this]
   rw[hwant]at h2
   split at h2
   ·rename_i hw
    rw[if_pos hw]
    unfold oW at h2 ⊢
    rw[hex]at h2
    cases hr:(execOp a.eval oi).run P w with
    |ok n w'=>
     rw[hr]at h2
     obtain⟨v,rfl,hE⟩:=aR9 hmild hr
     simp only[mJ]at h2 ⊢
     exact hK a.defers _ _ hE h2
    |halt x w'=>
     rw[hr]at h2
     cases x<;>simp only[mJ]at h2 ⊢
     have:=hQ _ _ _ h2;cases this
   ·rename_i hw
    rw[if_neg hw]
    exact hK a.defers _ _ (Ext.refl w) h2
theorem aSc {ro:Option Nat} {P:Program} [Glob P] {ops:Array Oper} {m:Nat} (hok:nP ops m=true) {k:ASt->Prop} {Q:Exit->Act->World->Prop} {C:Cx} [GOk P C] (hk: ∀a' w' s' F' μ',k s'->SR C F' μ' s' a' w'->Q .normal a' w'):
 ∀(fuel i:Nat) (X:Array Bool) (s:ASt) (F μ) (a:Act) (w:World),X.size=ops.size->m<=i->i<=ops.size->(∀j,j<ops.size->(X.getD j true=true↔j<i))->ops.size - i<=fuel->
  nN P ops (ops.toList.drop i) k s->SR C F μ s a w->iG ro P .any ops Q fuel X a w:=by
 obtain⟨hm,hop⟩:=K1 hok
 have hready: ∀(i:Nat) (X:Array Bool),X.size=ops.size->m<=i->(∀j,j<ops.size->(X.getD j true=true↔j<i))-> ∀q,q∈Region.ready .any ops X↔(q=i/\i<ops.size):=by
  intro i X hsz hmi hX q
  have hgd: ∀j,j<ops.size->X.getD j false=X.getD j true:=fun j hj=>by
   simp[Array.getD_eq_getD_getElem?,hsz,hj]
  rw[mem_ready]
  constructor
  ·rintro⟨h1,h2,o,ho,h3⟩
   have hnq: ¬q<i:=fun hq=>by rw[(hX q h1).2 hq]at h2;cases h2
   by_cases hqi:q=i
   ·exact⟨hqi,hqi▸h1⟩
   ·exfalso
    have hiq:i<q:=by omega
    obtain⟨g1,g2,g3,g4,g5⟩:=hop q o ho
    have:=K2 (X:=X) (fun j o' ho' hXj e he hb=>by
     have hj:j<ops.size:=(Array.getElem?_eq_some_iff.1 ho').1
     have h5:=(hX j hj).1 hXj
     have h6:=(hop j o' ho').2.1 e he hb
     exact(hX e.on (by omega)).2 (by omega)) ops.size o i (fun e he hb=>by
     have h6:=g2 e he hb
     have:=h3 e he hb
     rw[hgd e.on (by omega)]at this;exact this) ((g4 (by omega) i hiq).resolve_right (fun hh=>by have:=hh.1;omega))
    have:=(hX i (by omega)).1 this
    omega
  ·rintro⟨rfl,h1⟩
   have ho:ops[q]?=some ops[q]:=by simp[h1]
   obtain⟨g1,g2,g3,g4,g5⟩:=hop q ops[q] ho
   refine⟨h1,?_,ops[q],ho,fun e he hb=>?_⟩
   ·cases hx:X.getD q true with
    |false=>rfl
    |true=>have:=(hX q h1).1 hx;omega
   ·have:=g2 e he hb
    rw[hgd _ (by omega)]
    exact(hX _ (by omega)).2 this
 intro fuel
 induction fuel with
 |zero=>
  intro i X s F μ a w hsz hmi hin hX hf h hs
  have hi:i=ops.size:=by omega
  subst hi
  rw[List.drop_of_length_le (by simp)]at h
  refine⟨?_,hk _ _ _ _ _ h hs⟩
  rw[List.eq_nil_iff_forall_not_mem]
  intro q hq
  have:=(hready _ X hsz hmi hX q).1 hq
  omega
 |succ fuel ih=>
  intro i X s F μ a w hsz hmi hin hX hf h hs
  refine⟨fun hnil=>?_,fun q hq=>?_⟩
  ·have hi:i=ops.size:=by
    by_cases hh:i<ops.size
    ·have:i∈Region.ready .any ops X:=(hready i X hsz hmi hX i).2 ⟨rfl,hh⟩
     rw[hnil]at this;simp at this
    ·omega
   subst hi
   rw[List.drop_of_length_le (by simp)]at h
   exact hk _ _ _ _ _ h hs
  ·obtain⟨rfl,hlt⟩:=(hready i X hsz hmi hX q).1 hq
   have ho:ops[q]?=some ops[q]:=by simp[hlt]
   have hdrop:ops.toList.drop q=ops[q]::ops.toList.drop (q+1):=by
    rw[List.drop_eq_getElem_cons (by simpa using hlt)];simp
   have hX': ∀j,j<ops.size->((X.setIfInBounds q true).getD j true=true↔j<q+1):=fun j hj=>by
    rw[Array.getD_eq_getD_getElem?,Array.getElem?_setIfInBounds]
    by_cases hjq:q=j
    ·subst hjq;simp[hsz,hlt]
    ·rw[if_neg hjq,<-Array.getD_eq_getD_getElem?,hX j hj];omega
   have rest: ∀a' w' s' F' μ',nN P ops (ops.toList.drop (q+1)) k s'->SR C F' μ' s' a' w'->iG ro P .any ops Q fuel (X.setIfInBounds q true) a' w':=
    fun a' w' s' F' μ' h' hs'=>ih (q+1) _ s' F' μ' a' w' (by simpa using hsz) (by omega) (by omega) hX' (by omega) h' hs'
   rw[hdrop]at h
   exact Y8 ho h hs rest
def uF (n:Nat) (X:Array Bool):Nat:=((List.range n).filter fun i=> !X.getD i true).length
theorem aSd {n:Nat} {X:Array Bool} {i:Nat} (hi:i<n) (hx:X.getD i true=false) (hsz:X.size=n):uF n (X.setIfInBounds i true)+1<=uF n X:=by
 have key: ∀l:List Nat,l.Nodup->i∈l->(l.filter fun j=> !(X.setIfInBounds i true).getD j true).length+1<=(l.filter fun j=> !X.getD j true).length:=by
  intro l
  induction l with
  |nil=>intro _ h;simp at h
  |cons a l ih=>
   intro hn hm
   have hn':=List.nodup_cons.1 hn
   by_cases ha:a=i
   ·subst ha
    have h1:(!(X.setIfInBounds a true).getD a true)=false:=by
     rw[Array.getD_eq_getD_getElem?,Array.getElem?_setIfInBounds,if_pos rfl,if_pos (by omega)];rfl
    have h2:(!X.getD a true)=true:=by rw[hx];rfl
    rw[List.filter_cons,h1,if_neg (by simp),List.filter_cons,h2,if_pos rfl,List.length_cons]
    have:(l.filter fun j=> !(X.setIfInBounds a true).getD j true)=l.filter fun j=> !X.getD j true:=by
     apply List.filter_congr
     intro j hj
     have hne:a≠j:=fun e=>hn'.1 (e▸hj)
     rw[Array.getD_eq_getD_getElem?,Array.getElem?_setIfInBounds,if_neg hne,<-Array.getD_eq_getD_getElem?]
    rw[this]
    omega
   ·have hm':i∈l:=(List.mem_cons.1 hm).resolve_left (fun hh=>ha hh.symm)
    have:=ih hn'.2 hm'
    have heq:(X.setIfInBounds i true).getD a true=X.getD a true:=by
     rw[Array.getD_eq_getD_getElem?,Array.getElem?_setIfInBounds,if_neg (Ne.symm ha),<-Array.getD_eq_getD_getElem?]
    rw[List.filter_cons,List.filter_cons,heq]
    split
    ·simp only[List.length_cons];omega
    ·exact this
 exact key _ List.nodup_range (List.mem_range.2 hi)
structure AlAt (P:Program) [Glob P] (C:Cx) (F:Bool->aZ) (μ:Pl) (o:aF) (a:Act) (w:World) (t d b:Nat):Prop where
 ptr:a.tmps.getD d undef= .pointer (some ⟨b,0,none⟩)
 cells: ∃zv,dQ P t=some zv/\w.heap[b]?=some (.cells zv.cells t (0,0))
 nb:Nb C F μ o b
structure Inv (P:Program) [Glob P] (ops:Array Oper) (m:Nat) (vs:List AV) (C:Cx) (F:Bool->aZ) (μ:Pl) (s:ASt) (X:Array Bool) (a:Act) (w:World):Prop where
 sw:SW C F μ s.o w
 defers:a.defers=C.df
 n:a.tmps.size=s.n
 done: ∀(i:Nat) (o:Oper) (d:Nat) (v:AV),ops[i]?=some o->i<m->X.getD i true=true->o.dst=some d->vs[i]?=some v->RV F (aE s.o μ) v (a.tmps.getD d undef)
 base: ∀(t:Nat) (x:AV),lk s.t t=some x->(∀(i:Nat) (o:Oper),ops[i]?=some o->i<m->X.getD i true=true->o.dst≠some t)->RV F (aE s.o μ) x (a.tmps.getD t undef)
 closed: ∀(i:Nat) (o:Oper),ops[i]?=some o->X.getD i true=true-> ∀e∈o.after,Region.binds .any e=true->X.getD e.on true=true
 al: ∀(i:Nat) (o:Oper) (t d:Nat),ops[i]?=some o->i<m->X.getD i true=true->gB o=true->o.op= .alloc t->o.dst=some d-> ∃b,AlAt P C F μ s.o a w t d b
 ald: ∀(i:Nat) (o:Oper) (d j:Nat) (o':Oper) (d' b:Nat),ops[i]?=some o->i<m->X.getD i true=true->gB o=true->o.dst=some d->ops[j]?=some o'->j<m->X.getD j true=true->gB o'=true->o'.dst=some d'->
  a.tmps.getD d undef= .pointer (some ⟨b,0,none⟩)->a.tmps.getD d' undef= .pointer (some ⟨b,0,none⟩)->i=j
theorem aHd {P:Program} [Glob P] {K:ASt->Prop}: ∀(al:List Oper) (s:ASt),pS P al K s-> ∀o∈al,∀t,o.op= .alloc t-> ∃zv,dQ P t=some zv
 | [],s,_,o,ho,_,_=>by simp at ho
 |o'::r,s,h,o,ho,t,ht=>by
  simp only[pS]at h
  split at h
  ·rename_i t' d hop hd
   split at h
   ·rename_i z hz
    obtain⟨_,_,h⟩:=h
    rcases List.mem_cons.1 ho with rfl|ho
    ·rw[hop]at ht
     obtain rfl:=Op.alloc.inj ht
     cases hzv:dQ P t' with
     |none=>simp[aL,hzv]at hz
     |some zv=>exact⟨zv,rfl⟩
    ·exact aHd r _ h o ho t ht
   ·exact h.elim
  ·exact h.elim
theorem SW.alloc {C F μ} {o:aF} {w:World} (h:SW C F μ o w) (c:Array Value) (e:TypeId):SW C F μ o (w.alloc (.cells c e (0,0))):=by
 have hold: ∀b,b<w.heap.size->(w.alloc (.cells c e (0,0))).heap[b]?=w.heap[b]?:=fun b hb=>pN hb
 refine⟨fun l b k v hv=>?_,h.sub,h.lentc,h.grow,h.newf,?_,fun L x hx=>?_,h.dist,h.excl,h.mine,h.keep⟩
 ·rw[qG (hold b (pI (h.facts l b k v hv)))];exact h.facts l b k v hv
 ·exact⟨h.fr.os,h.fr.tape,h.fr.output,by have:=h.fr.size;simp;omega,fun k hk hm=>by rw[hold k (Nat.lt_of_lt_of_le hk h.fr.size)];exact h.fr.block k hk hm,h.fr.drawn⟩
 ·have ho:=h.obj L x hx
  cases hm:μ L with
  |none=>rw[hm]at ho;exact ho
  |some p=>
   obtain⟨b,cap⟩:=p
   rw[hm]at ho
   obtain⟨_,g⟩:=ObjAt.lt ho
   exact ho.congr (hold b (gJ g)) (FLe.refl _) fun _ _=>rfl
theorem aHe {P:Program} [Glob P] {C:Cx} {F:Bool->aZ} {K:ASt->Prop} {a:Act} {w:World}: ∀(al:List Oper) (μ:Pl) (s:ASt),pS P al K s->SR C F μ s a w->
 (∀o∈al,∀t d,o.op= .alloc t->o.dst=some d-> ∃b,AlAt P C F μ s.o a w t d b)->
 al.Pairwise (fun o o'=> ∀(d d' b:Nat),o.dst=some d->o'.dst=some d'->a.tmps.getD d undef= .pointer (some ⟨b,0,none⟩)->a.tmps.getD d' undef≠ .pointer (some ⟨b,0,none⟩))->
 ∃μ' s',K s'/\SR C F μ' s' a w
 | [],μ,s,h,hs,_,_=>⟨μ,s,h,hs⟩
 |o::r,μ,s,h,hs,hall,hpw=>by
  obtain⟨hp1,hp2⟩:=List.pairwise_cons.1 hpw
  simp only[pS]at h
  split at h
  ·rename_i t d hop hd
   split at h
   ·rename_i z hz
    obtain⟨hp,hdn,h⟩:=h
    obtain⟨b,hb⟩:=hall o (by simp) t d hop hd
    obtain⟨zv,hzv,hheap⟩:=hb.cells
    have hcst:iZ zv=some z:=by simpa[aL,hzv]using hz
    have hrv:RV F bU z zv:=rS hcst
    have hx:=Fresh.box (e:=t) (hrv.cv hp)
    have hobj:lF F bU w (jA z) (some (b,1)):= .inl ⟨zv.cells,t,hheap,hx.size,hx.fits,hx.row,hx.es,fun i y j a' hy ha=>by
     obtain⟨v',g1,g2,g3⟩:=hx.rv i y j a' hy ha
     exact⟨v',g1,g2,g3,fun hz=>by rw[hx.fz]at hz;cases hz⟩,.inl rfl⟩
    have h1:=hs.renew0x (L:=d) (T:=d) (x:=jA z) (p:=some (b,1)) rfl rfl (Fr.refl _ _) hobj (fun b' c hbc=> .inl (by obtain⟨rfl,rfl⟩:=Prod.mk.inj (Option.some.inj hbc);exact hb.nb))
    have h2:SR C F (bJ μ d (some (b,1))) ((s.adopt d (jA z)).put d (.ptr d 0 0)) a w:=by
     refine⟨h1.sw,h1.defers,h1.n,fun i y hy=>?_⟩
     simp only[ASt.put,lk]at hy
     by_cases hi:d=i
     ·subst hi
      rw[if_pos rfl]at hy
      obtain rfl:=Option.some.inj hy
      rw[hb.ptr]
      have:= @RV.ptr F (aE (s.adopt d (jA z)).o (bJ μ d (some (b,1)))) d 0 0 b 1 (jA z).es (jA z).xs.length (W0 s d (jA z) μ (some (b,1))) (by simp[jA])
      show RV F (aE (s.adopt d (jA z)).o (bJ μ d (some (b,1)))) _ _
      simpa using this
     ·rw[if_neg hi]at hy
      exact h1.slot i y hy
    refine aHe r _ _ h h2 (fun o' ho' t' d' hop' hd'=>?_) hp2
    obtain⟨b',hb'⟩:=hall o' (by simp[ho']) t' d' hop' hd'
    have hne:b'≠b:=by
     rintro rfl
     exact hp1 o' ho' d d' b' hd hd' hb.ptr hb'.ptr
    refine⟨b',hb'.ptr,hb'.cells,hb'.nb.mine,hb'.nb.excl,fun i y c hy hm=>?_⟩
    by_cases hi:i=d
    ·subst hi
     simp[bJ]at hm
     exact hne hm.1.symm
    ·rcases aF0 (show lk (s.adopt d (jA z)).o i=some y from hy)with hh|⟨y0,hh⟩
     ·exact hi hh
     ·simp only[bJ,if_neg hi]at hm
      exact hb'.nb.free i y0 c hh hm
   ·exact h.elim
  ·exact h.elim
theorem Z4 {f:Nat->Bool}: ∀(l:List (Nat×AV)) (t:Nat) (x:AV),lk (l.filter fun p=>f p.1) t=some x->lk l t=some x/\f t=true
 | [],t,x,h=>by simp[lk]at h
 |(k,a)::l,t,x,h=>by
  rw[List.filter_cons]at h
  cases hf:f k with
  |true=>
   simp only[hf,if_true,lk]at h
   by_cases hk:k=t
   ·subst hk;rw[if_pos rfl]at h;exact⟨by simp only[lk,if_true];exact h,hf⟩
   ·rw[if_neg hk]at h
    obtain⟨g1,g2⟩:=Z4 l t x h
    exact⟨by simp only[lk,if_neg hk];exact g1,g2⟩
  |false=>
   simp only[hf,Bool.false_eq_true,if_false]at h
   obtain⟨g1,g2⟩:=Z4 l t x h
   have hk:k≠t:=by rintro rfl;rw[hf]at g2;cases g2
   exact⟨by simp only[lk,if_neg hk];exact g1,g2⟩
theorem aHf {f:Nat->Bool}: ∀(l:List (Nat×AV)) {t:Nat},f t=true->lk (l.filter fun p=>f p.1) t=lk l t
 | [],t,h=>rfl
 |(k,a)::l,t,h=>by
  rw[List.filter_cons]
  by_cases hk:k=t
  ·subst hk;simp only[h,if_true,lk]
  ·have:=aHf (f:=f) l h
   split
   ·simp only[lk,if_neg hk];exact this
   ·simp only[lk,if_neg hk];exact this
theorem aHg: ∀{rs:List AV} {i:Nat} {x:AV},A3 rs=true->rs[i]?=some x->oJ x=false
 | [],i,x,_,h=>by simp at h
 |r::rs,0,x,h,hx=>by simp at hx;subst hx;simp[A3]at h;exact h.1
 |r::rs,i+1,x,h,hx=>by simp at hx;simp[A3]at h;exact aHg h.2 hx
theorem K4 {α β:Type} {f g:α->Option β}: ∀{l:List α},(∀x∈l,f x=g x)->l.mapM f=l.mapM g
 | [],_=>rfl
 |x::l,h=>by rw[List.mapM_cons,List.mapM_cons,h x (by simp),K4 fun y hy=>h y (by simp[hy])]
theorem aSe {P:Program} [Glob P] {o:Oper} {ρ ρ':Operand->Option AV} (h: ∀x∈o.op.operands,ρ x=ρ' x):iE P o ρ=iE P o ρ':=by
 unfold iE
 by_cases hs:pL o.op=true
 ·have he:execOp (fun x=>rV ((ρ x).bind fJ)) o=execOp (fun x=>rV ((ρ' x).bind fJ)) o:=execOp_congr o (fun cs b he=>by simp[he,pL]at hs) (fun x hx=>by rw[h x hx])
  have hc:(∀x∈o.op.operands,((ρ x).bind fJ).isSome=true)↔(∀x∈o.op.operands,((ρ' x).bind fJ).isSome=true):=
   ⟨fun hh x hx=>by rw[<-h x hx];exact hh x hx,fun hh x hx=>by rw[h x hx];exact hh x hx⟩
  simp only[hs,true_and,he]
  by_cases hq: ∀x∈o.op.operands,((ρ x).bind fJ).isSome=true
  ·rw[if_pos hq,if_pos (hc.1 hq)]
  ·rw[if_neg hq,if_neg (fun hh=>hq (hc.2 hh))]
 ·simp[hs]
theorem K5 {P:Program} [Glob P] {o:Oper} {ρ ρ':Operand->Option AV} {ob:aF} (h: ∀x∈o.op.operands,ρ x=ρ' x):eD P o ρ ob=eD P o ρ' ob:=by
 have hopen:=aSe (P:=P) h
 obtain⟨dst,op,ty,pos,af,g⟩:=o
 cases op with
 |move x=>have:=h x (by simp[Op.operands]);simp only[eD,this]
 |assign x=>have:=h x (by simp[Op.operands]);simp only[eD,this]
 |pick c a b=>
  have h1:=h c (by simp[Op.operands])
  have h2:=h a (by simp[Op.operands])
  have h3:=h b (by simp[Op.operands])
  simp only[eD,h1,h2,h3]
 |load t a=>have:=h a (by simp[Op.operands]);simp only[eD,this]
 |binOp op t x y yt=>
  have h1:=h x (by simp[Op.operands])
  have h2:=h y (by simp[Op.operands])
  simp only[eD,h1,h2,hopen]
 |unOp op t x=>have:=h x (by simp[Op.operands]);simp only[eD,this]
 |convert s d x=>have:=h x (by simp[Op.operands]);simp only[eD,this,hopen]
 |fieldAddr s x f=>have:=h x (by simp[Op.operands]);simp only[eD,this]
 |field s x f=>have:=h x (by simp[Op.operands]);simp only[eD,this]
 |indexAddr t x i=>
  have h1:=h x (by simp[Op.operands])
  have h2:=h i (by simp[Op.operands])
  simp only[eD,h1,h2]
 |index t x i=>
  have h1:=h x (by simp[Op.operands])
  have h2:=h i (by simp[Op.operands])
  simp only[eD,h1,h2]
 |slice t x lo hi mx=>
  cases mx with
  |some _=>rfl
  |none=>
   have h1:=h x (by simp[Op.operands])
   have h2:lo.map ρ=lo.map ρ':=by
    cases lo with
    |none=>rfl
    |some y=>have:=h y (by simp[Op.operands]);simp[this]
   have h3:hi.map ρ=hi.map ρ':=by
    cases hi with
    |none=>rfl
    |some y=>have:=h y (by simp[Op.operands]);simp[this]
   simp only[eD,h1,h2,h3]
 |extract x i=>have:=h x (by simp[Op.operands]);simp only[eD,this]
 |build t parts=>
  have hp:oI ρ parts.toList=oI ρ' parts.toList:=K4 fun p hp=>by
   have:=h p.2 (by simp only[Op.operands];simp;exact⟨p.1,by simpa using hp⟩)
   rw[this]
  simp only[eD,hp]
 |makeFunc fn first caps=>
  have hp:nI ρ caps.toList=nI ρ' caps.toList:=K4 fun x hx=>h x (by simp only[Op.operands];simp at hx ⊢;exact .inr hx)
  cases fn<;>first|rfl|simp only[eD,hp]
 |nilCheck x=>have:=h x (by simp[Op.operands]);simp only[eD,this]
 |makeInterface t x=>exact hopen
 |typeAssert x t u ok=>exact hopen
 |call c=>
  obtain⟨callee,args,ts⟩:=c
  cases callee with
  |builtin b=>
   have hargs: ∀x∈args.toList,ρ x=ρ' x:=fun x hx=>h x (by simp[Op.operands,Call.operands]at hx ⊢;exact hx)
   cases b<;>first|rfl|exact hopen|skip
   ·simp only[eD]
    split
    ·rename_i x t hx ht
     rw[hargs x (by rw[hx];simp)]
    ·rfl
   ·simp only[eD]
    split
    ·rename_i x t hx ht
     rw[hargs x (by rw[hx];simp)]
    ·rfl
   ·simp only[eD]
    split
    ·rename_i x hx
     rw[hargs x (by rw[hx];simp),hopen]
    ·rfl
  |_=>rfl
 |_=>rfl
theorem aSf {P:Program} [Glob P] {o:Oper} {s s':ASt} {g:FuncId} {as:List AV} (hr:bA P o s= .c g as) (h: ∀x∈o.op.operands,ev s.t x=ev s'.t x):bA P o s'= .c g as:=by
 unfold bA at hr
 split at hr
 ·exact(pR hr).elim
 ·split at hr
  ·exact(pR hr).elim
  ·cases hr
 ·split at hr
  ·exact(pR hr).elim
  ·cases hr
 ·exact(pR hr).elim
 ·split at hr
  ·split at hr
   ·exact(pR hr).elim
   ·cases hr
  ·cases hr
 ·rename_i f xs ts d ho hd
  have h1:=h f (by simp[ho,Op.operands,Call.operands])
  have h2:nI (ev s.t) xs.toList=nI (ev s'.t) xs.toList:=K4 fun x hx=>h x (by simp[ho,Op.operands,Call.operands]at hx ⊢;exact .inr hx)
  unfold bA
  simp only[ho,hd]
  rw[<-h1,<-h2]
  exact hr
 ·exact(zZ hr).elim
 ·cases hr
theorem aHh {op k u v} {r:Sv} (h:qJ op k u v=some r): ∃z,r.val= .sc z:=by
 unfold qJ at h
 cases op<;>simp at h<;>subst h<;>exact⟨_,rfl⟩
theorem aSg {op u v} {r:Sv} (h:vC op u v=some r): ∃z,r.val= .sc z:=by
 unfold vC at h
 cases op<;>simp at h<;>subst h<;>exact⟨_,rfl⟩
theorem aSh {P:Program} [Glob P] {op:BinOp} {t:TypeId} {a b:AV} {r:Sv} (h:nF P op t a b=some r): ∃z,r.val= .sc z:=by
 unfold nF at h
 split at h
 ·split at h
  ·exact aHh h
  ·split at h
   ·exact aHh h
   ·cases h
 ·exact aSg h
 ·split at h
  ·split at h
   ·obtain rfl:=Option.some.inj h;exact⟨_,rfl⟩
   ·obtain rfl:=Option.some.inj h;exact⟨_,rfl⟩
   ·cases h
  ·cases h
 ·cases h
theorem aSi {P:Program} [Glob P] {op:BinOp} {t:TypeId} {a:AV} {y:Operand} {r:Sv} (h:qM P op t a y=some r): ∃z,r.val= .sc z:=by
 unfold qM at h
 split at h
 ·split at h
  ·obtain rfl:=Option.some.inj h;exact⟨_,rfl⟩
  ·obtain rfl:=Option.some.inj h;exact⟨_,rfl⟩
  ·cases h
 ·cases h
theorem aHi {P:Program} [Glob P] {F loc} {o:Oper} {ρ:Operand->Option AV} {ρv:Operand->Value} (hρ: ∀x a,ρ x=some a->RV F loc a (ρv x)) {r:Sv} (h:iE P o ρ=some r):
 ∃z,∀w,(execOp ρv o).run P w= .ok (.value z) w:=by
 unfold iE at h
 split at h
 ·rename_i hc
  obtain⟨hs,ha⟩:=hc
  split at h
  ·rename_i v hv
   have he:execOp ρv o=execOp (fun x=>rV ((ρ x).bind fJ)) o:=execOp_congr o (fun cs b he=>by simp[he,pL]at hs) (fun x hx=>by
    have:=ha x hx
    cases hr:ρ x with
    |none=>simp[hr]at this
    |some a=>
     cases ht:fJ a with
     |none=>simp[hr,ht]at this
     |some u=>simp[rV,ht];exact(vB (hρ x a hr) ht).symm)
   exact⟨v,fun w=>by rw[he];exact G9 hv w⟩
  ·cases h
 ·cases h
theorem aSj {P:Program} [Glob P] {F} {μ:Pl} {ob:aF} {ρ:Operand->Option AV} {ρv:Operand->Value} (hρ: ∀x a,ρ x=some a->RV F (aE ob μ) a (ρv x)) {o:Oper} {x:Operand} {i:Nat}
 (hx:o.op= .extract x i) {r:Sv} (h:eD P o ρ ob=some r): ∃z,∀w,(execOp ρv o).run P w= .ok (.value z) w:=by
 unfold eD at h
 simp only[hx]at h
 cases hp:ρ x with
 |none=>simp[hp]at h
 |some p=>
  rw[hp]at h
  split at h
  ·rename_i vs hpp
   obtain rfl:=Option.some.inj hpp
   cases hi:vs[i]? with
   |none=>simp[hi]at h
   |some c=>
    have hxv:=hρ x _ hp
    generalize hvx:ρv x=vx at hxv
    cases hxv with
    | @tup _ _ _ us h1 h2=>
     have hlt:i<us.size:=by rw[<-h1];exact(List.getElem?_eq_some_iff.1 hi).1
     exact⟨us[i],fun w=>by simp[execOp,hx,hvx,Instr.extract,hlt]⟩
  ·cases h
theorem aHj {P:Program} [Glob P] {F} {μ:Pl} {ob:aF} {ρ:Operand->Option AV} {ρv:Operand->Value} (hρ: ∀x a,ρ x=some a->RV F (aE ob μ) a (ρv x)) (hcst: ∀v,ρv (.const v)=v) {o:Oper} {op:BinOp} {t yt:TypeId} {x y:Operand}
 (ho:o.op= .binOp op t x y yt) {r:Sv} (h:eD P o ρ ob=some r) (hn:r.need): ∃z,∀w,(execOp ρv o).run P w= .ok (.value z) w:=by
 unfold eD at h
 rw[ho]at h
 simp only at h
 have fin:(∃z0,r.val= .sc z0)->(∀w,∃z,(do eqGuard op t x y (ρv x) (ρv y);binOp op t (ρv x) (ρv y):Sem Value).run P w= .ok z w/\RV F (aE ob μ) r.val z)-> ∃z,∀w,(execOp ρv o).run P w= .ok (.value z) w:=by
  rintro⟨z0,hz0⟩ hall
  refine⟨z0,fun w=>?_⟩
  obtain⟨z,h1,h2⟩:=hall w
  rw[hz0]at h2
  cases h2
  simp only[execOp,ho,Sem.run_bind,Result.andThen_ok]at h1 ⊢
  rw[h1];rfl
 split at h
 ·rename_i a b ha hb
  split at h
  ·rename_i r' hr
   obtain rfl:=Option.some.inj h
   exact fin (aSh hr) fun w=>aEo (P:=P) hr hn (hρ x a ha) (hρ y b hb) w x y
  ·split at h
   ·rename_i r' hr
    obtain rfl:=Option.some.inj h
    exact fin (aSi hr) fun w=>aE4 (P:=P) (x:=x) (v:=ρv y) hr (hρ x a ha) (fun z hz=>by rw[hz];exact hcst z) w
   ·split at h
    ·rename_i r' hr
     obtain rfl:=Option.some.inj h
     obtain⟨z,hz,hs,hrun⟩:=aE3 (P:=P) (x:=x) (y:=y) hr (hρ x a ha) (hρ y b hb)
     exact fin ⟨z,hz⟩ fun w=>⟨z,hrun w,by rw[hz];exact .sc hs⟩
    ·exact aHi hρ h
 ·cases h
theorem aSk {ro:Option Nat} {P:Program} [Glob P] {ops:Array Oper} {id m:Nat} (hmix:P.follows .mixedOrders=true) (hok:nP ops m=true) {k:ASt->Prop} {s:ASt} (h:lP P ops m ops.toList k s) {Q:Exit->Act->World->Prop} (hQ: ∀e a w,Q e a w->e= .normal) (C:Cx) [GOk P C] (F μ a w) (hs:SR C F μ s a w)
 (hk: ∀a' w' s' F' μ',k s'->SR C F' μ' s' a' w'->Q .normal a' w'):(Code.region id ops true).wpIn (fW ro) 0 P Q a w:=by
 obtain⟨hm,hop⟩:=K1 hok
 obtain⟨vs,s',hdr,htail⟩:=aG5 m ops.toList k s h
 obtain⟨e1,e2,e3,e4⟩:=aG7 hdr
 have htk: ∀(i:Nat) (o:Oper),(ops.toList.take m)[i]?=some o↔ops[i]?=some o/\i<m:=fun i o=>by
  rw[List.getElem?_take]
  by_cases hi:i<m
  ·rw[if_pos hi];simp[hi]
  ·rw[if_neg hi];simp[hi]
 have hlen:vs.length=m:=by rw[e3,List.length_take];simp;omega
 have hzeros: ∀(i:Nat) (o:Oper),ops[i]?=some o->i<m->gB o=true-> ∀t,o.op= .alloc t-> ∃zv,dQ P t=some zv:=by
  intro i o ho him hal t ht
  have htm:ops.size - (ops.toList.drop m).length=m:=by rw[List.length_drop];simp;omega
  rw[htm]at htail
  exact aHd _ _ htail o (List.mem_filter.2 ⟨List.mem_of_getElem? ((htk i o).2 ⟨ho,him⟩),hal⟩) t ht
 refine wpIn_region_any hmix (Y6 ?_)
 have finish: ∀(fuel:Nat) (X:Array Bool) (F μ) (a:Act) (w:World),X.size=ops.size->(∀i,m<=i->i<ops.size->X.getD i true=false)->(∀i,i<m->X.getD i true=true)->ops.size - m<=fuel->Inv P ops m vs C F μ s X a w->iG ro P .any ops Q fuel X a w:=by
  intro fuel X F μ a w hsz hX hpre hf hinv
  have hsr:SR C F μ s' a w:=by
   refine⟨by rw[e1];exact hinv.sw,hinv.defers,by rw[e2];exact hinv.n,fun t x hx=>?_⟩
   rw[e1]
   rcases e4 t x hx with⟨j,oj,q1,q2,q3⟩|⟨q1,q2⟩
   ·obtain⟨g1,g2⟩:=(htk j oj).1 q1
    exact hinv.done j oj t x g1 g2 (hpre j g2) q2 q3
   ·exact hinv.base t x q1 fun j oj g1 g2 _=>q2 j oj ((htk j oj).2 ⟨g1,g2⟩)
  have htm:ops.size - (ops.toList.drop m).length=m:=by rw[List.length_drop];simp;omega
  rw[htm]at htail
  obtain⟨μ2,s2,ht2,hs2⟩:=aHe _ μ s' htail hsr (fun o ho t d hop' hd'=>by
   obtain⟨ho1,ho2⟩:=List.mem_filter.1 ho
   obtain⟨i,hi⟩:=List.getElem?_of_mem ho1
   obtain⟨g1,g2⟩:=(htk i o).1 hi
   rw[e1]
   exact hinv.al i o t d g1 g2 (hpre i g2) ho2 hop' hd') (by
   have key:(ops.toList.take m).Pairwise (fun o o'=>gB o=true->gB o'=true-> ∀(d d' b:Nat),o.dst=some d->o'.dst=some d'->a.tmps.getD d undef= .pointer (some ⟨b,0,none⟩)->a.tmps.getD d' undef≠ .pointer (some ⟨b,0,none⟩)):=by
    rw[List.pairwise_iff_getElem]
    intro i j hi hj hij ha1 ha2 d d' b hd1 hd2 hp1 hp2
    obtain⟨g1,g2⟩:=(htk i _).1 (List.getElem?_eq_getElem hi)
    obtain⟨g3,g4⟩:=(htk j _).1 (List.getElem?_eq_getElem hj)
    have:=hinv.ald i _ d j _ d' b g1 g2 (hpre i g2) ha1 hd1 g3 g4 (hpre j g4) ha2 hd2 hp1 hp2
    omega
   rw[List.pairwise_filter]
   exact key)
  refine aSc hok hk fuel m X s2 F μ2 a w hsz (Nat.le_refl _) hm (fun j hj=>⟨fun hx=>?_,fun hlt=>hpre j hlt⟩) hf ht2 hs2
  ·rcases Nat.lt_or_ge j m with hh|hh
   ·exact hh
   ·rw[hX j hh hj]at hx;cases hx
 have htodo: ∀X:Array Bool,(∀i,m<=i->i<ops.size->X.getD i true=false)->ops.size - m<=uF ops.size X:=by
  intro X hX
  have h1:uF ops.size X=((List.range' 0 m++List.range' m (ops.size - m)).filter fun i=> !X.getD i true).length:=by
   unfold uF
   rw[List.range_eq_range',show ops.size=m+(ops.size - m) by omega,<-List.range'_append_1 (s:=0)]
   simp
  rw[h1,List.filter_append,List.length_append]
  have h2:(List.range' m (ops.size - m)).filter (fun i=> !X.getD i true)=List.range' m (ops.size - m):=by
   rw[List.filter_eq_self]
   intro i hi
   rw[List.mem_range'_1]at hi
   simp[hX i hi.1 (by omega)]
  rw[h2,List.length_range']
  omega
 have main: ∀(fuel:Nat) (X:Array Bool) (F μ) (a:Act) (w:World),X.size=ops.size->(∀i,m<=i->i<ops.size->X.getD i true=false)->uF ops.size X<=fuel->Inv P ops m vs C F μ s X a w->iG ro P .any ops Q fuel X a w:=by
  intro fuel
  induction fuel with
  |zero=>
   intro X F μ a w hsz hX hf hinv
   have hall: ∀i,i<ops.size->X.getD i true=true:=by
    intro i hi
    have h0:uF ops.size X=0:=by omega
    have:=List.length_eq_zero_iff.1 h0
    rw[List.filter_eq_nil_iff]at this
    simpa using this i (List.mem_range.2 hi)
   exact finish 0 X F μ a w hsz hX (fun i hi=>hall i (by omega)) (by have:=htodo X hX;omega) hinv
  |succ fuel ih=>
   intro X F μ a w hsz hX hf hinv
   by_cases hpre: ∀i,i<m->X.getD i true=true
   ·exact finish _ X F μ a w hsz hX hpre (by have:=htodo X hX;omega) hinv
   ·-- something of the first part is left
    obtain⟨i0,hi0,hx0⟩: ∃i,i<m/\X.getD i true=false:=by
     refine Classical.byContradiction fun hcon=>hpre fun i hi=>?_
     cases hx:X.getD i true with
     |true=>rfl
     |false=>exact(hcon ⟨i,hi,hx⟩).elim
    have hgd: ∀j,j<ops.size->X.getD j false=X.getD j true:=fun j hj=>by
     simp[Array.getD_eq_getD_getElem?,hsz,hj]
    have hleast: ∀i,i<m->X.getD i true=false-> ∃q,q<=i/\q∈Region.ready .any ops X:=by
     intro i
     induction i using Nat.strongRecOn with
     |_ i ihi=>
      intro hi hx
      have ho:ops[i]?=some (ops[i]'(by omega)):=by simp
      by_cases hdep: ∀e∈(ops[i]'(by omega)).after,Region.binds .any e=true->X.getD e.on false=true
      ·exact⟨i,Nat.le_refl _,mem_ready.2 ⟨by omega,hx,_,ho,hdep⟩⟩
      ·obtain⟨e,he⟩:=Classical.not_forall.1 hdep
       obtain⟨he1,he2⟩:=Classical.not_imp.1 he
       obtain⟨he2,he3⟩:=Classical.not_imp.1 he2
       obtain⟨g1,g2,_⟩:=hop i _ ho
       have hlt:=g2 e he1 he2
       obtain⟨q,hq1,hq2⟩:=ihi e.on hlt (by omega) (by
        rw[hgd _ (by omega)]at he3
        cases hxx:X.getD e.on true with
        |false=>rfl
        |true=>exact(he3 hxx).elim)
       exact⟨q,by omega,hq2⟩
    have opstep: ∀(i:Nat) (o:Oper),i∈Region.ready .any ops X->ops[i]?=some o->i<m->wOp ro P ops Q i (iG ro P .any ops Q fuel (X.setIfInBounds i true)) a w/\
     (qT ops i=true-> ∃z,(∀w,(execOp a.eval o).run P w= .ok (.value z) w)/\iG ro P .any ops Q fuel (X.setIfInBounds i true) (a.put o.dst z) w)/\
     (qU ops m i=true-> ∃z,(∀w',Ext w w'->(execOp a.eval o).run P w'= .ok (.value z) w')/\iG ro P .any ops Q fuel (X.setIfInBounds i true) (a.put o.dst z) w):=by
     intro i o hi ho him
     obtain⟨hin,hxi,o',ho',hdep⟩:=mem_ready.1 hi
     obtain rfl:o=o':=Option.some.inj (ho.symm.trans ho')
     obtain⟨c1,c2,c3,c4,c5⟩:=hop i o ho
     have hdep': ∀j,j<i->kU o j=true->X.getD j true=true:=fun j hj hwj=>by
      obtain⟨e,he1,he2,he3⟩:=vN hwj
      have:=hdep e he1 he3
      rw[he2,hgd _ (by omega)]at this;exact this
     obtain⟨si,v,d,q1,q2,q3,q4,q5,q6⟩:=aG6 hdr i o ((htk i o).2 ⟨ho,him⟩)
     have look: ∀t x,(gY o t=true\/ ∃j want,o.guard=some (j,want)/\(ops[j]?).bind (·.dst)=some t)->lk si.t t=some x->RV F (aE s.o μ) x (a.tmps.getD t undef):=by
      intro t x hrd hx
      have hdir: ∀(j:Nat) (oj:Oper),ops[j]?=some oj->j<m->oj.dst=some t->(j<i/\kU o j=true)\/(i<j/\kU oj i=true)\/(j<i/\X.getD j true=true):=by
       intro j oj hoj hjm hdj
       rcases hrd with hrd|⟨jg,want,hgd',hbd⟩
       ·rcases(c5 j oj t hoj hdj).2 hrd with hh|hh
        ·exact .inl hh
        ·exact .inr (.inl hh)
       ·obtain⟨k1,k2,k3⟩:=c3 jg want hgd'
        cases hog:ops[jg]? with
        |none=>simp[hog]at hbd
        |some og=>
         simp[hog]at hbd
         have:=((hop j oj hoj).2.2.2.2 jg og t hog hbd).1 hdj hjm (by omega)
         subst this
         exact .inr (.inr ⟨k1,hdep' j k1 k2⟩)
      rcases q6 t x hx with⟨j,oj,hj,hoj,hdj,hvj⟩|⟨hb1,hb2⟩
      ·obtain⟨hoj',hjm⟩:=(htk j oj).1 hoj
       have hXj:X.getD j true=true:=by
        rcases hdir j oj hoj' hjm hdj with hh|hh|hh
        ·exact hdep' j hh.1 hh.2
        ·omega
        ·exact hh.2
       exact hinv.done j oj t x hoj' hjm hXj hdj hvj
      ·refine hinv.base t x hb1 fun j oj hoj hjm hXj hdj=>?_
       rcases hdir j oj hoj hjm hdj with hh|hh|hh
       ·exact hb2 j oj hh.1 ((htk j oj).2 ⟨hoj,hjm⟩) hdj
       ·obtain⟨e,he1,he2,he3⟩:=vN hh.2
        have:=hinv.closed j oj hoj hXj e he1 he3
        rw[he2,hxi]at this;cases this
       ·exact hb2 j oj hh.1 ((htk j oj).2 ⟨hoj,hjm⟩) hdj
     have hseen:SR C F μ {n:=s.n,t:=si.t.filter (fun p=>gY o p.1),o:=s.o} a w:=by
      refine⟨hinv.sw,hinv.defers,hinv.n,fun t x hx=>?_⟩
      obtain⟨g1,g2⟩:=Z4 _ _ _ hx
      exact look t x (.inl g2) g1
     have hev: ∀x∈o.op.operands,ev si.t x=ev (si.t.filter (fun p=>gY o p.1)) x:=by
      intro x hx
      cases x with
      |tmp u=>
       have hr:gY o u=true:=by
        unfold gY
        rw[Array.any_eq_true]
        obtain⟨q,hq,he⟩:=Array.mem_iff_getElem.1 hx
        exact⟨q,hq,by simp[he]⟩
       exact(aHf _ hr).symm
      |_=>rfl
     have hXi': ∀j,j<ops.size->(X.setIfInBounds i true).getD j true=if j=i then true else X.getD j true:=fun j hj=>by
      rw[Array.getD_eq_getD_getElem?,Array.getElem?_setIfInBounds]
      by_cases hji:i=j
      ·subst hji;simp[hsz,hin]
      ·rw[if_neg hji,<-Array.getD_eq_getD_getElem?,if_neg (Ne.symm hji)]
     have after: ∀(F':Bool->aZ) (u:Value) (w':World),FLe F F'->SW C F' μ s.o w'->RV F' (aE s.o μ) v u->(∀b,b<w.heap.size->w'.heap[b]?=w.heap[b]?/\ ∀l k,F l b k=none->F' l b k=none)->
      (gB o=true-> ∀t,o.op= .alloc t-> ∃b,w.heap.size<=b/\u= .pointer (some ⟨b,0,none⟩)/\(∃zv,dQ P t=some zv/\w'.heap[b]?=some (.cells zv.cells t (0,0)))/\Nb C F' μ s.o b)->
      iG ro P .any ops Q fuel (X.setIfInBounds i true) (a.put o.dst u) w':=by
      intro F' u w' hle hsw hrv hheap hnew
      have hput: ∀t,(a.put o.dst u).tmps.getD t undef=if t=d then u else a.tmps.getD t undef:=fun t=>by
       rw[q2];exact zD (by rw[hinv.n];exact q3) t
      refine ih _ F' μ _ w' (by simpa using hsz) (fun j hj hjn=>by rw[hXi' j hjn,if_neg (by omega)];exact hX j hj hjn) (by have:=aSd hin hxi hsz;omega) ?_
      have hXold: ∀j,j<ops.size->j≠i->(X.setIfInBounds i true).getD j true=true->X.getD j true=true:=fun j hjn hji hXj=>by
       rw[hXi' j hjn,if_neg hji]at hXj;exact hXj
      have hdne: ∀j oj dj,ops[j]?=some oj->j<m->oj.dst=some dj->j≠i->dj≠d:=by
       rintro j oj dj hoj hjm hdj hji rfl
       exact hji (((hop j oj hoj).2.2.2.2 i o dj ho q2).1 hdj hjm him)
      have hisal: ∀o':Oper,gB o'=true-> ∃t,o'.op= .alloc t:=fun o' h=>by
       unfold gB at h
       split at h
       ·rename_i t _ h1 _ _;exact⟨t,h1⟩
       ·cases h
      refine⟨hsw,by rw[q2];exact hinv.defers,by rw[q2];simp[Act.put,hinv.n],fun j oj dj vj hoj hjm hXj hdj hvj=>?_,fun t x hx hno=>?_,fun j oj hoj hXj e he heb=>?_,fun j oj tj dj hoj hjm hXj haj hoa hdj=>?_,fun j oj dj j' oj' dj' b hoj hjm hXj haj hdj hoj' hjm' hXj' haj' hdj' hb1 hb2=>?_⟩
      ·have hjn:j<ops.size:=by omega
       rw[hput]
       by_cases hji:j=i
       ·subst hji
        rw[ho]at hoj
        obtain rfl:=Option.some.inj hoj
        rw[q2]at hdj
        obtain rfl:=Option.some.inj hdj
        rw[q1]at hvj
        obtain rfl:=Option.some.inj hvj
        rw[if_pos rfl];exact hrv
       ·rw[hXi' j hjn,if_neg hji]at hXj
        have hne:dj≠d:=by
         rintro rfl
         exact hji (((hop j oj hoj).2.2.2.2 i o dj ho q2).1 hdj hjm him)
        rw[if_neg hne]
        exact(hinv.done j oj dj vj hoj hjm hXj hdj hvj).mono hle
      ·rw[hput]
       have hne:t≠d:=by
        rintro rfl
        exact hno i o ho him (by rw[hXi' i hin,if_pos rfl]) q2
       rw[if_neg hne]
       refine(hinv.base t x hx fun j oj hoj hjm hXj=>hno j oj hoj hjm ?_).mono hle
       rw[hXi' j (by omega)];split
       ·rfl
       ·exact hXj
      ·have hjn:j<ops.size:=(Array.getElem?_eq_some_iff.1 hoj).1
       have hej:e.on<j:=(hop j oj hoj).2.1 e he heb
       rw[hXi' e.on (by omega)]
       by_cases hei:e.on=i
       ·rw[if_pos hei]
       ·rw[if_neg hei]
        by_cases hji:j=i
        ·subst hji
         rw[ho]at hoj
         obtain rfl:=Option.some.inj hoj
         have:=hdep e he heb
         rw[hgd _ (by omega)]at this;exact this
        ·rw[hXi' j hjn,if_neg hji]at hXj
         exact hinv.closed j oj hoj hXj e he heb
      ·by_cases hji:j=i
       ·subst hji
        rw[ho]at hoj
        obtain rfl:=Option.some.inj hoj
        rw[q2]at hdj
        obtain rfl:=Option.some.inj hdj
        obtain⟨b,_,hb2,hb3,hb4⟩:=hnew haj tj hoa
        exact⟨b,by rw[hput,if_pos rfl];exact hb2,hb3,hb4⟩
       ·obtain⟨b,hb⟩:=hinv.al j oj tj dj hoj hjm (hXold j (by omega) hji hXj) haj hoa hdj
        obtain⟨zv,hz1,hz2⟩:=hb.cells
        have hlt:=gJ hz2
        obtain⟨g1,g2⟩:=hheap b hlt
        exact⟨b,by rw[hput,if_neg (hdne j oj dj hoj hjm hdj hji)];exact hb.ptr,⟨zv,hz1,by rw[g1];exact hz2⟩,hb.nb.mine,fun l k=>g2 l k (hb.nb.excl l k),hb.nb.free⟩
      ·have hold: ∀j oj dj,ops[j]?=some oj->j<m->(X.setIfInBounds i true).getD j true=true->gB oj=true->oj.dst=some dj->j≠i->(a.put o.dst u).tmps.getD dj undef= .pointer (some ⟨b,0,none⟩)->b<w.heap.size:=by
        intro j oj dj hoj hjm hXj haj hdj hji hb
        obtain⟨t,ht⟩:=hisal oj haj
        obtain⟨b',hb'⟩:=hinv.al j oj t dj hoj hjm (hXold j (by omega) hji hXj) haj ht hdj
        rw[hput,if_neg (hdne j oj dj hoj hjm hdj hji),hb'.ptr]at hb
        obtain⟨zv,hz1,hz2⟩:=hb'.cells
        have:=gJ hz2
        simp at hb;omega
       have hmine: ∀oj dj,oj=o->gB oj=true->oj.dst=some dj->(a.put o.dst u).tmps.getD dj undef= .pointer (some ⟨b,0,none⟩)->w.heap.size<=b:=by
        rintro oj dj rfl haj hdj hb
        obtain⟨t,ht⟩:=hisal _ haj
        obtain⟨b',g1,g2,_⟩:=hnew haj t ht
        rw[q2]at hdj
        obtain rfl:=Option.some.inj hdj
        rw[hput,if_pos rfl,g2]at hb
        simp at hb;omega
       by_cases hji:j=i
       ·by_cases hji':j'=i
        ·omega
        ·have h1:=hold j' oj' dj' hoj' hjm' hXj' haj' hdj' hji' hb2
         subst hji
         rw[ho]at hoj
         have h2:=hmine oj dj (Option.some.inj hoj).symm haj hdj hb1
         omega
       ·by_cases hji':j'=i
        ·have h1:=hold j oj dj hoj hjm hXj haj hdj hji hb1
         subst hji'
         rw[ho]at hoj'
         have h2:=hmine oj' dj' (Option.some.inj hoj').symm haj' hdj' hb2
         omega
        ·rw[hput,if_neg (hdne j oj dj hoj hjm hdj hji)]at hb1
         rw[hput,if_neg (hdne j' oj' dj' hoj' hjm' hdj' hji')]at hb2
         exact hinv.ald j oj dj j' oj' dj' b hoj hjm (hXold j (by omega) hji hXj) haj hdj hoj' hjm' (hXold j' (by omega) hji' hXj') haj' hdj' hb1 hb2
     have run:xN P o si v->oW ro P o a w (iG ro P .any ops Q fuel (X.setIfInBounds i true)) Q:=by
      have hsame: ∀b,b<w.heap.size->w.heap[b]?=w.heap[b]?/\ ∀l k,F l b k=none->F l b k=none:=fun b _=>⟨rfl,fun _ _ h=>h⟩
      have hnoal:(∀t,o.op= .alloc t->False)-> ∀(w':World) (F':Bool->aZ) (u:Value),gB o=true-> ∀t,o.op= .alloc t-> ∃b,w.heap.size<=b/\u= .pointer (some ⟨b,0,none⟩)/\(∃zv,dQ P t=some zv/\w'.heap[b]?=some (.cells zv.cells t (0,0)))/\Nb C F' μ s.o b:=
       fun h w' F' u _ t ht=>(h t ht).elim
      rintro(⟨r,hr,hn,rfl⟩|⟨g,as,bs,hr,hl,hc,hfl⟩|⟨hal,rfl⟩)
      ·have hav:=vM hr
       rw[q4,K5 fun x hx=>J1 (hev x hx)]at hav
       obtain⟨z,h1,h2⟩:=U6 hseen.sw (kT (P:=P) hseen) (fun _=>rfl) hav hn
       unfold oW
       rw[h1,nO]
       exact after F z w (FLe.refl _) hseen.sw h2 hsame (hnoal (fun t ht=>by
        unfold eD at hav
        rw[ht]at hav
        cases hav) w F z)
      ·have hr':bA P o {n:=s.n,t:=si.t.filter (fun p=>gY o p.1),o:=s.o}= .c g as:=aSf hr hev
       obtain⟨cargs,h1,h2,h3⟩:=J7 hr' hseen hc.1
       rw[q4]at hl
       obtain⟨l1,l2⟩:=V8 hseen.sw hl
       have hcalls:=hc.2 w (mE F w) cargs ((GOk.at (P:=P) hseen.sw.grow).mono fun b k v e=>e) (aFw hseen.sw) (by omega) (fun i b u hb hu=>by
        have hi:i<as.length:=by rw[<-l1];exact(List.getElem?_eq_some_iff.1 hb).1
        exact l2 i as[i] b (by simp[hi]) hb u (h3 i as[i] u (by simp[hi]) hu))
       unfold oW
       rw[h1,J6]
       refine hcalls.mono ?_
       rintro e w' ⟨u,r,F',rfl,rfl,hp,hres⟩
       obtain⟨b1,b2⟩:=hseen.back hp
       show iG ro P .any ops Q fuel (X.setIfInBounds i true) (a.put o.dst u) w'
       refine after (jZ F F') u w' b1 b2.sw ?_ (fun b hb=>⟨hp.fr.block b hb (fun hh=>hh),fun l k hF=>?_⟩) (hnoal (fun t ht=>by
        have hr2:=hr
        unfold bA at hr2
        rw[ht,q2]at hr2
        exact pR hr2) w' _ u)
       case refine_2=>
        have hF': ∀q,F' false b k=some q->F false b k=some q:=fun q hq=>by
         rcases hp.newf b k q hq with hh|hh
         ·exact hh
         ·omega
        have hFn:F false b k=none:=by
         cases l with
         |false=>exact hF
         |true=>
          cases hq:F false b k with
          |none=>rfl
          |some q=>rw[hseen.sw.sub b k q hq]at hF;cases hF
        cases l with
        |false=>
         show F' false b k=none
         cases hq:F' false b k with
         |none=>rfl
         |some q=>rw[hF' q hq]at hFn;cases hFn
        |true=>
         show(F' false b k).or (F true b k)=none
         cases hq:F' false b k with
         |none=>simpa using hF
         |some q=>rw[hF' q hq]at hFn;cases hFn
       cases r with
       |own=>simp[J8]at hfl
       |tup rs=>
        obtain⟨us,ps,rfl,g1,g2,g3⟩:=hres
        refine .tup g1 fun i x y hx hy=>?_
        have hno:oJ x=false:=aHg hfl hx
        obtain⟨p1,p2⟩:=zM hno (g2 i x y hx hy)
        exact RV.up (p2.shared p1) b2.sw.sub
       |_=>
        obtain⟨p,hres⟩:=hres
        obtain⟨p1,p2⟩:=zM rfl hres
        exact RV.up (p2.shared p1) b2.sw.sub
      ·obtain⟨t,ht⟩: ∃t,o.op= .alloc t:=by
        unfold gB at hal
        split at hal
        ·rename_i t _ h1 _ _;exact⟨t,h1⟩
        ·cases hal
       obtain⟨zv,hzv⟩:=hzeros i o ho him hal t ht
       have hrun:(execOp a.eval o).run P w= .ok (.value (.pointer (some ⟨w.heap.size,0,none⟩))) (w.alloc (.cells zv.cells t (0,0))):=by
        simp[execOp,ht,Instr.alloc,rQ hzv,newVar,newRow]
       unfold oW
       rw[hrun,nO]
       refine after F _ _ (FLe.refl _) (hinv.sw.alloc zv.cells t) .dead (fun b hb=>⟨pN hb,fun _ _ h=>h⟩) (fun _ t' ht'=>?_)
       rw[ht]at ht'
       obtain rfl:=Op.alloc.inj ht'
       exact⟨w.heap.size,Nat.le_refl _,rfl,⟨zv,hzv,tR⟩,hinv.sw.nb (Nat.le_refl _)⟩
     refine⟨?_,fun hlz=>?_,fun hlz=>?_⟩
     rotate_left
     rotate_left
     ·obtain⟨_,ol,dl,g1,g2,g3,g4,g5⟩:=K3 hlz
      obtain rfl:o=ol:=Option.some.inj (ho.symm.trans g1)
      have hv:xN P o si v:=by unfold qS at q5;rw[g3]at q5;exact q5
      have key: ∃z,∀w',Ext w w'->(execOp a.eval o).run P w'= .ok (.value z) w':=by
       rcases hv with⟨r,hr,hn,_⟩|⟨g,as,bs,hr,_⟩|⟨hal,_⟩
       ·have hav:=vM hr
        rw[q4,K5 fun x hx=>J1 (hev x hx)]at hav
        unfold eD at hav
        rcases g4 with⟨t,x,hx⟩|⟨t,x,f,hx⟩
        ·rw[hx]at hav
         simp only at hav
         split at hav
         ·rename_i p hp
          obtain⟨z,h1,_⟩:=aP2 (P:=P) hseen.sw hav (kT (P:=P) hseen x p hp)
          exact⟨z,fun w' hw'=>by simp[execOp,hx,h1 w' hw']⟩
         ·cases hav
        ·rw[hx]at hav
         simp only at hav
         split at hav
         ·rename_i p hp
          obtain⟨z,h1,_⟩:=aEt (P:=P) hav hn (kT (P:=P) hseen x p hp)
          exact⟨z,fun w' _=>by simp[execOp,hx,h1 w']⟩
         ·cases hav
       ·exfalso
        unfold bA at hr
        rcases g4 with⟨t,x,hx⟩|⟨t,x,f,hx⟩<;>(rw[hx,g2]at hr;exact zZ hr)
       ·exfalso
        unfold gB at hal
        rcases g4 with⟨t,x,hx⟩|⟨t,x,f,hx⟩<;>(rw[hx]at hal;cases hal)
      obtain⟨z,hz⟩:=key
      refine⟨z,hz,?_⟩
      have:=run hv
      unfold oW at this
      rw[hz w (Ext.refl w),nO]at this
      exact this
     rotate_left
     ·obtain⟨ol,dl,g1,g2,g3,g4,g5⟩:=A4 hlz
      obtain rfl:o=ol:=Option.some.inj (ho.symm.trans g1)
      have hv:xN P o si v:=by unfold qS at q5;rw[g3]at q5;exact q5
      have key: ∃z,∀w,(execOp a.eval o).run P w= .ok (.value z) w:=by
       rcases g4 with⟨x,hx⟩|⟨x,hx⟩|⟨op,t,x,y,yt,hx⟩|⟨x,i,hx⟩
       ·exact⟨a.eval x,fun w=>by simp[execOp,hx]⟩
       ·exact⟨a.eval x,fun w=>by simp[execOp,hx]⟩
       ·rcases hv with⟨r,hr,hn,_⟩|⟨g,as,bs,hr,_⟩|⟨hal,_⟩
        ·have hav:=vM hr
         rw[q4,K5 fun x hx=>J1 (hev x hx)]at hav
         exact aHj (kT (P:=P) hseen) (fun _=>rfl) hx hav hn
        ·exfalso
         unfold bA at hr
         rw[hx,g2]at hr
         exact zZ hr
        ·exfalso
         unfold gB at hal
         rw[hx]at hal
         cases hal
       ·rcases hv with⟨r,hr,hn,_⟩|⟨g,as,bs,hr,_⟩|⟨hal,_⟩
        ·have hav:=vM hr
         rw[q4,K5 fun x hx=>J1 (hev x hx)]at hav
         exact aSj (kT (P:=P) hseen) hx hav
        ·exfalso
         unfold bA at hr
         rw[hx,g2]at hr
         exact zZ hr
        ·exfalso
         unfold gB at hal
         rw[hx]at hal
         cases hal
      obtain⟨z,hz⟩:=key
      refine⟨z,hz,?_⟩
      have:=run hv
      unfold oW at this
      rw[hz w,nO]at this
      exact this
     simp only[wOp,ho]
     unfold qS at q5
     split at q5
     ·rename_i hg
      rw[if_pos (by simp[Region.wanted,hg])]
      exact run q5
     ·rename_i jg want hg
      have notal:gB o=true->False:=fun hal=>by
       unfold gB at hal
       rw[hg]at hal
       split at hal
       ·rename_i h3;cases h3
       ·cases hal
      rcases q5 with⟨b,hb,hcase⟩|⟨hb,hv⟩
      rotate_left
      ·have hy:yielded ops a.tmps jg=none:=by
        unfold nM at hb
        cases hj:(ops[jg]?).bind (·.dst)with
        |none=>simp[hj]at hb
        |some dg=>
         simp[hj]at hb
         exact aGt hj (look dg _ (.inr ⟨jg,want,hg,hj⟩) hb)
       rw[if_neg (by simp[Region.wanted,hg,hy])]
       subst hv
       exact after F undef w (FLe.refl _) hinv.sw .und (fun b _=>⟨rfl,fun _ _ h=>h⟩) (fun hal=>(notal hal).elim)
      have hy:yielded ops a.tmps jg=some b:=by
       unfold yielded
       unfold nM at hb
       cases hj:(ops[jg]?).bind (·.dst)with
       |none=>simp[hj]at hb
       |some dg=>
        simp[hj]at hb
        have hrv:=look dg _ (.inr ⟨jg,want,hg,hj⟩) hb
        generalize hv:a.tmps.getD dg undef=u at hrv
        cases hrv
        simp only[Option.bind_some]
        rw[Array.getD_eq_getD_getElem?]at hv
        cases ht:a.tmps[dg]? with
        |none=>simp[ht,undef]at hv
        |some u'=>simp[ht]at hv;subst hv;rfl
      rcases hcase with⟨hbw,hv⟩|⟨hbw,hv⟩
      ·rw[if_pos (by simp[Region.wanted,hg,hy,hbw])]
       exact run hv
      ·rw[if_neg (by simp[Region.wanted,hg,hy,hbw])]
       subst hv
       exact after F undef w (FLe.refl _) hinv.sw .und (fun b _=>⟨rfl,fun _ _ h=>h⟩) (fun hal=>(notal hal).elim)
    by_cases hnl: ∃i,i<m/\X.getD i true=false/\qT ops i=false/\qU ops m i=false
    ·obtain⟨i1,hi1,hx1,hl1,hl2⟩:=hnl
     refine⟨fun hnil=>?_,fun i hi=>?_⟩
     ·obtain⟨q,_,hq⟩:=hleast i0 hi0 hx0
      rw[hnil]at hq;simp at hq
     ·obtain⟨hin,hxi,o,ho,hdep⟩:=mem_ready.1 hi
      obtain⟨c1,c2,c3,c4,c5⟩:=hop i o ho
      have him:i<m:=by
       rcases Nat.lt_or_ge i m with hh|hh
       ·exact hh
       ·have:=K2 (X:=X) hinv.closed ops.size o i1 (fun e he hb=>by
         have h6:=c2 e he hb
         have:=hdep e he hb
         rw[hgd e.on (by omega)]at this;exact this) ((c4 hh i1 (by omega)).resolve_right (fun hl=>by rw[hl1,hl2]at hl;simp at hl))
        rw[hx1]at this;cases this
      exact(opstep i o hi ho him).1
    ·obtain⟨q,hq1,hq2⟩:=hleast i0 hi0 hx0
     obtain⟨hin,hxi,o,ho,hdep⟩:=mem_ready.1 hq2
     have hpl: ∀q,q<m->X.getD q true=false->qT ops q=true\/qU ops m q=true:=fun q hqm hq=>by
      cases hb:qT ops q with
      |true=>exact .inl rfl
      |false=>
       cases hb2:qU ops m q with
       |true=>exact .inr rfl
       |false=>exact(hnl ⟨q,hqm,hq,hb,hb2⟩).elim
     rcases hpl q (by omega) hxi with hlz|hlz
     ·obtain⟨z,hz,hw⟩:=(opstep q o hq2 ho (by omega)).2.1 hlz
      obtain⟨ol,dl,g1,g2,g3,g4,g5⟩:=A4 hlz
      obtain rfl:o=ol:=Option.some.inj (ho.symm.trans g1)
      rw[g2]at hw
      exact aSa hok hQ hlz ho g2 z fuel X a w hsz hq2 hz hw
     ·obtain⟨z,hz,hw⟩:=(opstep q o hq2 ho (by omega)).2.2 hlz
      obtain⟨_,ol,dl,g1,g2,g3,g4,g5⟩:=K3 hlz
      obtain rfl:o=ol:=Option.some.inj (ho.symm.trans g1)
      rw[g2]at hw
      exact aSb hok hQ hlz (by omega) ho g2 z fuel X a w hsz hq2 hinv.closed hpl hz hw
 refine main _ _ F μ a _ (by simp) (fun i hi hin=>by simp[Array.getD_eq_getD_getElem?,hin]) ?_ ?_
 ·unfold uF
  exact Nat.le_trans (List.length_filter_le _ _) (by simp)
 ·refine⟨hs.drew.sw,hs.defers,hs.n,fun i o d v ho him hx=>?_,fun t x hx _=>hs.slot t x hx,fun i o ho hx=>?_,fun i o t d ho him hx=>?_,fun i o d j o' d' b ho him hx=>?_⟩
  rotate_left 2
  ·have:i<ops.size:=(Array.getElem?_eq_some_iff.1 ho).1
   simp[Array.getD_eq_getD_getElem?,this]at hx
  ·have:i<ops.size:=(Array.getElem?_eq_some_iff.1 ho).1
   simp[Array.getD_eq_getD_getElem?,this]at hx
  ·have:i<ops.size:=(Array.getElem?_eq_some_iff.1 ho).1
   simp[Array.getD_eq_getD_getElem?,this]at hx
  ·have:i<ops.size:=(Array.getElem?_eq_some_iff.1 ho).1
   simp[Array.getD_eq_getD_getElem?,this]at hx
theorem aSl {ro:Option Nat} {P:Program} [Glob P] {ops:Array Oper} {id m:Nat} (hmix:P.follows .mixedOrders=true) (hok:nP ops m=true) {k:ASt->Prop} {s:ASt} (h:lP P ops m ops.toList k s) {Q:Exit->Act->World->Prop} (C:Cx) [GOk P C] (F μ a w) (hs:SR C F μ s a w)
 (hk: ∀a' w' s' F' μ',k s'->SR C F' μ' s' a' w'->Q .normal a' w'):(Code.region id ops true).wpIn (fW ro) 0 P Q a w:=
 wpIn_mono (aSk (Q:=fun e a w=>e= .normal/\Q .normal a w) hmix hok h (fun e a w h=>h.1) C F μ a w hs fun a' w' s' F' μ' h1 h2=>⟨rfl,hk a' w' s' F' μ' h1 h2⟩) fun e a w h=>by rw[h.1];exact h.2
end Go.Ab
namespace Go.Ab
open Go.RowKit
def Still {α:Type} (P:Program) [Glob P] (m:Sem α):Prop:=(∃v,∀w,m.run P w= .ok v w)\/ ∀w v w',m.run P w≠ .ok v w'
theorem Still.bind {α β:Type} {P:Program} [Glob P] {m:Sem α} {f:α->Sem β} (h:Still P m) (hf: ∀a,Still P (f a)):Still P (m>>=f):=by
 rcases h with⟨v,h⟩|h
 ·rcases hf v with⟨u,k⟩|k
  ·exact .inl ⟨u,fun w=>by rw[Sem.run_bind,h,Result.andThen_ok,k]⟩
  ·exact .inr fun w u w'=>by rw[Sem.run_bind,h,Result.andThen_ok];exact k w u w'
 ·refine .inr fun w u w' hh=>?_
  rw[Sem.run_bind]at hh
  cases hr:m.run P w with
  |ok v w1=>exact h w v w1 hr
  |halt x w1=>rw[hr]at hh;cases hh
theorem Still.pure {α:Type} {P:Program} [Glob P] (a:α):Still P (Pure.pure a:Sem α):= .inl ⟨a,fun w=>rfl⟩
theorem Still.under {P:Program} [Glob P] (t:TypeId):Still P (underlying t):=by
 cases h:P.underlying t with
 |some d=>exact .inl ⟨d,run_underlying h⟩
 |none=>exact .inr fun w v w' hh=>by simp[underlying,h]at hh
theorem Still.size {P:Program} [Glob P] (t:TypeId):Still P (sizeOf t):=by
 unfold sizeOf typeInfo
 cases h:P.info? t with
 |some i=>exact .inl ⟨i.size,fun w=>by simp[h]⟩
 |none=>exact .inr fun w v w' hh=>by simp[h]at hh
theorem Still.stuck {α:Type} {P:Program} [Glob P] (s:String):Still P (Go.stuck s:Sem α):= .inr fun w v w' hh=>by simp[Go.stuck]at hh
theorem Still.uns {α:Type} {P:Program} [Glob P] (u:Unsupported):Still P (unsupported u:Sem α):= .inr fun w v w' hh=>by simp[unsupported]at hh
theorem Still.asInt {P:Program} [Glob P] (x:Value):Still P (asIntOf x):=by
 unfold asIntOf
 split
 ·exact .pure _
 ·exact .uns _
 ·exact .stuck _
theorem Still.bounds {α:Type} {P:Program} [Glob P] (k:IntKind) (i:Int) (y:Nat) (c:BoundsCode):Still P (boundsPanic k i y c:Sem α):= .inr fun w v w' hh=>by
 simp[boundsPanic,runtimePanic]at hh
 split at hh
 ·split at hh<;>cases hh
 ·cases hh
theorem Still.sliceBound {P:Program} [Glob P] (x:Value) (y:Nat) (c:BoundsCode):Still P (Instr.sliceBound x y c):=by
 unfold Instr.sliceBound
 refine .bind (.asInt x) fun q=>?_
 obtain⟨k,i⟩:=q
 dsimp only
 split
 ·exact .pure _
 ·exact .bounds _ _ _ _
theorem Still.sliceBounds {P:Program} [Glob P] (b:Bool) (l c:Nat) (lo hi mx:Option Value):Still P (Instr.sliceBounds b l c lo hi mx):=by
 unfold Instr.sliceBounds
 cases mx<;>cases hi<;>cases lo<;>dsimp only<;>repeat(first|exact .pure _|exact .stuck _|exact .sliceBound _ _ _|refine .bind ?_ fun _=>?_)
theorem Still.addr {P:Program} [Glob P] (x:Value):Still P (Go.asAddr x):=by
 unfold Go.asAddr
 split
 ·exact .pure _
 ·exact .inr fun w v w' hh=>by simp[runtimePanic]at hh
 ·exact .stuck _
theorem Still.sure {P:Program} [Glob P] (x:Value):Still P (Instr.sureAddr x):=by
 unfold Instr.sureAddr
 split
 ·exact .pure _
 ·exact .stuck _
theorem Still.slice {P:Program} [Glob P] (t:TypeId) (x:Value) (lo hi mx:Option Value):Still P (Instr.slice t x lo hi mx):=by
 unfold Instr.slice
 refine .bind (.under t) fun d=>?_
 split
 ·split
  ·exact .stuck _
  ·exact .bind (.sliceBounds _ _ _ _ _ _) fun q=> .pure _
 ·exact .bind (.sliceBounds _ _ _ _ _ _) fun q=> .bind (.size _) fun s=> .pure _
 ·refine .bind (.addr _) fun a=> .bind (.under _) fun d=>?_
  split
  ·exact .bind (.sliceBounds _ _ _ _ _ _) fun q=> .bind (.size _) fun s=> .pure _
  ·exact .stuck _
 ·exact .stuck _
theorem Still.sliceAt {P:Program} [Glob P] (t:TypeId) (x:Value) (lo hi mx:Option Value):Still P (Instr.sliceAt t x lo hi mx):=by
 unfold Instr.sliceAt
 refine .bind (.under t) fun d=>?_
 split
 ·exact .bind (.sure _) fun a=> .bind (.sliceBounds _ _ _ _ _ _) fun q=> .bind (.size _) fun s=> .pure _
 ·exact .slice _ _ _ _ _
def K6 (o:Oper):Bool:=match o.op with
 | .move _=>true
 | .assign _=>true
 | .binOp _ _ _ _ _=>true
 | .slice _ _ _ _ _=>true
 | .fieldAddr _ _ _=>true
 | .indexAddr _ _ _=>true
 | .extract _ _=>true
 | .convert _ _ _=>true
 | .call {callee:= .builtin .len,..}=>true
 |_=>false
theorem aSm {P:Program} {d:TypeId} {x:AV} {r:Sv} (h:tO P d x=some r): ∃z,r.val= .sc z:=by
 unfold tO at h
 split at h
 ·split at h
  ·obtain rfl:=Option.some.inj h;exact⟨_,rfl⟩
  ·cases h
 ·cases h
theorem aSn {P:Program} {t:TypeId} {x:AV} {r:Sv} (h:pJ P t x=some r): ∃z,r.val= .sc z:=by
 unfold pJ at h
 split at h
 ·split at h
  ·obtain rfl:=Option.some.inj h;exact⟨_,rfl⟩
  ·cases h
 all_goals first
  |(
   split at h
   ·obtain rfl:=Option.some.inj h;exact⟨_,rfl⟩
   ·cases h)
  |cases h
theorem aSo {P:Program} [Glob P] {o:Oper} (hq:K6 o=true) {F} {μ:Pl} {C:Cx} [GOk P C] {s:ASt} {a:Act} {w0:World} (hs:SR C F μ s a w0) {d:Nat} (hd:o.dst=some d) {r:Sv} (hr:bA P o s= .v r) (hn:r.need):
 ∃z,(∀w,(execOp a.eval o).run P w= .ok (.value z) w)/\RV F (aE s.o μ) r.val z:=by
 have hav:=vM hr
 obtain⟨z,h1,h2⟩:=U6 hs.sw (kT (P:=P) hs) (fun _=>rfl) hav hn
 refine⟨z,?_,h2⟩
 have key: ∃z',∀w,(execOp a.eval o).run P w= .ok (.value z') w:=by
  unfold K6 at hq
  split at hq
  ·rename_i x hx;exact⟨a.eval x,fun w=>by simp[execOp,hx]⟩
  ·rename_i x hx;exact⟨a.eval x,fun w=>by simp[execOp,hx]⟩
  ·rename_i op t x y yt hx;exact aHj (kT (P:=P) hs) (fun _=>rfl) hx hav hn
  ·rename_i t x lo hi mx hx
   simp only[execOp,hx]at h1 ⊢
   rcases Still.sliceAt (P:=P) t (a.eval x) (lo.map a.eval) (hi.map a.eval) (mx.map a.eval)with⟨v,hv⟩|hv
   ·exact⟨v,fun w=>by rw[Sem.run_bind,hv];rfl⟩
   ·exfalso
    obtain⟨v,e1,e2⟩:=A5 h1
    exact hv _ _ _ e2
  ·rename_i t x f hx
   unfold eD at hav
   simp only[hx]at hav
   cases hp:dA P s.t x with
   |none=>simp[hp]at hav
   |some p=>
    simp only[hp]at hav
    obtain⟨z',k1,_⟩:=aEt hav hn (kT (P:=P) hs x p hp)
    exact⟨z',fun w=>by simp[execOp,hx,k1]⟩
  ·rename_i t x ix hx
   unfold eD at hav
   simp only[hx]at hav
   cases hp:dA P s.t x with
   |none=>simp[hp]at hav
   |some p=>
    cases hi:dA P s.t ix with
    |none=>simp[hp,hi]at hav
    |some q=>
     simp only[hp,hi]at hav
     obtain⟨z',k1,_⟩:=aEw hav hn (kT (P:=P) hs x p hp) (kT (P:=P) hs ix q hi)
     exact⟨z',fun w=>by simp[execOp,hx,k1]⟩
  ·rename_i x i hx
   unfold eD at hav
   simp only[hx]at hav
   cases hp:dA P s.t x with
   |none=>simp[hp]at hav
   |some p=>
    rw[hp]at hav
    split at hav
    ·rename_i vs hpp
     obtain rfl:=Option.some.inj hpp
     cases hi:vs[i]? with
     |none=>simp[hi]at hav
     |some c=>
      have hxv:=kT (P:=P) hs x _ hp
      generalize hvx:a.eval x=vx at hxv
      cases hxv with
      | @tup _ _ _ us h1 h2=>
       have hlt:i<us.size:=by rw[<-h1];exact(List.getElem?_eq_some_iff.1 hi).1
       exact⟨us[i],fun w=>by simp[execOp,hx,hvx,Instr.extract,hlt]⟩
    ·cases hav
  ·rename_i sT dT x hx
   have hcase:=hav
   unfold eD at hcase
   simp only[hx]at hcase
   cases hp:dA P s.t x with
   |none=>simp[hp]at hcase
   |some p=>
    simp only[hp]at hcase
    split at hcase
    ·rename_i hsome
     cases hcv:tO P dT p with
     |none=>
      simp only[hcv]at hcase
      exact aHi (kT (P:=P) hs) hcase
     |some r'=>
      simp only[hcv]at hcase
      obtain rfl:=Option.some.inj hcase
      obtain⟨z0,hz0⟩:=aSm hcv
      refine⟨z0,fun w=>?_⟩
      obtain⟨z,k1,k2⟩:=aEz (P:=P) hcv hsome (kT (P:=P) hs x p hp) w
      rw[hz0]at k2
      cases k2
      simp[execOp,hx,k1]
    ·cases hcase
  ·rename_i xs ts hx
   have hcase:=hav
   unfold eD at hcase
   simp only[hx]at hcase
   split at hcase
   ·rename_i x t hxs hts
    have hx1:xs= #[x]:=by cases xs;simp_all
    have ht1:ts= #[t]:=by cases ts;simp_all
    subst hx1;subst ht1
    cases hp:dA P s.t x with
    |none=>simp[hp]at hcase
    |some p=>
     simp only[hp]at hcase
     obtain⟨z0,hz0⟩:=aSn hcase
     refine⟨z0,fun w=>?_⟩
     obtain⟨z,k1,k2⟩:=aEu (P:=P) (ty:=o.type) hcase (kT (P:=P) hs x p hp) w
     rw[hz0]at k2
     cases k2
     simp[execOp,hx,resolve,invoke,builtin,k1]
   ·cases hcase
  ·cases hq
 obtain⟨z',hz⟩:=key
 have e:=(hz w0).symm.trans h1
 obtain rfl:z'=z:=by simpa using e
 exact hz
theorem Z5 {ro:Option Nat} {P:Program} [Glob P] {ops:Array Oper} {Q:Exit->Act->World->Prop} {i:Nat} {K K':Act->World->Prop} (hK: ∀a w,K a w->K' a w) {a:Act} {w:World} (h:wOp ro P ops Q i K a w):wOp ro P ops Q i K' a w:=by
 unfold wOp at*
 split
 ·rename_i ho;simp only[ho]at h;exact hK _ _ h
 ·rename_i o ho
  simp only[ho]at h
  split
  ·rename_i hw
   simp only[hw,if_true]at h
   unfold oW at*
   generalize(execOp a.eval o).run P w=r at*
   cases r with
   |ok n w'=>
    cases n<;>simp only[mJ]at h ⊢ <;>first|exact hK _ _ h|skip
    ·exact Calls.mono h fun e w'' he=>by cases e<;>first|exact hK _ _ he|exact he
    ·exact RoundIn.mono h fun e w'' he=>by cases e<;>first|exact hK _ _ he|exact he
   |halt x w'=>cases x<;>simp only[mJ]at h ⊢ <;>exact h
  ·rename_i hw;simp only[hw]at h;exact hK _ _ h
def Cx.now (C:Cx) (F:Bool->aZ) (μ:Pl) (o:aF) (w:World):Cx:= {C with w0:=w,F0:=F,M:=wX o μ}
theorem SW.ahead {C F μ} {o:aF} {w:World} (h:SW C F μ o w):SW (C.now F μ o w) F μ o w:=
 ⟨h.facts,h.sub,fun b k v hv=> .inl hv,FLe.refl _,fun b k v hv=> .inl hv,Fr.refl _ _,h.obj,h.dist,h.excl,fun L x b c hx hm=> .inr ⟨L,x,c,hx,hm⟩,h.keep⟩
theorem SW.behind {C F μ} {o:aF} {w:World} (h:SW C F μ o w) {F' μ'} {o':aF} {w':World} (h':SW (C.now F μ o w) F' μ' o' w'):SW C F' μ' o' w':=by
 have hM: ∀b,wX o μ b->C.w0.heap.size<=b\/C.M b:=fun b ⟨L,x,c,hx,hm⟩=>h.mine L x b c hx hm
 refine⟨h'.facts,h'.sub,?_,h.grow.trans h'.grow,?_,?_,h'.obj,h'.dist,h'.excl,?_,h'.keep⟩
 ·intro b k u hu
  rcases h'.lentc b k u hu with hh|hh
  ·rcases h.lentc b k u hh with hh|hh
   ·exact .inl hh
   ·exact .inr (h'.grow _ _ _ _ hh)
  ·exact .inr hh
 ·intro b k u hu
  rcases h'.newf b k u hu with hh|hh|hh
  ·exact h.newf b k u hh
  ·exact .inr (.inl (Nat.le_trans h.fr.size hh))
  ·exact .inr (hM b hh)
 ·refine h.fr.trans h'.fr fun k hk hkm=>?_
  rcases hM k hkm with hh|hh
  ·omega
  ·exact hh
 ·intro L x b c hx hm
  rcases h'.mine L x b c hx hm with hh|hh
  ·exact .inl (Nat.le_trans h.fr.size hh)
  ·exact hM b hh
theorem SR.ahead {C F μ} {s:ASt} {a:Act} {w:World} (h:SR C F μ s a w):SR (C.now F μ s.o w) F μ s a w:=⟨h.sw.ahead,h.defers,h.n,h.slot⟩
theorem SR.behind {C F μ} {s:ASt} {a:Act} {w:World} (h:SR C F μ s a w) {F' μ'} {s':ASt} {a':Act} {w':World} (h':SR (C.now F μ s.o w) F' μ' s' a' w'):SR C F' μ' s' a' w':=
 ⟨h.sw.behind h'.sw,h'.defers,h'.n,h'.slot⟩
def vO (F:Bool->aZ) (w:World):Prop:= ∀l b k v,F l b k=some v->w.cell? ⟨b,k,none⟩=some v
def YieldsF (P:Program) [Glob P] (ops:Array Oper) (F:Bool->aZ) (o:Oper) (v:Value) (a:Act):Prop:=
 (Region.wanted o (yielded ops a.tmps)=true/\ ∀w,vO F w->(execOp a.eval o).run P w= .ok (.value v) w)\/(Region.wanted o (yielded ops a.tmps)=false/\v=undef)
def wAnyF (ro:Option Nat) (P:Program) [Glob P] (md:Region.Mode) (ops:Array Oper) (Q:Exit->Act->World->Prop) (F:Bool->aZ):Nat->Array Bool->Act->World->Prop
 |0,listed,a,w=>Region.ready md ops listed= []/\Q .normal a w
 |fuel+1,listed,a,w=>
  (Region.ready md ops listed= []->Q .normal a w)/\
  ∀i∈Region.ready md ops listed,wOp ro P ops Q i (fun a' w'=>vO F w'/\wAnyF ro P md ops Q F fuel (listed.setIfInBounds i true) a' w') a w
theorem wAnyF.any {ro P md ops Q F} [Glob P]: ∀{fuel:Nat} {X:Array Bool} {a:Act} {w:World},wAnyF ro P md ops Q F fuel X a w->iG ro P md ops Q fuel X a w
 |0,X,a,w,h=>h
 |fuel+1,X,a,w,h=>⟨h.1,fun i hi=>Z5 (fun a' w' h'=>h'.2.any) (h.2 i hi)⟩
theorem wAnyF.less {ro P md ops Q} [Glob P] {F F':Bool->aZ} (hF:FLe F F'): ∀{fuel:Nat} {X:Array Bool} {a:Act} {w:World},wAnyF ro P md ops Q F' fuel X a w->wAnyF ro P md ops Q F fuel X a w
 |0,X,a,w,h=>h
 |fuel+1,X,a,w,h=>⟨h.1,fun i hi=>Z5 (fun a' w' h'=>⟨fun l b k v hv=>h'.1 l b k v (hF l b k v hv),h'.2.less hF⟩) (h.2 i hi)⟩
theorem aSp {ro:Option Nat} {P:Program} [Glob P] {ops:Array Oper} {Q:Exit->Act->World->Prop} {F:Bool->aZ} (hQ: ∀e a w,Q e a w->e= .normal) {j:Nat} {oi oj:Oper} {v:Value} (hj:ops[j]?=some oj) (hap:oi.apart ops oj=true)
 (hsi: ∀cs b,oi.op≠ .select cs b) (hsj: ∀cs b,oj.op≠ .select cs b) {K:Act->World->Prop} {a:Act} {w:World}
 (hy:YieldsF P ops F oi v a) (h:wOp ro P ops Q j K (a.put oi.dst v) w):
 wOp ro P ops Q j (fun a' w'=>YieldsF P ops F oi v a'/\K (a'.put oi.dst v) w') a w:=by
 obtain⟨h1,h2,h3⟩:=Oper.apart_spec hap
 have keep: ∀(a:Act),YieldsF P ops F oi v a-> ∀u,YieldsF P ops F oi v (a.put oj.dst u):=fun a hy u=>by
  unfold YieldsF
  rw[execOp_put oi hsi a oj.dst u h3,wanted_put oi a oj.dst u h3]
  exact hy
 have hP: ∀c a w,¬Q (.panic c) a w:=fun c a w hh=>by have:=hQ _ _ _ hh;cases this
 unfold wOp at*
 simp only[hj]at*
 rw[wanted_put oj a oi.dst v h1]at h
 split
 ·rename_i hw
  simp only[hw,if_true]at h
  unfold oW at*
  rw[execOp_put oj hsj a oi.dst v h1]at h
  generalize(execOp a.eval oj).run P w=r at*
  cases r with
  |ok n w'=>
   cases n<;>simp only[mJ]at h ⊢
   case value u=>exact⟨keep a hy u,by rw[<-Act.put_comm a v u h2];exact h⟩
   case skip=>exact⟨keep a hy _,by rw[<-Act.put_comm a v undef h2];exact h⟩
   case enter f args=>
    refine Calls.mono h fun e w'' he=>?_
    cases e with
    |returned u=>exact⟨keep a hy u,by rw[<-Act.put_comm a v u h2];exact he⟩
    |panicked c=>exact(hP _ _ _ he).elim
    |outgrown=>exact he
   case round l f ts as bd=>
    refine RoundIn.mono h fun e w'' he=>?_
    cases e with
    |returned u=>exact⟨keep a hy u,by rw[<-Act.put_comm a v u h2];exact he⟩
    |panicked c=>exact(hP _ _ _ he).elim
    |outgrown=>exact he
  |halt x w'=>
   cases x<;>simp only[mJ]at h ⊢
   case panic u=>exact(hP _ _ _ h).elim
 ·rename_i hw
  simp only[hw]at h
  exact⟨keep a hy _,by rw[<-Act.put_comm a v undef h2];exact h⟩
theorem YieldsF.wOp {ro:Option Nat} {P:Program} [Glob P] {ops:Array Oper} {Q:Exit->Act->World->Prop} {F:Bool->aZ} {i:Nat} {o:Oper} {v:Value} {a:Act} (hi:ops[i]?=some o) (hy:YieldsF P ops F o v a) {K:Act->World->Prop} {w:World} (hF:vO F w) (h:K (a.put o.dst v) w):Ab.wOp ro P ops Q i K a w:=by
 unfold Ab.wOp
 simp only[hi]
 rcases hy with⟨hw,hv⟩|⟨hw,rfl⟩
 ·simp only[hw,if_true,oW,hv w hF,mJ];exact h
 ·simp only[hw,Bool.false_eq_true,if_false];exact h
theorem aSq {ro:Option Nat} {P:Program} [Glob P] {ops:Array Oper} {md:Region.Mode} {Q:Exit->Act->World->Prop} {F:Bool->aZ} (hQ: ∀e a w,Q e a w->e= .normal) {i:Nat} {oi:Oper} {v:Value} (hi:ops[i]?=some oi) (hsel: ∀(j:Nat) (o:Oper) cs b,ops[j]?=some o->o.op≠ .select cs b):
 ∀(fuel:Nat) (listed:Array Bool) (a:Act) (w:World),
  (∀j oj,ops[j]?=some oj->j≠i->listed.getD j true=false->(∀e∈oj.after,Region.binds md e=true->e.on≠i)->oi.apart ops oj=true)->
  i∈Region.ready md ops listed->vO F w->YieldsF P ops F oi v a->
  wAnyF ro P md ops Q F fuel (listed.setIfInBounds i true) (a.put oi.dst v) w->wAnyF ro P md ops Q F (fuel+1) listed a w:=by
 intro fuel
 induction fuel with
 |zero=>
  intro listed a w _ hr hF hy H
  refine⟨fun h=>(by rw[h]at hr;cases hr),fun j hj=>?_⟩
  by_cases hji:j=i
  ·subst hji;exact hy.wOp hi hF ⟨hF,H⟩
  ·have:=ready_mono hj hji
   rw[H.1]at this
   cases this
 |succ fuel ih=>
  intro listed a w hfree hr hF hy H
  refine⟨fun h=>(by rw[h]at hr;cases hr),fun j hj=>?_⟩
  by_cases hji:j=i
  ·subst hji;exact hy.wOp hi hF ⟨hF,H⟩
  ·have h1:=H.2 j (ready_mono hj hji)
   obtain⟨hjun,oj,hoj,hall⟩:=Go.mem_ready.1 hj
   have hnot: ∀e∈oj.after,Region.binds md e=true->e.on≠i:=fun e he hb heq=>by
    have h1:=hall e he hb
    have h0:=(Go.mem_ready.1 hr).1
    rw[heq]at h1
    rcases Nat.lt_or_ge i listed.size with h'|h'
    ·simp[h']at h0 h1;rw[h0]at h1;cases h1
    ·simp[Array.getElem?_eq_none h']at h1
   have h2:=aSp hQ hoj (hfree j oj hoj hji hjun hnot) (fun cs b=>hsel i oi cs b hi) (fun cs b=>hsel j oj cs b hoj) hy h1
   have hfree': ∀k ok,ops[k]?=some ok->k≠i->(listed.setIfInBounds j true).getD k true=false->
    (∀e∈ok.after,Region.binds md e=true->e.on≠i)->oi.apart ops ok=true:=fun k ok hk hki hun hno=>by
    refine hfree k ok hk hki ?_ hno
    by_cases hjk:j=k
    ·subst hjk;exact hjun
    ·rw[getD_set_ne true hjk]at hun;exact hun
   refine Z5 (fun a' w' h3=>⟨h3.2.1,ih (listed.setIfInBounds j true) a' w' hfree' (ready_mono hr (Ne.symm hji)) h3.2.1 h3.1 ?_⟩) h2
   rw[Array.setIfInBounds_comm _ _ hji]
   exact h3.2.2
def xP (P:Program) [Glob P] (o:Oper) (s:ASt):Bool:=match o.op with
 | .load _ x=>match dA P s.t x with
  |some (.iptr _ _ _ _)=>true
  |some (.ptr L _ _)=>match lk s.o L with
   |some y=>y.fz
   |none=>false
  |_=>false
 |_=>K6 o
theorem aSr {P:Program} [Glob P] {F loc} {y:AV} {b p:Nat} {f:Nat->Value} (hc: ∀(j:Nat) (a:AV),y.cells[j]?=some a->one (f j)=true/\RV F loc a (f j))
 {t:TypeId} {ag:Bool} {size:Nat} (ht:aJ P t=some (ag,size)) {o:Nat} {r:AV} (hr:jY y ag size o=some r):
 ∃v,(∀w':World,(∀(j:Nat) (a:AV),y.cells[j]?=some a->w'.cell? ⟨b,p+j,none⟩=some (f j))->(Instr.loadAt t (.pointer (some ⟨b,p+o,none⟩))).run P w'= .ok v w')/\RV F loc r v:=by
 have hadd: ∀j,(⟨b,p+o,none⟩:Addr).add j=⟨b,p+o+j,none⟩:=fun j=>by unfold Addr.add;split<;>simp_all
 cases ag with
 |false=>
  simp only[jY,Bool.false_eq_true,if_false]at hr
  obtain⟨g2,g3⟩:=hc o r hr
  refine⟨f o,fun w' hw=>?_,g3⟩
  obtain⟨h1,h2⟩:=qK ht w'
  have g1:=hw o r hr
  simp[Instr.loadAt,Instr.sureAddr,loadVar,h1,g1]
 |true=>
  simp only[jY,if_true]at hr
  split at hr
  ·rename_i hle
   have hl: ∀w':World,(∀(j:Nat) (a:AV),y.cells[j]?=some a->w'.cell? ⟨b,p+j,none⟩=some (f j))->(loadCells ⟨b,p+o,none⟩ size).run P w'= .ok ((List.range size).map fun j=>f (o+j)).toArray w':=by
    intro w' hw
    have:=run_loadCells_list (P:=P) w' ⟨b,p+o,none⟩ ((List.range size).map fun j=>f (o+j)) (fun j v hv=>by
     rw[hadd]
     obtain⟨hj,rfl⟩:=oH hv
     have hlt:o+j<y.cells.length:=by omega
     rw[Nat.add_assoc]
     exact hw (o+j) y.cells[o+j] (by simp[hlt]))
    simpa using this
   have hres:RV F loc (.agg ((y.cells.drop o).take size)) (.agg ((List.range size).map fun j=>f (o+j)).toArray):=by
    refine .agg (by simp;omega) (fun i a v ha hv=>?_) (fun i v hv=>?_)
    ·obtain⟨hi,rfl⟩:=oH (by simpa using hv)
     rw[List.getElem?_take,if_pos hi,List.getElem?_drop]at ha
     exact(hc _ a ha).2
    ·obtain⟨hi,rfl⟩:=oH (by simpa using hv)
     have hlt:o+i<y.cells.length:=by omega
     exact(hc (o+i) y.cells[o+i] (by simp[hlt])).1
   refine⟨.agg ((List.range size).map fun j=>f (o+j)).toArray,fun w' hw=>?_,?_⟩
   ·obtain⟨h1,h2⟩:=qK ht w'
    simp[Instr.loadAt,Instr.sureAddr,loadVar,h1,h2,hl w' hw]
   ·have hr':=Option.some.inj hr
    subst hr'
    split
    ·rename_i hcond
     obtain⟨rfl,hs,hag⟩:=hcond
     cases y with
     |agg cs=>
      simp only[AV.cells]at hs
      have:(cs.drop 0).take size=cs:=by simp[hs]
      simp only[AV.cells,this]at hres
      exact hres
     |_=>simp[AV.isAgg]at hag
    ·exact hres
  ·cases hr
theorem aSs {P:Program} [Glob P] {o:Oper} {F} {μ:Pl} {C:Cx} [GOk P C] {s:ASt} (hq:xP P o s=true) {a:Act} {w0:World} (hs:SR C F μ s a w0) {d:Nat} (hd:o.dst=some d) {r:Sv} (hr:bA P o s= .v r) (hn:r.need):
 ∃z,(∀w,vO F w->(execOp a.eval o).run P w= .ok (.value z) w)/\RV F (aE s.o μ) r.val z:=by
 by_cases hl: ∃t x,o.op= .load t x
 ·obtain⟨t,x,hx⟩:=hl
  have hav:=vM hr
  unfold eD at hav
  unfold xP at hq
  simp only[hx]at hav hq
  cases hp:dA P s.t x with
  |none=>simp[hp]at hav
  |some p=>
   simp only[hp]at hav hq
   have hrv:=kT (P:=P) hs x p hp
   unfold nG at hav
   split at hav
   ·rename_i ag size ht
    split at hav
    ·rename_i y oo hpe
     cases hre:jY y ag size oo with
     |none=>simp[hre]at hav
     |some v=>
      simp[hre]at hav
      subst hav
      have fin: ∀{b p0:Nat} {f:Nat->Value} {ax:Value},ax= .pointer (some ⟨b,p0+oo,none⟩)->a.eval x=ax->(∀(j:Nat) (c:AV),y.cells[j]?=some c->one (f j)=true/\RV F (aE s.o μ) c (f j))->
       (∀w,vO F w-> ∀(j:Nat) (c:AV),y.cells[j]?=some c->w.cell? ⟨b,p0+j,none⟩=some (f j))-> ∃z,(∀w,vO F w->(execOp a.eval o).run P w= .ok (.value z) w)/\RV F (aE s.o μ) v z:=by
       rintro b p0 f ax rfl hax h1 h2
       obtain⟨z,k1,k2⟩:=aSr (P:=P) (b:=b) (p:=p0) h1 ht hre
       refine⟨z,fun w hw=>?_,k2⟩
       have:=k1 w (h2 w hw)
       simp[execOp,hx,hax,this]
      generalize hax:a.eval x=ax at hrv
      cases hrv with
      | @iptr _ _ lent xs b o0 es i k f g1 g2 g3 g4 g5=>
       simp only[lG]at hpe
       cases hxi:xs[i]? with
       |none=>simp[hxi]at hpe
       |some y'=>
        simp[hxi]at hpe
        obtain⟨rfl,rfl⟩:=hpe
        exact fin (p0:=o0+i*es) (f:=f i) rfl hax (fun j c hc=>⟨g5 i y' j c hxi hc,(g4 i y' j c hxi hc).up hs.sw.sub⟩) fun w hw j c hc=>hw _ _ _ _ (g3 i y' j c hxi hc)
      | @ptr _ _ L i k b cap es len g1 g2=>
       simp only[lG]at hpe
       cases hg:lk s.o L with
       |none=>simp[hg]at hpe
       |some X=>
        simp[hg]at hpe hq
        obtain⟨y',hxi,rfl,rfl⟩:=hpe
        have hloc:aE s.o μ L=some (bV X (μ L)):=by simp[aE,hg]
        rw[hloc]at g1
        obtain⟨hm,rfl,rfl,hk1⟩:=fB (Option.some.inj g1)
        have ho:=hs.sw.obj L X hg
        rw[hm]at ho
        obtain⟨c,e,q1,q2,q3,q4,q5,q6,q7⟩:=ObjAt.std ho hk1
        obtain⟨f,hf⟩: ∃f:Nat->Value,∀(j:Nat) (c':AV),y'.cells[j]?=some c'->one (f j)=true/\RV (oF X.arr F) (oL X.arr (aE s.o μ)) c' (f j)/\F false b (i*X.es+j)=some (f j):=
         ⟨fun j=>(c[i*X.es+j]?).getD .nilIface,fun j c' hc=>by
          obtain⟨u,u1,u2,u3,u4⟩:=q6 i y' j c' hxi hc
          simp only[u1,Option.getD_some]
          exact⟨u2,u3,u4 hq⟩⟩
        refine fin (p0:=i*X.es) (f:=f) rfl hax (fun j c' hc=>⟨(hf j c' hc).1,?_⟩) fun w hw j c' hc=>hw _ _ _ _ (hf j c' hc).2.2
        have:=(hf j c' hc).2.1
        cases harr:X.arr with
        |false=>rw[harr]at this;exact this
        |true=>rw[harr]at this;exact RV.up this hs.sw.sub
      |_=>simp[lG]at hpe
    ·cases hav
   ·cases hav
 ·have hq':K6 o=true:=by
   unfold xP at hq
   split at hq
   ·rename_i t x hx;exact absurd ⟨t,x,hx⟩ hl
   ·exact hq
  obtain⟨z,k1,k2⟩:=aSo hq' hs hd hr hn
  exact⟨z,fun w _=>k1 w,k2⟩
def iQ (P:Program) [Glob P] (ops:Array Oper) (Q:ASt->Prop):Nat->Array Bool->ASt->Prop
 |0,X,s=>Region.ready .any ops X= []/\Q s
 |f+1,X,s=>(Region.ready .any ops X= []/\Q s)\/
  (∃l o d,ops[l]?=some o/\(Region.ready .any ops X).contains l=true/\Region.free .any ops X l=true/\xP P o s=true/\o.guard=none/\o.dst=some d/\ ∃r,bA P o s= .v r/\r.need/\d<s.n/\iQ P ops Q f (X.setIfInBounds l true) (s.put d r.val))\/
  (Region.ready .any ops X≠ []/\ ∀i∈Region.ready .any ops X,∀o,ops[i]?=some o->gK P (gX ops o.guard s) o (fun s'=> ∃s0,Le s0 s'/\iQ P ops Q f (X.setIfInBounds i true) s0) s)
theorem Z6 {ro:Option Nat} {P:Program} [Glob P] {ops:Array Oper} (hsel:Region.noSelect ops=true) {k:ASt->Prop} {Q:Exit->Act->World->Prop} (hQ: ∀e a w,Q e a w->e= .normal):
 ∀(f:Nat) (X:Array Bool) (s:ASt) (C:Cx) [GOk P C] (F μ) (a:Act) (w:World),(∀a' w' s' F' μ',k s'->SR C F' μ' s' a' w'->Q .normal a' w')->iQ P ops k f X s->SR C F μ s a w->wAnyF ro P .any ops Q F f X a w
 |0,X,s,C,_,F,μ,a,w,hk,h,hs=>⟨h.1,hk _ _ _ _ _ h.2 hs⟩
 |f+1,X,s,C,_,F,μ,a,w,hk,h,hs=>by
  rcases h with⟨h1,h2⟩|⟨l,o,d,ho,hr,hf,hq,hg,hd,r,hv,hn,hdn,h⟩|⟨h0,h⟩
  ·exact⟨fun _=>hk _ _ _ _ _ h2 hs,by rw[h1];simp⟩
  ·obtain⟨z,hz,hrv⟩:=aSs hq hs hd hv hn
   refine aSq hQ ho (Region.noSelect_spec hsel) f X a w (Region.free_spec ho hf) (by simpa using hr) hs.sw.facts (.inl ⟨by simp[Region.wanted,hg],hz⟩) ?_
   rw[hd]
   exact Z6 hsel hQ f _ _ C F μ _ w hk h (hs.put hdn hrv)
  ·refine⟨fun e=>absurd e h0,fun i hi=>?_⟩
   obtain⟨_,o,ho,_⟩:=Go.mem_ready.1 hi
   haveI:GOk P (C.now F μ s.o w):=⟨GOk.at (P:=P) hs.sw.grow⟩
   refine Y8 (ro:=ro) ho (h i hi o ho) hs.ahead ?_
   rintro a' w' s' F' μ' ⟨s0,hl,hk'⟩ hs'
   obtain⟨F2,μ2,hs2⟩:=hl _ _ _ _ _ hs'
   have hg:FLe F F2:=hs2.sw.grow
   refine⟨fun l b k v hv=>hs2.sw.facts l b k v (hg l b k v hv),?_⟩
   exact(Z6 hsel hQ f _ _ (C.now F μ s.o w) F2 μ2 a' w' (fun a1 w1 s1 F1 μ1 h1 h2=>hk a1 w1 s1 F1 μ1 h1 (hs.behind h2)) hk' hs2).less hg
theorem aSt {ro:Option Nat} {P:Program} [Glob P] {ops:Array Oper} {id:Nat} (hmix:P.follows .mixedOrders=true) (hsel:Region.noSelect ops=true) {k:ASt->Prop} {s:ASt} (h:iQ P ops k ops.size (Array.replicate ops.size false) s) {Q:Exit->Act->World->Prop} (C:Cx) [GOk P C] (F μ a w) (hs:SR C F μ s a w)
 (hk: ∀a' w' s' F' μ',k s'->SR C F' μ' s' a' w'->Q .normal a' w'):(Code.region id ops true).wpIn (fW ro) 0 P Q a w:=by
 refine wpIn_mono (Q:=fun e a w=>e= .normal/\Q .normal a w) ?_ fun e a w h=>by rw[h.1];exact h.2
 refine wpIn_region_any hmix (Y6 ?_)
 exact(Z6 hsel (fun e a w h=>h.1) ops.size _ s C F μ a _ (fun a' w' s' F' μ' h1 h2=>⟨rfl,hk a' w' s' F' μ' h1 h2⟩) h hs.drew).any
end Go.Ab
namespace Go.Ab
open Go.RowKit
def qV (K:ASt->Prop) (Q:Exit->ASt->Prop):Exit->ASt->Prop
 | .normal,s=>K s
 |e,s=>Q e s
def xQ (id:Nat) (Q:Exit->ASt->Prop):Exit->ASt->Prop
 | .exit id',s=>if id'=id then Q .normal s else Q (.exit id') s
 |e,s=>Q e s
def Again (I:Nat->ASt->Prop) (n:Nat) (s:ASt):Prop:= ∃n' s0,n'<n/\Le s0 s/\I n' s0
def jP:Code->Bool
 | .seq a b=>jP a&&jP b
 | .cond _ a b=>jP a&&jP b
 | .block _ b=>jP b
 | .loop b=>jP b
 | .rangeFunc .. =>false
 |_=>true
def Z7 (K:ASt->Prop) (s:ASt):Prop:= ∃s1,Le s1 s/\K s1
def bW (P:Program) [Glob P]:Code->(Exit->ASt->Prop)->ASt->Prop
 | .skip,Q,s=>Q .normal s
 | .region _ ops draw,Q,s=>match draw with
  |false=>nN P ops ops.toList (Q .normal) s
  |true=> ∃s0,Le s0 s/\P.follows .mixedOrders=true/\((∃m,nP ops m=true/\lP P ops m ops.toList (Q .normal) s0)\/(Region.noSelect ops=true/\iQ P ops (Q .normal) ops.size (Array.replicate ops.size false) s0))
 | .seq a b,Q,s=>bW P a (qV (Z7 (bW P b Q)) Q) s
 | .cond c x y,Q,s=>match ev s.t c with
  |some (.sc (.bool b))=>(b=true->bW P x Q s)/\(b=false->bW P y Q s)
  |_=>False
 | .block id b,Q,s=>bW P b (xQ id Q) s
 | .loop b,Q,s=> ∃(I:Nat->ASt->Prop),(∃n s0,Le s0 s/\I n s0)/\ ∀n s,I n s->bW P b (qV (Again I n) Q) s
 | .exit id,Q,s=>Q (.exit id) s
 | .ret,Q,s=>Q .ret s
 | .rangeFunc g ps as bd,Q,s=>AWp none P (.rangeFunc g ps as bd) Q s
 |_,_,_=>False
theorem Mk.keep {C:Cx} {w w':World} {ds:List Deferred} (h:Mk C w ds) {C1:Cx} {F μ} {o:aF} (hs:SW C1 F μ o w) (hw:Fr (wX o μ) w w'):Mk C w' ds:=
 ⟨h.nodup,fun d hd=>by
  obtain⟨D,h1,h2,h3⟩:=h.each d hd
  refine⟨D,h1,(hw.block D (gJ h2) ?_).trans h2,h3⟩
  rintro⟨L,x,c,hx,hm⟩
  have:=hs.obj L x hx
  rw[hm]at this
  rcases this with⟨c',e,q,_⟩|⟨_,_,_,es,ck,q,_⟩|⟨_,_,r,q,g⟩
  ·rw[h2]at q;cases q
  ·rw[h2]at q;cases q
  ·rw[h2]at q
   obtain rfl:=Option.some.inj q
   exact g.defr⟩
theorem aSu {F:Fence} {n:Nat} {P:Program} [Glob P] {Q:Exit->Act->World->Prop} {a:Act} {w:World} {c:Code} (I:Nat->Act->World->Prop) (n₀:Nat) (h₀:I n₀ a w)
 (round: ∀m a w,I m a w->c.wpIn F n P (Exit.then (fun a' w'=> ∃n',n'<m/\I n' a' w') Q) a w):(Code.loop c).wpIn F n P Q a w:=by
 refine wpIn_loop (fun a w=> ∃n,I n a w) (fun a w=>leastOf (fun n=>I n a w)) ⟨n₀,h₀⟩ ?_
 intro a w hI
 refine wpIn_mono (round _ a w (leastOf_spec hI).1) ?_
 intro e a' w' hq
 cases e with
 |normal=>
  obtain⟨n',hlt,hI'⟩:=hq
  exact show(∃n,I n a' w')/\leastOf (fun n=>I n a' w')<leastOf (fun n=>I n a w)from⟨⟨n',hI'⟩,Nat.lt_of_le_of_lt ((leastOf_spec ⟨n',hI'⟩).2 n' hI') hlt⟩
 |exit id=>exact hq
 |goto l=>exact hq
 |ret=>exact hq
 |panic ch=>exact hq
 |outgrown=>exact hq
theorem pT {ro:Option Nat} {P:Program} [Glob P]: ∀(c:Code) (Q:Exit->ASt->Prop) (s:ASt),(ro=none\/jP c=true)->bW P c Q s->AWp ro P c Q s
 | .skip,Q,s,hr,h=>fun C _ F μ a w hm hs=>wpIn_skip ⟨F,μ,s,h,hm,hs⟩
 | .region id ops draw,Q,s,hr,h=>by
  have gen: ∀s:ASt,(match draw with
   |false=>nN P ops ops.toList (Q .normal) s
   |true=>P.follows .mixedOrders=true/\((∃m,nP ops m=true/\lP P ops m ops.toList (Q .normal) s)\/(Region.noSelect ops=true/\iQ P ops (Q .normal) ops.size (Array.replicate ops.size false) s)))->AWp ro P (.region id ops draw) Q s:=by
   intro s h C _ F μ a w hm hs
   haveI:GOk P ((C.at a.defers).now F μ s.o w):=⟨GOk.at (P:=P) (C:=C.at a.defers) hs.sw.grow⟩
   have fin: ∀{a':Act} {w':World} {s':ASt} {F' μ'},Q .normal s'->SR ((C.at a.defers).now F μ s.o w) F' μ' s' a' w'-> ∃F' μ' s',Q .normal s'/\Mk C w' a'.defers/\SR (C.at a'.defers) F' μ' s' a' w':=fun {a'} {w'} {s'} {F'} {μ'} hq hs'=>by
    have hd:a'.defers=a.defers:=hs'.defers
    rw[hd]
    exact⟨F',μ',s',hq,hm.keep hs.sw hs'.sw.fr,hs.behind hs'⟩
   cases draw with
   |false=>
    refine wpIn_region (aGx ?_)
    have:=aG3 (ro:=ro) (Q:=fun e a' w'=> ∃F' μ' s',Q e s'/\Mk C w' a'.defers/\SR (C.at a'.defers) F' μ' s' a' w') ops.toList 0 _ s h (fun j=>by simp) _ F μ a w hs.ahead (fun a' w' s' F' μ' hk hs'=>fin hk hs')
    simpa[List.range_eq_range']using this
   |true=>
    obtain⟨hmx,⟨m,hok,h⟩|⟨hsel,h⟩⟩:=h
    ·exact aSl hmx hok h _ F μ a w hs.ahead (fun a' w' s' F' μ' hk hs'=>fin hk hs')
    ·exact aSt hmx hsel h _ F μ a w hs.ahead (fun a' w' s' F' μ' hk hs'=>fin hk hs')
  cases draw with
  |false=>exact gen s h
  |true=>obtain⟨s0,hle,h⟩:=h;exact(gen s0 h).le hle
 | .seq x y,Q,s,hr,h=>fun C _ F μ a w hm hs=>by
  have hr1:ro=none\/jP x=true:=hr.imp_right fun h=>by simp only[jP,Bool.and_eq_true]at h;exact h.1
  have hr2:ro=none\/jP y=true:=hr.imp_right fun h=>by simp only[jP,Bool.and_eq_true]at h;exact h.2
  refine wpIn_seq (wpIn_mono (pT x _ s hr1 h C F μ a w hm hs) ?_)
  rintro e a' w' ⟨F',μ',s',hq,hm',hs'⟩
  cases e with
  |normal=>
   obtain⟨s1,hle,hq⟩:=hq
   exact(pT y Q s1 hr2 hq).le hle C F' μ' a' w' hm' hs'
  |_=>exact⟨F',μ',s',hq,hm',hs'⟩
 | .cond c x y,Q,s,hr,h=>fun C _ F μ a w hm hs=>by
  have hr1:ro=none\/jP x=true:=hr.imp_right fun h=>by simp only[jP,Bool.and_eq_true]at h;exact h.1
  have hr2:ro=none\/jP y=true:=hr.imp_right fun h=>by simp only[jP,Bool.and_eq_true]at h;exact h.2
  simp only[bW]at h
  split at h
  ·rename_i b hb
   have hrv:=dU hs c _ hb
   generalize hv:a.eval c=v at hrv
   cases hrv
   cases b with
   |true=>exact wpIn_cond_true hv (pT x Q s hr1 (h.1 rfl) C F μ a w hm hs)
   |false=>exact wpIn_cond_false hv (pT y Q s hr2 (h.2 rfl) C F μ a w hm hs)
  ·exact h.elim
 | .block id b,Q,s,hr,h=>fun C _ F μ a w hm hs=>by
  refine wpIn_block (wpIn_mono (pT b _ s (hr.imp_right fun h=>h) h C F μ a w hm hs) ?_)
  rintro e a' w' ⟨F',μ',s',hq,hm',hs'⟩
  cases e with
  |exit id'=>
   simp only[Exit.inBlock]
   simp only[xQ]at hq
   split
   ·rename_i hid;rw[if_pos hid]at hq;exact⟨F',μ',s',hq,hm',hs'⟩
   ·rename_i hid;rw[if_neg hid]at hq;exact⟨F',μ',s',hq,hm',hs'⟩
  |_=>exact⟨F',μ',s',hq,hm',hs'⟩
 | .loop b,Q,s,hr,h=>fun C _ F μ a w hm hs=>by
  obtain⟨I,⟨n,s0,hle,hI⟩,hround⟩:=h
  obtain⟨F0,μ0,hs0⟩:=hle _ F μ a w hs
  refine aSu (fun n a w=> ∃F μ s,I n s/\Mk C w a.defers/\SR (C.at a.defers) F μ s a w) n ⟨F0,μ0,s0,hI,hm,hs0⟩ ?_
  rintro n a w ⟨F,μ,s,hI,hm,hs⟩
  refine wpIn_mono (pT b _ s (hr.imp_right fun h=>h) (hround n s hI) C F μ a w hm hs) ?_
  rintro e a' w' ⟨F',μ',s',hq,hm',hs'⟩
  cases e with
  |normal=>
   obtain⟨n',s1,hlt,hle',hI'⟩:=hq
   obtain⟨F2,μ2,hs2⟩:=hle' _ F' μ' a' w' hs'
   exact⟨n',hlt,F2,μ2,s1,hI',hm',hs2⟩
  |_=>exact⟨F',μ',s',hq,hm',hs'⟩
 | .exit id,Q,s,hr,h=>fun C _ F μ a w hm hs=>wpIn_exit ⟨F,μ,s,h,hm,hs⟩
 | .ret,Q,s,hr,h=>fun C _ F μ a w hm hs=>wpIn_ret ⟨F,μ,s,h,hm,hs⟩
 | .rangeFunc ..,Q,s,hr,h=>by
  obtain rfl:=hr.resolve_right (by simp[jP])
  exact h
 | .scope _,Q,s,hr,h=>h.elim
 | .label _,Q,s,hr,h=>h.elim
 | .goto _,Q,s,hr,h=>h.elim
 | .refuse _,Q,s,hr,h=>h.elim
end Go.Ab
namespace Go.Ab
open Go.RowKit
def sC (P:Program) [Glob P] (s:ASt):ResultVar->Option AV
 | .tmp t=>lk s.t t
 | .cell a t=>match lk s.t a with
  |some (.ptr L i k)=>(nG P t (.ptr L i k) s.o).map (·.val)
  |_=>none
def iR (P:Program) [Glob P] (s:ASt):List ResultVar->Option (List AV)
 | []=>some []
 |r::rs=>match sC P s r,iR P s rs with
  |some a,some as=>some (a::as)
  |_,_=>none
def A6 (tmps:Array Value):ResultVar->Sem Value
 | .tmp t=>pure (tmps.getD t undef)
 | .cell a t=>do loadVar t (<-asAddr (tmps.getD a undef))
theorem aSv {P:Program} [Glob P] {C F μ} {s:ASt} {a:Act} {w:World} (h:SR C F μ s a w) {r:ResultVar} {x:AV} (he:sC P s r=some x):
 ∃v,(A6 a.tmps r).run P w= .ok v w/\RV F (aE s.o μ) x v:=by
 cases r with
 |tmp t=>exact⟨_,rfl,h.slot t x he⟩
 |cell p t=>
  simp only[sC]at he
  split at he
  ·rename_i L i k hp
   cases hl:nG P t (.ptr L i k) s.o with
   |none=>simp[hl]at he
   |some r=>
    simp[hl]at he
    subst he
    have hv:=h.slot p _ hp
    obtain⟨z,h1,h2⟩:=aEs (P:=P) h.sw hl hv
    generalize hu:a.tmps.getD p undef=u at hv h1
    refine⟨z,?_,h2⟩
    simp only[A6,hu]
    cases hv with
    |ptr g1 g2=>
     simp[asAddr]
     simpa[Instr.loadAt,Instr.sureAddr]using h1
  ·cases he
theorem Z8 {P:Program} [Glob P] {C F μ} {s:ASt} {a:Act} {w:World} (h:SR C F μ s a w): ∀{rs:List ResultVar} {xs:List AV},iR P s rs=some xs->
 ∃vs:List Value,(rs.mapM (A6 a.tmps)).run P w= .ok vs w/\xs.length=vs.length/\
  ∀(i:Nat) (x:AV) (v:Value),xs[i]?=some x->vs[i]?=some v->RV F (aE s.o μ) x v
 | [],xs,he=>by
  simp[iR]at he;subst he
  exact⟨[],by simp,rfl,fun i x v hx=>by simp at hx⟩
 |r::rs,xs,he=>by
  simp only[iR]at he
  split at he
  ·rename_i x xs' h1 h2
   obtain rfl:=Option.some.inj he
   obtain⟨v,g1,g2⟩:=aSv h h1
   obtain⟨vs,k1,k2,k3⟩:=Z8 h h2
   refine⟨v::vs,?_,by simp[k2],fun i y u hy hu=>?_⟩
   ·rw[List.mapM_cons,Sem.run_bind,g1,Result.andThen_ok,Sem.run_bind,k1];rfl
   ·cases i with
    |zero=>simp at hy hu;subst hy;subst hu;exact g2
    |succ i=>simp at hy hu;exact k3 i y u hy hu
  ·cases he
def pU (s:ASt):AV->Option (ASt×AV)
 | .ref L lo n=>some (s,.ref L lo n)
 |a=>share s a
def nQ:ASt->List AV->Option (ASt×List AV)
 |s,[]=>some (s,[])
 |s,a::r=>match pU s a with
  |some (s1,b)=>match nQ s1 r with
   |some (s2,bs)=>some (s2,b::bs)
   |none=>none
  |none=>none
def lQ (o:aF):AV->Option AV
 | .ref L lo n=>match lk o L with
  |some x=>if x.arr=true then(if x.fz=true then some (.list false false (cA x.xs lo n))else if x.pin=false/\lo=0/\n=x.xs.length then some (.own x.es x.xs)else none)else none
  |none=>none
 |a=>if a.pure=true then some a else none
def nR (o:aF):List AV->Option (List AV)
 | []=>some []
 |a::r=>match lQ o a,nR o r with
  |some b,some bs=>some (b::bs)
  |_,_=>none
def gG:List AV->List Nat
 | []=> []
 | .ref L _ _::r=>L::gG r
 |_::r=>gG r
def oQ:List Nat->Bool
 | []=>true
 |a::r=> !r.contains a&&oQ r
def iS:List AV->AV
 | [r]=>r
 |rs=> .tup rs
def uG (P:Program) [Glob P] (rs:List ResultVar) (fs:List Nat) (s:ASt):Option AV:=
 match iR P s rs,lN fs s with
 |some xs,some s1=>match nQ s1 xs with
  |some (s2,ys)=>if oQ (gG ys)=true then(nR s2.o ys).map iS else none
  |none=>none
 |_,_=>none
theorem aSw {C F μ} {s s':ASt} {a:Act} {w:World} (h:SR C F μ s a w) {x y:AV} (he:pU s x=some (s',y)):
 ∃F',FLe F F'/\SR C F' μ s' a w/\aE s'.o μ=aE s.o μ/\ ∀v,RV F (aE s.o μ) x v->RV F' (aE s.o μ) y v:=by
 unfold pU at he
 split at he
 ·obtain⟨rfl,rfl⟩:=Prod.mk.inj (Option.some.inj he)
  exact⟨F,FLe.refl _,h,rfl,fun v hv=>hv⟩
 ·obtain⟨F',h1,h2,h3,h4,h5⟩:=zF h he
  exact⟨F',h1,h2,h4,fun v hv=>(h5 v hv).congr (FLe.refl _) fun L hL=>((h5 v hv).noloc_has (fun _=>rfl) L hL).elim⟩
theorem aHk {C μ} {a:Act} {w:World}: ∀{xs ys:List AV} {F} {s s':ASt},SR C F μ s a w->nQ s xs=some (s',ys)->
 ∃F',FLe F F'/\SR C F' μ s' a w/\aE s'.o μ=aE s.o μ/\ys.length=xs.length/\ ∀(i:Nat) (x y:AV) (v:Value),xs[i]?=some x->ys[i]?=some y->RV F (aE s.o μ) x v->RV F' (aE s'.o μ) y v
 | [],ys,F,s,s',h,he=>by
  simp[nQ]at he
  obtain⟨rfl,rfl⟩:=he
  exact⟨F,FLe.refl _,h,rfl,rfl,fun i x y v hx=>by simp at hx⟩
 |c::cs,ys,F,s,s',h,he=>by
  simp only[nQ]at he
  split at he
  ·rename_i s1 b h1
   split at he
   ·rename_i s2 bs h2
    obtain⟨rfl,rfl⟩:=Prod.mk.inj (Option.some.inj he)
    obtain⟨F1,a1,a2,a3,a4⟩:=aSw h h1
    obtain⟨F2,b1,b2,b3,b4,b5⟩:=aHk a2 h2
    refine⟨F2,a1.trans b1,b2,b3.trans a3,by simp[b4],fun i x y v hx hy hv=>?_⟩
    cases i with
    |zero=>simp at hx hy;subst hx;subst hy;rw[b3,a3];exact(a4 v hv).mono b1
    |succ i=>simp at hx hy;exact b5 i x y v hx hy (by rw[a3];exact hv.mono a1)
   ·cases he
  ·cases he
theorem aHl {F} {loc:Nat->Option LI} {L lo n:Nat} {v:Value} (h:RV F loc (.ref L lo n) v) {li:LI} (hl:loc L=some li):
 (li.place=none/\lo=0/\n=0/\ ∃q,v= .slice q 0 0)\/(∃b cap o c,li.place=some (b,cap)/\v= .slice (some ⟨b,o,none⟩) n c/\lo+n<=li.len/\n<=c/\(n≠0\/lo=0->o=lo*li.es)/\(lo=0->c=cap)):=by
 cases h with
 | @refNil _ _ _ _ _ base g=>rw[hl]at g;obtain rfl:=Option.some.inj g;exact .inl ⟨rfl,rfl,rfl,base,rfl⟩
 | @ref _ _ _ _ _ b cap es len o c g1 g2 g3 g4 g5=>rw[hl]at g1;obtain rfl:=Option.some.inj g1;exact .inr ⟨b,cap,o,c,rfl,rfl,g2,g3,g4,g5⟩
def vP (μ:Pl):AV->AV->Option (Nat×Nat)
 | .ref L _ _,.own _ _=>μ L
 |_,_=>none
theorem aSx {C F μ} {s:ASt} {a:Act} {w:World} (h:SR C F μ s a w) (hM: ∀b,¬C.M b) {y z:AV} (he:lQ s.o y=some z) {v:Value} (hv:RV F (aE s.o μ) y v):ResV1 F w C.w0.heap.size (vP μ y z) v z:=by
 unfold lQ at he
 split at he
 ·rename_i L lo n
  split at he
  ·rename_i x hg
   split at he
   ·rename_i ha
    split at he
    ·rename_i hz
     obtain rfl:=Option.some.inj he
     exact⟨rfl,U9 hg (h.sw.obj L x hg) ha hz hv bU⟩
    ·rename_i hz
     have hz:x.fz=false:=by simpa using hz
     split at he
     ·rename_i hc
      obtain⟨hpin,rfl,rfl⟩:=hc
      obtain rfl:=Option.some.inj he
      have hkd:=V2 hv hg
      have hloc:aE s.o μ L=some ⟨μ L,x.es,x.xs.length,false⟩:=by simp[aE,hg,lE hkd]
      have ho:=h.sw.obj L x hg
      show OwnR F w C.w0.heap.size x.es x.xs v (μ L)
      rcases aHl hv hloc with⟨hm,_,hn0,q,rfl⟩|⟨b,cap,o,c,hm,rfl,g1,g2,g3,g4⟩
      ·simp only at hm
       rw[hm]at ho ⊢
       have hx0:x.xs= []:=ho
       exact⟨hx0,q,rfl⟩
      ·simp only at hm
       rw[hm]at ho ⊢
       have ho':=g3 (.inr rfl)
       have hc':=g4 rfl
       simp at ho'
       subst ho'
       refine⟨by rw[hc'],?_,?_,h.sw.excl L x b cap hg hm hz⟩
       ·obtain⟨c,e,q1,q2,q3,q4,q5,q6,q7⟩:=ho.std hkd
        refine .inl ⟨c,e,q1,q2,q3,q4,q5,fun i y j a hy hj=>?_,.inl rfl⟩
        obtain⟨u,r1,r2,r3,r4⟩:=q6 i y j a hy hj
        refine⟨u,r1,r2,?_,fun hz'=>by simp[dF]at hz'⟩
        rw[ha]at r3;exact r3
       ·rcases h.sw.mine L x b cap hg hm with hh|hh
        ·exact hh
        ·exact(hM b hh).elim
     ·cases he
   ·cases he
  ·cases he
 ·split at he
  ·rename_i hp
   obtain rfl:=Option.some.inj he
   have:RV F bU y v:=RV.up (hv.shared hp) h.sw.sub
   cases y<;>first|exact⟨hp,this⟩|(simp[AV.pure]at hp)
  ·cases he
theorem aHm: ∀{ys zs:List AV} {o:aF},nR o ys=some zs->zs.length=ys.length/\ ∀(i:Nat) (y z:AV),ys[i]?=some y->zs[i]?=some z->lQ o y=some z
 | [],zs,o,he=>by simp[nR]at he;subst he;exact⟨rfl,fun i y z hy=>by simp at hy⟩
 |y::ys,zs,o,he=>by
  simp only[nR]at he
  split at he
  ·rename_i b bs h1 h2
   obtain rfl:=Option.some.inj he
   obtain⟨g1,g2⟩:=aHm h2
   refine⟨by simp[g1],fun i y' z hy hz=>?_⟩
   cases i with
   |zero=>simp at hy hz;subst hy;subst hz;exact h1
   |succ i=>simp at hy hz;exact g2 i y' z hy hz
  ·cases he
theorem aSy: ∀{ys:List AV},oQ (gG ys)=true-> ∀(i j L:Nat) (lo n lo' n':Nat),ys[i]?=some (.ref L lo n)->ys[j]?=some (.ref L lo' n')->i=j:=by
 have hmem: ∀{ys:List AV} {i L lo n:Nat},ys[i]?=some (.ref L lo n)->L∈gG ys:=by
  intro ys
  induction ys with
  |nil=>intro i L lo n h;simp at h
  |cons y ys ih=>
   intro i L lo n h
   cases i with
   |zero=>simp at h;subst h;simp[gG]
   |succ i=>
    simp at h
    have:=ih h
    cases y<;>simp_all [gG]
 intro ys
 induction ys with
 |nil=>intro _ i j L lo n lo' n' h;simp at h
 |cons y ys ih=>
  intro hn i j L lo n lo' n' hi hj
  have hn':oQ (gG ys)=true:=by
   cases y<;>simp_all [gG,oQ]
  cases i with
  |zero=>
   cases j with
   |zero=>rfl
   |succ j=>
    simp at hi hj
    subst hi
    have:=hmem hj
    simp[gG,oQ,this]at hn
  |succ i=>
   cases j with
   |zero=>
    simp at hi hj
    subst hj
    have:=hmem hi
    simp[gG,oQ,this]at hn
   |succ j=>
    simp at hi hj
    rw[ih hn' i j L lo n lo' n' hi hj]
theorem Z9: ∀(as:List AV) (k i:Nat) (x:AV),lk ((as.zipIdx k).map fun p=>(p.2,p.1)) i=some x->k<=i/\as[i - k]?=some x
 | [],k,i,x,h=>by simp[lk]at h
 |a::as,k,i,x,h=>by
  simp only[List.zipIdx_cons,List.map_cons,lk]at h
  by_cases hk:k=i
  ·subst hk
   rw[if_pos rfl]at h
   exact⟨Nat.le_refl _,by simpa using h⟩
  ·rw[if_neg hk]at h
   obtain⟨h1,h2⟩:=Z9 as (k+1) i x h
   refine⟨by omega,?_⟩
   rw[show i - k=(i - (k+1))+1 by omega]
   simpa using h2
def entry (n:Nat) (as:List AV):ASt:= {n:=n,t:=(as.zipIdx 0).map fun p=>(p.2,p.1),o:= []}
def aHn (P:Program) [Glob P] (rs:List ResultVar) (R:AV->Prop):Exit->ASt->Prop
 | .normal,s=> ∃fs r,uG P rs fs s=some r/\R r
 | .ret,s=> ∃fs r,uG P rs fs s=some r/\R r
 |_,_=>False
theorem aHo {P:Program} [Glob P] {fn:Func} {R:AV->Prop} {C:Cx} (hM: ∀b,¬C.M b) {F μ} {s:ASt} {a:Act} {w:World} (h:SR C F μ s a w) (hq: ∃fs r,uG P fn.results.toList fs s=some r/\R r):
 ∃v,(results fn a.tmps).run P w= .ok v w/\ ∃v' r F',Ending.returned v= .returned v'/\R r/\APost C.F0 C.w0 F' w/\zL F' w C.w0.heap.size v' r:=by
 obtain⟨fs,r,hr,hR⟩:=hq
 unfold uG at hr
 split at hr
 ·rename_i xs s1 hx hf
  obtain⟨vs,k1,k2,k3⟩:=Z8 h hx
  obtain⟨F1,f1,f2,f3,f4⟩:=Y7 h hf
  split at hr
  ·rename_i s2 ys hh
   split at hr
   ·rename_i hnd
    cases hfin:nR s2.o ys with
    |none=>simp[hfin]at hr
    |some zs=>
     simp[hfin]at hr
     subst hr
     obtain⟨F2,g1,g2,g3,g4,g5⟩:=aHk f2 hh
     obtain⟨e1,e2⟩:=aHm hfin
     have hres1: ∀(i:Nat) (z:AV) (v:Value),zs[i]?=some z->vs[i]?=some v->ResV1 F2 w C.w0.heap.size (vP μ (ys.getD i .dead) z) v z:=by
      intro i z v hz hv
      have hiz:i<zs.length:=(List.getElem?_eq_some_iff.1 hz).1
      have hiy:i<ys.length:=by omega
      have hix:i<xs.length:=by omega
      have hy:ys[i]?=some ys[i]:=by simp[hiy]
      have hyv:RV F2 (aE s2.o μ) ys[i] v:=g5 i xs[i] ys[i] v (by simp[hix]) hy (by rw[f4];exact(k3 i xs[i] v (by simp[hix]) hv).mono f1)
      have:=aSx g2 hM (e2 i ys[i] z hy hz) hyv
      rw[List.getD_eq_getElem?_getD,hy];exact this
     have hpost:APost C.F0 C.w0 F2 w:=by
      refine⟨⟨g2.sw.facts,g2.sw.sub⟩,g2.sw.grow,g2.sw.lentc,fun b k v hv=>?_,?_⟩
      ·rcases g2.sw.newf b k v hv with hh|hh|hh
       ·exact .inl hh
       ·exact .inr hh
       ·exact(hM b hh).elim
      ·have:=g2.sw.fr
       exact⟨this.os,this.tape,this.output,this.size,fun k hk _=>this.block k hk (hM k),this.drawn⟩
     have hlen:zs.length=vs.length:=by omega
     have hrun:(results fn a.tmps).run P w= .ok (if h:vs.toArray.size=1 then vs.toArray[0]else .tuple vs.toArray) w:=by
      have he:results fn a.tmps=(do let vs<-fn.results.mapM (A6 a.tmps);pure (if h:vs.size=1 then vs[0]else .tuple vs)):=by
       unfold results
       congr 1
      rw[he,Sem.run_bind,Array.mapM_eq_mapM_toList,Sem.run_map,k1]
      rfl
     refine⟨_,hrun,_,iS zs,F2,rfl,hR,hpost,?_⟩
     by_cases h1:vs.length=1
     ·obtain⟨v,rfl⟩:=List.length_eq_one_iff.1 h1
      obtain⟨z,rfl⟩:=List.length_eq_one_iff.1 (hlen.trans h1)
      have hz:=hres1 0 z v rfl rfl
      show zL F2 w C.w0.heap.size v z
      cases z with
      |tup rs=>exact(by have:=hz.1;simp[AV.pure]at this)
      |_=>exact⟨_,hz⟩
     ·have hne: ¬vs.toArray.size=1:=by simpa using h1
      rw[dif_neg hne]
      have hpk:iS zs= .tup zs:=by
       cases zs with
       |nil=>rfl
       |cons z zs=>cases zs with
        |nil=>simp at hlen;omega
        |cons z' zs=>rfl
      rw[hpk]
      refine⟨vs.toArray,fun i=>vP μ (ys.getD i .dead) (zs.getD i .dead),rfl,by simpa using hlen,fun i z v hz hv=>?_,fun i j b c c' hi hj=>?_⟩
      ·have:=hres1 i z v hz (by simpa using hv)
       simp only[List.getD_eq_getElem?_getD,hz,Option.getD_some]at this ⊢
       exact this
      ·have key: ∀i b c,vP μ (ys.getD i .dead) (zs.getD i .dead)=some (b,c)-> ∃L lo n,ys[i]?=some (.ref L lo n)/\μ L=some (b,c)/\ ∃x,lk s2.o L=some x:=by
        intro i b c hp
        rw[List.getD_eq_getElem?_getD,List.getD_eq_getElem?_getD]at hp
        cases hy:ys[i]? with
        |none=>simp[hy,vP]at hp
        |some y=>
         cases hz:zs[i]? with
         |none=>cases y<;>simp[hy,hz,vP]at hp
         |some z=>
          simp only[hy,hz,Option.getD_some]at hp
          cases y<;>cases z<;>simp[vP]at hp
          rename_i L lo n es xs'
          have hf1:=e2 i _ _ hy hz
          simp only[lQ]at hf1
          cases hgx:lk s2.o L with
          |none=>simp[hgx]at hf1
          |some x=>exact⟨L,lo,n,rfl,hp,x,hgx⟩
       obtain⟨L1,lo1,n1,a1,a2,x1,a3⟩:=key i b c hi
       obtain⟨L2,lo2,n2,b1,b2,x2,b3⟩:=key j b c' hj
       have hL:L1=L2:=g2.sw.dist L1 x1 L2 x2 b c c' a3 b3 a2 b2
       subst hL
       exact aSy hnd i j L1 lo1 n1 lo2 n2 a1 b1
   ·cases hr
  ·cases hr
 ·cases hr
theorem aHp {w:World} {D:Nat} {x:Obj} (h:w.heap[D]?=some x) (hx: ∀c e f,x≠ .cells c e f) (hp: ∀c e,x≠ .pending c e): ∀k v,w.cell? ⟨D,k,none⟩=some v->False:=by
 intro k v hv
 unfold World.cell? at hv
 rw[h]at hv
 cases x<;>simp_all
theorem SW.other {C F μ} {o:aF} {w:World} (h:SW C F μ o w) {D:Nat} (x:Obj) (hD:C.w0.heap.size<=D) (hc: ∀k v,w.cell? ⟨D,k,none⟩=some v->False) (hp: ∀L y c,lk o L=some y->μ L=some (D,c)->False):SW C F μ o (w.putObj D x):=by
 have hb: ∀k,k≠D->(w.putObj D x).heap[k]?=w.heap[k]?:=fun k hk=>World.putObj_heap_other hk
 refine⟨fun l b k v hv=>?_,h.sub,h.lentc,h.grow,h.newf,?_,fun L y hy=>?_,h.dist,h.excl,h.mine,h.keep⟩
 ·have:=h.facts l b k v hv
  rw[qG (hb b (by rintro rfl;exact hc k v this))];exact this
 ·exact⟨h.fr.os,h.fr.tape,h.fr.output,by rw[World.putObj_size];exact h.fr.size,fun k hk hm=>(hb k (by omega)).trans (h.fr.block k hk hm),h.fr.drawn⟩
 ·have ho:=h.obj L y hy
  cases hm:μ L with
  |none=>rw[hm]at ho;exact ho
  |some q=>
   obtain⟨b,c⟩:=q
   rw[hm]at ho
   exact ho.congr (hb b (by rintro rfl;exact hp L y c hy hm)) (FLe.refl _) fun _ _=>rfl
theorem Mk.no_obj {C:Cx} {w:World} {ds:List Deferred} {C1:Cx} {F μ} {o:aF} (hs:SW C1 F μ o w) {D:Nat} (h2:w.heap[D]?=some (.deferred (some []))): ∀L y c,lk o L=some y->μ L=some (D,c)->False:=by
 intro L x c hx hm
 have:=hs.obj L x hx
 rw[hm]at this
 rcases this with⟨c',e,q,_⟩|⟨_,_,_,es,ck,q,_⟩|⟨_,_,r,q,g⟩
 ·rw[h2]at q;cases q
 ·rw[h2]at q;cases q
 ·rw[h2]at q
  obtain rfl:=Option.some.inj q
  exact g.defr
theorem A7 {P:Program} [Glob P] {fn:Func} {R:Ending->World->Prop} {C:Cx} {F μ} {s:ASt}: ∀(ds:List Deferred) (a:Act) (w:World),Mk C w ds->SR (C.at ds) F μ s {a with defers:=ds} w->
 (∀w',SR (C.at []) F μ s {a with defers:= []} w'-> ∃v,(results fn a.tmps).run P w'= .ok v w'/\R (.returned v) w')->LeavesInM (fW none) 0 P fn a.tmps R ds .returning w
 | [],a,w,hm,hs,h=>h w hs
 |d::ds,a,w,hm,hs,h=>by
  obtain⟨D,rfl,h2,h3⟩:=hm.each d (by simp)
  refine⟨by simp,.inl ⟨D,_,rfl,run_takeDeferred h2,A7 ds a _ ⟨(List.pairwise_cons.1 hm.nodup).2,fun d' hd'=>?_⟩ ⟨?_,rfl,hs.n,hs.slot⟩ h⟩⟩
  ·obtain⟨D',rfl,g2,g3⟩:=hm.each d' (by simp[hd'])
   have hne:D'≠D:=by
    rintro rfl
    exact(List.pairwise_cons.1 hm.nodup).1 _ hd' D' rfl rfl
   exact⟨D',rfl,(World.putObj_heap_other hne).trans g2,g3⟩
  ·have h1:SW (C.at ds) F μ s.o w:=⟨hs.sw.facts,hs.sw.sub,hs.sw.lentc,hs.sw.grow,hs.sw.newf,hs.sw.fr,hs.sw.obj,hs.sw.dist,hs.sw.excl,hs.sw.mine,hs.sw.keep⟩
   exact h1.other _ h3 (aHp h2 (fun _ _ _ h=>by cases h) (fun _ _ h=>by cases h)) (Mk.no_obj (C:=C) (ds:=ds) h1 h2)
theorem SW.at {C:Cx} {ds ds':List Deferred} {F μ} {o:aF} {w:World} (hs:SW (C.at ds) F μ o w):SW (C.at ds') F μ o w:=⟨hs.facts,hs.sub,hs.lentc,hs.grow,hs.newf,hs.fr,hs.obj,hs.dist,hs.excl,hs.mine,hs.keep⟩
theorem SW.to {C:Cx} {ds:List Deferred} {F μ} {o:aF} {w:World} (hs:SW (C.at ds) F μ o w):SW C F μ o w:=⟨hs.facts,hs.sub,hs.lentc,hs.grow,hs.newf,hs.fr,hs.obj,hs.dist,hs.excl,hs.mine,hs.keep⟩
theorem SW.from {C:Cx} {ds:List Deferred} {F μ} {o:aF} {w:World} (hs:SW C F μ o w):SW (C.at ds) F μ o w:=⟨hs.facts,hs.sub,hs.lentc,hs.grow,hs.newf,hs.fr,hs.obj,hs.dist,hs.excl,hs.mine,hs.keep⟩
theorem Mk.nil (C:Cx) (w:World):Mk C w []:=⟨.nil,fun d hd=>by cases hd⟩
theorem aQ {P:Program} [Glob P] {f:FuncId} {fn:Func} {c:Code} {args:List AV} {R:AV->Prop} (hf:P.funcs[f]?=some fn) (hc: ∀cargs w,(callFunc f cargs).run P w= .ok (.enter f cargs) w) (hb:fn.body=some c)
 (hn:args.length<=fn.ntmps) (h:bW P c (aHn P fn.results.toList R) (entry fn.ntmps args)):ACall P f args R:=by
 refine⟨hc,fun w F cargs hgl hok hl hrv=>?_⟩
 refine(callsIn_wide (n:=0)).1 (callsIn_of_wp_marks (F:=fW none) (n:=0) hf hb trivial ?_ rfl)
 let C:Cx:= {w0:=w,F0:=F,o0:= [],μ0:=fun _=>none,M:=fun _=>False,df:= []}
 haveI:GOk P C:=⟨hgl⟩
 have hM: ∀b,¬C.M b:=fun b h=>h
 have hsr:SR (C.at []) F (fun _=>none) (entry fn.ntmps args) {tmps:=cargs++Array.replicate (fn.ntmps - cargs.size) undef,defers:= []} w:=by
  refine⟨⟨hok.facts,hok.sub,fun b k v hv=> .inl hv,FLe.refl _,fun b k v hv=> .inl hv,Fr.refl _ _,fun L x hx=>?_,fun L x L' x' b c c' hx=>?_,fun L x b c hx=>?_,fun L x b c hx=>?_,fun L x x0 hx=>?_⟩,rfl,?_,fun i x hx=>?_⟩
  ·simp[entry,lk]at hx
  ·simp[entry,lk]at hx
  ·simp[entry,lk]at hx
  ·simp[entry,lk]at hx
  ·simp[C,Cx.at,lk]at hx
  ·simp[entry];omega
  ·obtain⟨_,h2⟩:=Z9 args 0 i x hx
   rw[Nat.sub_zero]at h2
   have hi:i<cargs.size:=by rw[<-hl];exact(List.getElem?_eq_some_iff.1 h2).1
   have hg:((cargs++Array.replicate (fn.ntmps - cargs.size) undef).getD i undef)=cargs[i]:=by
    rw[Array.getD_eq_getD_getElem?,Array.getElem?_append_left hi];simp[hi]
   rw[hg]
   have:=hrv i x cargs[i] h2 (by simp[hi])
   exact this.congr (FLe.refl _) fun L hL=>(this.noloc_has (fun _=>rfl) L hL).elim
 refine wpIn_mono (pT (ro:=none) c _ _ (.inl rfl) h C F _ _ w (Mk.nil _ _) hsr) ?_
 rintro e a' w' ⟨F',μ',s',hq,hm',hs'⟩
 cases e with
 |normal=>exact A7 _ a' w' hm' hs' fun w2 h2=>(aHo (C:=C.at []) (a:= {a' with defers:= []}) hM h2 hq)
 |ret=>exact A7 _ a' w' hm' hs' fun w2 h2=>(aHo (C:=C.at []) (a:= {a' with defers:= []}) hM h2 hq)
 |_=>exact hq.elim
end Go.Ab
namespace Go.Ab
open Go.RowKit
def pV (n:Nat) (as:List AV) (o:aF):ASt:= {n:=n,t:=(as.zipIdx 0).map fun p=>(p.2,p.1),o:=o}
def aHq (P:Program) [Glob P] (rs:List ResultVar) (R:AV->aF->Prop):Exit->ASt->Prop
 | .normal,s=> ∃xs,iR P s rs=some xs/\R (iS xs) s.o
 | .ret,s=> ∃xs,iR P s rs=some xs/\R (iS xs) s.o
 |_,_=>False
theorem aHr {P:Program} [Glob P] {fn:Func} {R:AV->aF->Prop} {C:Cx} {F μ} {s:ASt} {a:Act} {w:World} (h:SR C F μ s a w) (hq: ∃xs,iR P s fn.results.toList=some xs/\R (iS xs) s.o):
 ∃v,(results fn a.tmps).run P w= .ok v w/\ ∃v' r o' F' μ',Ending.returned v= .returned v'/\R r o'/\SW C F' μ' o' w/\RV F' (aE o' μ') r v':=by
 obtain⟨xs,hx,hR⟩:=hq
 obtain⟨vs,k1,k2,k3⟩:=Z8 h hx
 have hrun:(results fn a.tmps).run P w= .ok (if h:vs.toArray.size=1 then vs.toArray[0]else .tuple vs.toArray) w:=by
  have he:results fn a.tmps=(do let vs<-fn.results.mapM (A6 a.tmps);pure (if h:vs.size=1 then vs[0]else .tuple vs)):=by
   unfold results
   congr 1
  rw[he,Sem.run_bind,Array.mapM_eq_mapM_toList,Sem.run_map,k1]
  rfl
 refine⟨_,hrun,_,iS xs,s.o,F,μ,rfl,hR,h.sw,?_⟩
 by_cases h1:vs.length=1
 ·obtain⟨v,rfl⟩:=List.length_eq_one_iff.1 h1
  obtain⟨x,rfl⟩:=List.length_eq_one_iff.1 (k2.trans h1)
  exact k3 0 x v rfl rfl
 ·have hne: ¬vs.toArray.size=1:=by simpa using h1
  rw[dif_neg hne]
  have hpk:iS xs= .tup xs:=by
   cases xs with
   |nil=>rfl
   |cons z zs=>cases zs with
    |nil=>simp at k2;omega
    |cons z' zs=>rfl
  rw[hpk]
  exact .tup (by simpa using k2) fun i x v hx hv=>k3 i x v hx (by simpa using hv)
theorem aHs {P:Program} [Glob P] {f:FuncId} {fn:Func} {c:Code} {args:List AV} {o:aF} {R:AV->aF->Prop} (hf:P.funcs[f]?=some fn) (hc: ∀cargs w,(callFunc f cargs).run P w= .ok (.enter f cargs) w) (hb:fn.body=some c)
 (hn:args.length<=fn.ntmps) (h:AWp none P c (aHq P fn.results.toList R) (pV fn.ntmps args o)):MCall P f args o R:=by
 refine⟨hc,fun C F μ w cargs h0 h1 h2 h3 h4 hsw hl hrv=>?_⟩
 haveI:=h0
 refine(callsIn_wide (n:=0)).1 (callsIn_of_wp_marks (F:=fW none) (n:=0) hf hb trivial ?_ rfl)
 have hsr:SR (C.at []) F μ (pV fn.ntmps args o) {tmps:=cargs++Array.replicate (fn.ntmps - cargs.size) undef,defers:= []} w:=by
  refine⟨hsw.from,rfl,?_,fun i x hx=>?_⟩
  ·simp[pV];omega
  ·obtain⟨_,h2⟩:=Z9 args 0 i x hx
   rw[Nat.sub_zero]at h2
   have hi:i<cargs.size:=by rw[<-hl];exact(List.getElem?_eq_some_iff.1 h2).1
   have hg:((cargs++Array.replicate (fn.ntmps - cargs.size) undef).getD i undef)=cargs[i]:=by
    rw[Array.getD_eq_getD_getElem?,Array.getElem?_append_left hi];simp[hi]
   rw[hg]
   exact hrv i x cargs[i] h2 (by simp[hi])
 refine wpIn_mono (h C F μ _ w (Mk.nil _ _) hsr) ?_
 rintro e a' w' ⟨F',μ',s',hq,hm',hs'⟩
 cases e with
 |normal=>exact A7 _ a' w' hm' hs' fun w2 h2=>(by
  obtain⟨v,g1,v',r,o',F2,μ2,g2,g3,g4,g5⟩:=aHr (C:=C.at []) h2 hq
  exact⟨v,g1,v',r,o',F2,μ2,g2,g3,SW.to g4,g5⟩)
 |ret=>exact A7 _ a' w' hm' hs' fun w2 h2=>(by
  obtain⟨v,g1,v',r,o',F2,μ2,g2,g3,g4,g5⟩:=aHr (C:=C.at []) h2 hq
  exact⟨v,g1,v',r,o',F2,μ2,g2,g3,SW.to g4,g5⟩)
 |_=>exact hq.elim
end Go.Ab
