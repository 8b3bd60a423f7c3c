import Derived.Test.YtbgckcdddlmiaaaGreatDoorA3
import Derived.ProofKit
import Derived.OpenShut
import Derived.ReadAgain
import Derived.ChangeStays
import Derived.ChangeSame
import Derived.SizedLaws
import Derived.ChangeReads
set_option linter.unusedSectionVars false
set_option linter.unusedSimpArgs false
set_option linter.unusedVariables false
namespace Go.Ab
open Go.RowKit
section
variable {P : Program} [Glob P] {Q : Exit -> ASt -> Prop} {s : ASt} {k : ASt -> Prop}
theorem aMf:cE P .skip Q s=Q .normal s:=rfl
theorem aMg {id:Nat} {ops:Array Oper}:cE P (.region id ops false) Q s=mE P ops ops.toList (Q .normal) s:=by simp[cE]
def nW (P:Program) [Glob P] (v:Option AV) (x y:Code) (Q:Exit->ASt->Prop) (s:ASt):Prop:=
 match v with
 |some (.sc (.bool b))=>(b=true->cE P x Q s)/\(b=false->cE P y Q s)
 |_=>False
theorem aMh {c:Operand} {x y:Code}:cE P (.cond c x y) Q s=nW P (ev s.t c) x y Q s:=rfl
theorem aMi {id:Nat} {b:Code}:cE P (.block id b) Q s=cE P b (rH id Q) s:=rfl
theorem aMj {id:Nat}:cE P (.exit id) Q s=Q (.exit id) s:=rfl
theorem aMk:cE P .ret Q s=Q .ret s:=rfl
theorem aMl {K:ASt->Prop}:nC K Q .normal s=K s:=rfl
theorem aMm {K:ASt->Prop}:nC K Q .ret s=Q .ret s:=rfl
theorem aMn {K:ASt->Prop} {id:Nat}:nC K Q (.exit id) s=Q (.exit id) s:=rfl
theorem aMo {id:Nat}:rH id Q .normal s=Q .normal s:=rfl
theorem aMp {id:Nat}:rH id Q .ret s=Q .ret s:=rfl
theorem aMq {id id':Nat}:rH id Q (.exit id') s=if id'=id then Q .normal s else Q (.exit id') s:=rfl
theorem aMr {x y:Code}:nW P (some (.sc (.bool true))) x y Q s=cE P x Q s:=by simp[nW]
theorem aMs {x y:Code}:nW P (some (.sc (.bool false))) x y Q s=cE P y Q s:=by simp[nW]
theorem aMt {b:Bool} {x y:Code} (h1:b=true->cE P x Q s) (h2:b=false->cE P y Q s):nW P (some (.sc (.bool b))) x y Q s:=⟨h1,h2⟩
theorem aMu {p:Prop} [Decidable p] {x y:Code} (h1:p->cE P x Q s) (h2: ¬p->cE P y Q s):nW P (some (.sc (.bool (decide p)))) x y Q s:=
 ⟨fun h=>h1 (of_decide_eq_true h),fun h=>h2 (of_decide_eq_false h)⟩
theorem aMv {p:Prop} [Decidable p] {x y:Code} (h1: ¬p->cE P x Q s) (h2:p->cE P y Q s):nW P (some (.sc (.bool (!decide p)))) x y Q s:=
 ⟨fun h=>h1 (by simpa using h),fun h=>h2 (by simpa using h)⟩
def A3 (P:Program) [Glob P] (rs:List ResultVar) (fs:List Nat) (R:AV->Prop) (s:ASt):Prop:=match oS P rs fs s with
 |some r=>R r
 |none=>False
theorem aN {rs:List ResultVar} {R:AV->Prop} (fs:List Nat) (h:A3 P rs fs R s):aC3 P rs R .ret s:=by
 unfold A3 at h
 split at h
 ·rename_i r hr;exact⟨fs,r,hr,h⟩
 ·exact h.elim
theorem aMw {ops:Array Oper}:mE P ops [] k s=k s:=rfl
theorem aMx {ops:Array Oper} {o:Oper} {r:List Oper}:mE P ops (o::r) k s=gK P (fL ops o.guard s) o (mE P ops r k) s:=rfl
theorem aMy {ops:Array Oper}:fL ops none s= .run:=rfl
theorem aMz {o:Oper}:gK P .skip o k s=rC o.dst k s:=rfl
theorem aM0 {o:Oper}:eR P .skip o k s=rD o.dst k s:=rfl
theorem aM1 {d:Nat}:zV (some d) k s=(d<s.n/\k (s.put d .dead)):=rfl
theorem aM2 {o:Oper}:gK P .run o k s=bO P o k s:=rfl
theorem aM3 {o:Oper}:gK P (.test true true) o k s=bO P o k s:=by simp[gK]
theorem aM4 {o:Oper}:gK P (.test false false) o k s=bO P o k s:=by simp[gK]
theorem aM5 {o:Oper}:gK P (.test true false) o k s=rC o.dst k s:=by simp[gK]
theorem aM6 {o:Oper}:gK P (.test false true) o k s=rC o.dst k s:=by simp[gK]
theorem N3 {b want:Bool} {o:Oper} (h1:b=true->gK P (.test true want) o k s) (h2:b=false->gK P (.test false want) o k s):gK P (.test b want) o k s:=by
 cases b
 ·exact h2 rfl
 ·exact h1 rfl
theorem aM7 {p:Prop} [Decidable p] {want:Bool} {o:Oper} (h1:p->gK P (.test true want) o k s) (h2: ¬p->gK P (.test false want) o k s):gK P (.test (decide p) want) o k s:=
 N3 (fun h=>h1 (of_decide_eq_true h)) (fun h=>h2 (of_decide_eq_false h))
theorem aM8 {p:Prop} [Decidable p] {want:Bool} {o:Oper} (h1: ¬p->gK P (.test true want) o k s) (h2:p->gK P (.test false want) o k s):gK P (.test (!decide p) want) o k s:=
 N3 (fun h=>h1 (by simpa using h)) (fun h=>h2 (by simpa using h))
theorem aM9 {d:Nat}:rC (some d) k s=(d<s.n/\k (s.put d (.tup []))):=rfl
theorem aNa {n:Bool} {a:AV} {d:Nat}:cC P (.v ⟨n,a⟩) (some d) k s=(n/\d<s.n/\k (s.put d a)):=rfl
theorem aNb {n:Bool} {s':ASt} {d:Option Nat}:cC P (.h ⟨n,s'⟩) d k s=(n/\k s'):=by cases d<;>rfl
theorem aNc {d:Option Nat}:cC P .no d k s=False:=by cases d<;>rfl
theorem aNd {g:FuncId} {as bs:List AV} {d:Nat} {R:AV->Prop} (fs:List Nat) (s1:ASt) (hf:kJ fs s=some s1) (hl:iS s1.o as=some bs) (hc:ACall P g bs R) (hd:d<s.n) (hk: ∀r,R r->k (mT s1 d r)):
 cC P (.c g as) (some d) k s:=⟨hd,.inl ⟨fs,s1,bs,R,hf,hl,hc,hk⟩⟩
theorem aC8 {g:FuncId} {as:List AV} {d:Nat} (σ τ:Nat->Nat) (B:Nat) (oc:aF) (ac:List AV) {R:AV->aF->Prop} (hf:Fits σ τ B oc s.o) (hac:AV.labsL (dL oc) ac=true) (has:as=ac.map (AV.ren σ)) (hc:MCall P g ac oc R) (hd:d<s.n)
 (hk: ∀r o',R r o'->oO σ τ oc o' s.o=true/\k (nA σ τ B oc s d r o')):cC P (.c g as) (some d) k s:=⟨hd,.inr (.inr (.inr ⟨[],σ,τ,B,oc,ac,R,hf,hac,has,hc,hk⟩))⟩
theorem aO {g:FuncId} {as bs:List AV} {d:Nat} {r:AV} (hl:iS s.o as=some bs) (hc:ACall P g bs (fun x=>x=r)) (hd:d<s.n) (hk:k (mT s d r)):
 cC P (.c g as) (some d) k s:=aNd [] s rfl hl hc hd fun _ h=>h▸hk
theorem aC9 {id:Nat} {ops:Array Oper} (m:Nat) (hm:P.follows .mixedOrders=true) (hok:kM ops m=true) (h:kK P ops m ops.toList (Q .normal) s):cE P (.region id ops true) Q s:=⟨s,Le.refl s,hm,.inl ⟨m,hok,h⟩⟩
theorem rI {id:Nat} {ops:Array Oper} {s0:ASt} (hl:Le s0 s) (h:cE P (.region id ops true) Q s0):cE P (.region id ops true) Q s:=by
 obtain⟨s1,h1,h2⟩:=h
 exact⟨s1,h1.trans hl,h2⟩
theorem aNe {ops:Array Oper} {l:List Oper}:kK P ops 0 l k s=nU P ((ops.toList.take (ops.size - l.length)).filter eV) (mE P ops l k) s:=rfl
theorem aNf:nU P [] k s=k s:=rfl
theorem aNg {d:Option Nat} {op:Op} {ty:TypeId} {pos af g}:eV ⟨d,op,ty,pos,af,g⟩=match op,d,g with
 | .alloc _,some _,none=>true
 |_,_,_=>false:=rfl
theorem aNh {t:TypeId} {d:Nat} {ty:TypeId} {pos af g} {r:List Oper}:nU P (⟨some d,.alloc t,ty,pos,af,g⟩::r) k s=match aK P t with
 |some z=>z.plain=true/\d<s.n/\nU P r k ((s.adopt d (gU z)).put d (.ptr d 0 0))
 |none=>False:=rfl
theorem aNi {ops:Array Oper} {m:Nat} {o:Oper} {r:List Oper}:kK P ops (m+1) (o::r) k s=eR P (fL ops o.guard s) o (kK P ops m r k) s:=rfl
theorem aNj {o:Oper}:eR P .run o k s=rE P o k s:=rfl
theorem aNk {o:Oper}:eR P (.test true true) o k s=rE P o k s:=by simp[eR]
theorem aNl {o:Oper}:eR P (.test false false) o k s=rE P o k s:=by simp[eR]
theorem aNm {o:Oper}:eR P (.test true false) o k s=rD o.dst k s:=by simp[eR]
theorem aNn {o:Oper}:eR P (.test false true) o k s=rD o.dst k s:=by simp[eR]
theorem aDa {b want:Bool} {o:Oper} (h1:b=true->eR P (.test true want) o k s) (h2:b=false->eR P (.test false want) o k s):eR P (.test b want) o k s:=by
 cases b
 ·exact h2 rfl
 ·exact h1 rfl
theorem aNo {p:Prop} [Decidable p] {want:Bool} {o:Oper} (h1:p->eR P (.test true want) o k s) (h2: ¬p->eR P (.test false want) o k s):eR P (.test (decide p) want) o k s:=
 aDa (fun h=>h1 (of_decide_eq_true h)) (fun h=>h2 (of_decide_eq_false h))
theorem aNp {p:Prop} [Decidable p] {want:Bool} {o:Oper} (h1: ¬p->eR P (.test true want) o k s) (h2:p->eR P (.test false want) o k s):eR P (.test (!decide p) want) o k s:=
 aDa (fun h=>h1 (by simpa using h)) (fun h=>h2 (by simpa using h))
theorem aNq {d:Nat}:rD (some d) k s=(d<s.n/\k (s.put d (.tup []))):=rfl
theorem aNr {o:Oper}:rE P o k s=match eV o with
 |true=>zV o.dst k s
 |false=>uD P (aX P o s) o.dst k s:=rfl
theorem aNs {n:Bool} {a:AV} {d:Nat}:uD P (.v ⟨n,a⟩) (some d) k s=(n/\d<s.n/\k (s.put d a)):=rfl
theorem aNt {d:Option Nat}:uD P .no d k s=False:=by cases d<;>rfl
theorem bR {g:FuncId} {as bs:List AV} {d:Nat} {r:AV} (hl:iS s.o as=some bs) (hc:ACall P g bs (fun x=>x=r)) (hf:wV r=true) (hd:d<s.n) (hk:k (s.put d r)):
 uD P (.c g as) (some d) k s:=⟨hd,bs,r,hl,hc,hf,hk⟩
theorem aNu {n:Nat} {t:List (Nat×AV)} {o:aF} {d:Nat} {a:AV}:ASt.put ⟨n,t,o⟩ d a=⟨n,(d,a)::t,o⟩:=rfl
theorem aNv {n:Nat} {t:List (Nat×AV)} {o:aF} {d:Nat} {x:AObj} {r:AV}:ASt.fresh ⟨n,t,o⟩ d x r=⟨n,(d,r)::fI d t,(d,x)::killO d o⟩:=rfl
theorem aNw {n:Nat} {t:List (Nat×AV)} {o:aF} {L T d:Nat} {x:AObj} {r:AV}:ASt.renew ⟨n,t,o⟩ L T d x r=⟨n,(d,r)::fI L (fI T t),(T,x)::killO L (killO T (eJ o L))⟩:=rfl
theorem aNx {n:Nat} {t:List (Nat×AV)} {o:aF} {T:Nat} {x:AObj}:ASt.adopt ⟨n,t,o⟩ T x=⟨n,fI T (fI T t),(T,x)::killO T (killO T (eJ o T))⟩:=rfl
theorem aNy {α:Type} {i:Nat}:lk ([]:List (Nat×α)) i=none:=rfl
theorem aNz {α:Type} {k i:Nat} {a:α} {r:List (Nat×α)}:lk ((k,a)::r) i=if k=i then some a else lk r i:=rfl
theorem aN0 {L:Nat}:fI L []= []:=rfl
theorem aN1 {L i:Nat} {a:AV} {r:List (Nat×AV)}:fI L ((i,a)::r)=(i,kill1 L a)::fI L r:=rfl
theorem aN2 {L:Nat}:killO L []= []:=rfl
theorem aN3 {L i:Nat} {x:AObj} {r:aF}:killO L ((i,x)::r)=(i,cU L x)::killO L r:=rfl
theorem aN4 {kd:Nat} {L es:Nat} {fz pin:Bool} {xs:List AV}:cU L ⟨true,fz,pin,es,xs,kd⟩=⟨true,fz,pin,es,xs,kd⟩:=rfl
theorem aN5 {kd:Nat} {L es:Nat} {fz pin:Bool} {xs:List AV}:cU L ⟨false,fz,pin,es,xs,kd⟩=⟨false,fz,pin,es,xs.map (kill1 L),kd⟩:=rfl
theorem aN6 {L:Nat}:eJ [] L= []:=rfl
theorem aN7 {L i:Nat} {x:AObj} {r:aF}:eJ ((i,x)::r) L=if i=L then eJ r L else(i,x)::eJ r L:=by
 simp only[eJ,List.filter_cons]
 by_cases h:i=L<;>simp[h]
theorem aDb {L:Nat} {v:Value}:kl L (.sc v)= .sc v:=by simp[kl,kt,AV.has]
theorem aDc {L:Nat} {l f:Bool} {xs:List AV}:kl L (.list l f xs)= .list l f xs:=by simp[kl,kt,AV.has]
theorem aDd {L i o:Nat} {l:Bool} {xs:List AV}:kl L (.iptr l xs i o)= .iptr l xs i o:=by simp[kl,kt,AV.has]
theorem aDe {L L' a b:Nat}:kl L (.ref L' a b)=if L=L' then .dead else .ref L' a b:=by simp[kl,kt,AV.has]
theorem aDf {L L' a b:Nat}:kl L (.ptr L' a b)=if L=L' then .dead else .ptr L' a b:=by simp[kl,kt,AV.has]
theorem aDg {L L' a b c d:Nat}:kl L (.aref L' a b c d)=if L=L' then .dead else .aref L' a b c d:=by simp[kl,kt,AV.has]
theorem aDh {L L':Nat}:kl L (.mp L')=if L=L' then .dead else .mp L':=by simp[kl,kt,AV.has]
theorem aN8 {L L':Nat}:kill1 L (.mp L')=if L=L' then .dead else .mp L':=aDh
theorem aDi {L:Nat}:kl L .dead= .dead:=by simp[kl,kt,AV.has]
theorem aDj {L:Nat} {g:FuncId} {cs:List AV}:kl L (.clo g cs)=if AV.hasL L cs=true then .dead else .clo g cs:=rfl
theorem aDk {L:Nat} {cs:List AV}:kl L (.tup cs)= .tup (cs.map (kt L)):=rfl
theorem aN9 {L:Nat} {a:AV}:kt L a=if a.has L=true then .dead else a:=rfl
theorem aDl {L:Nat} {v:Value}:kill1 L (.sc v)= .sc v:=aDb
theorem aDm {L:Nat} {l f:Bool} {xs:List AV}:kill1 L (.list l f xs)= .list l f xs:=aDc
theorem aOa {L i o:Nat} {l:Bool} {xs:List AV}:kill1 L (.iptr l xs i o)= .iptr l xs i o:=aDd
theorem aDn {L L' a b:Nat}:kill1 L (.ref L' a b)=if L=L' then .dead else .ref L' a b:=aDe
theorem aDo {L L' a b:Nat}:kill1 L (.ptr L' a b)=if L=L' then .dead else .ptr L' a b:=aDf
theorem aOb {L L' a b c d:Nat}:kill1 L (.aref L' a b c d)=if L=L' then .dead else .aref L' a b c d:=aDg
theorem aDp {L:Nat}:kill1 L .dead= .dead:=aDi
theorem aOc {L:Nat} {g:FuncId} {cs:List AV}:kill1 L (.clo g cs)=if AV.hasL L cs=true then .dead else .clo g cs:=aDj
theorem aOd {L:Nat} {cs:List AV}:kill1 L (.tup cs)= .tup (cs.map (kt L)):=aDk
theorem aOe {L:Nat} {cs:List AV}:kill1 L (.agg cs)= .agg (cs.map (kl L)):=rfl
theorem aOf {t:List (Nat×AV)} {i:Nat}:ev t (.tmp i)=lk t i:=rfl
theorem aOg {t:List (Nat×AV)} {v:Value}:ev t (.const v)=iG v:=rfl
theorem aOh {t:List (Nat×AV)} {f:FuncId}:ev t (.func f)=some (.clo f []):=rfl
theorem aOi {P:Program} [Glob P] {t:List (Nat×AV)} {i:Nat}:cF P t (.tmp i)=lk t i:=rfl
theorem aOj {P:Program} [Glob P] {t:List (Nat×AV)} {v:Value}:cF P t (.const v)=iG v:=rfl
theorem aOk {P:Program} [Glob P] {t:List (Nat×AV)} {f:FuncId}:cF P t (.func f)=some (.clo f []):=rfl
theorem aOl {P:Program} [Glob P] {t:List (Nat×AV)} {g:Nat}:cF P t (.global g)=Glob.tab P g:=rfl
theorem aOm {k:IntKind} {n:Int}:iG (.int k n)=some (nt k n):=rfl
theorem aOn {b:Bool}:iG (.bool b)=some (bl b):=rfl
theorem aOo {b:ByteArray}:iG (.string b)=some (.sc (.string b)):=rfl
theorem aOp:iG (.slice none 0 0)=some (.list false true []):=rfl
theorem aOq:iG (.pointer none)=some (.sc (.pointer none)):=rfl
theorem aOr:iG (.map none)=some (.sc (.map none)):=rfl
theorem aOs:iG .nilFunc=some (.sc .nilFunc):=rfl
theorem aOt:iG .nilIface=some (.sc .nilIface):=rfl
theorem aOu {k:IntKind} {n:Int}:nt k n= .sc (.int k n):=rfl
theorem aOv {b:Bool}:bl b= .sc (.bool b):=rfl
theorem aOw {r:Sv}:dG (some r)= .v r:=rfl
theorem aOx:dG none= .no:=rfl
theorem aOy {r:St}:gX (some r)= .h r:=rfl
theorem aOz:gX none= .no:=rfl
section ops
variable {d : Nat} {ty : TypeId} {pos : String} {af : Array Edge} {g : Option (Nat × Bool)}
theorem aO0 {x:Operand}:aX P ⟨some d,.move x,ty,pos,af,g⟩ s=dG ((cF P s.t x).map fun a=>⟨true,a⟩):=rfl
theorem aO1 {x:Operand}:aX P ⟨some d,.assign x,ty,pos,af,g⟩ s=dG ((cF P s.t x).map fun a=>⟨true,a⟩):=rfl
theorem aO2 {c a b:Operand}:aX P ⟨some d,.pick c a b,ty,pos,af,g⟩ s=dG (match cF P s.t c with
 |some (.sc (.bool c))=>(if c=true then cF P s.t a else cF P s.t b).map fun a=>⟨true,a⟩
 |_=>none):=rfl
theorem aO3 {t:TypeId} {a:Operand}:aX P ⟨some d,.load t a,ty,pos,af,g⟩ s=dG (match cF P s.t a with
 |some p=>lV P t p s.o
 |none=>none):=rfl
theorem aO4 {op:BinOp} {t yt:TypeId} {x y:Operand}:aX P ⟨some d,.binOp op t x y yt,ty,pos,af,g⟩ s=dG (match cF P s.t x,cF P s.t y with
 |some a,some b=>match lU P op t a b with
  |some r=>some r
  |none=>match iO P op t a y with
   |some r=>some r
   |none=>match cG P op t a b with
    |some r=>some r
    |none=>eQ P ⟨some d,.binOp op t x y yt,ty,pos,af,g⟩ (cF P s.t)
 |_,_=>none):=rfl
theorem aO5 {op:BinOp} {t:TypeId} {a:AV} {i:Nat}:iO P op t a (.tmp i)=none:=by simp[iO,lX]
theorem aO6 {op:BinOp} {t:TypeId} {a:AV} {k:IntKind} {n:Int}:iO P op t a (.const (.int k n))=none:=by simp[iO,lX]
theorem aO7 {op:BinOp} {t:TypeId} {a:AV} {b:Bool}:iO P op t a (.const (.bool b))=none:=by simp[iO,lX]
theorem aO8 {op:BinOp} {t:TypeId} {a:AV} {b:ByteArray}:iO P op t a (.const (.string b))=none:=by simp[iO,lX]
theorem aO9 {op:BinOp} {t:TypeId} {a:AV} {b:Array Value}:iO P op t a (.const (.agg b))=none:=by simp[iO,lX]
attribute [go_sem] aO5 aO6 aO7 aO8 aO9
theorem aPa {op:UnOp} {t:TypeId} {x:Operand}:aX P ⟨some d,.unOp op t x,ty,pos,af,g⟩ s=dG (match cF P s.t x with
 |some a=>vO op a
 |none=>none):=rfl
theorem aPb {t u:TypeId} {x:Operand}:aX P ⟨some d,.convert t u x,ty,pos,af,g⟩ s=dG (match cF P s.t x with
 |some a=>if(P.underlying t).isSome=true then match qU P u a with
  |some r=>some r
  |none=>eQ P ⟨some d,.convert t u x,ty,pos,af,g⟩ (cF P s.t)else none
 |none=>none):=rfl
theorem aPc {t:TypeId} {x:Operand} {f:Nat}:aX P ⟨some d,.fieldAddr t x f,ty,pos,af,g⟩ s=dG (match cF P s.t x with
 |some p=>rX P t f p
 |none=>none):=rfl
theorem aPd {t:TypeId} {x:Operand} {f:Nat}:aX P ⟨some d,.field t x f,ty,pos,af,g⟩ s=dG (match cF P s.t x with
 |some p=>vM P t p f
 |none=>none):=rfl
theorem aPe {t:TypeId} {x i:Operand}:aX P ⟨some d,.indexAddr t x i,ty,pos,af,g⟩ s=dG (match cF P s.t x,cF P s.t i with
 |some a,some b=>nO P t a b s.o
 |_,_=>none):=rfl
theorem aPf {t:TypeId} {x i:Operand}:aX P ⟨some d,.index t x i,ty,pos,af,g⟩ s=dG (match cF P s.t x,cF P s.t i with
 |some a,some b=>tO P t a b
 |_,_=>none):=rfl
theorem aPg {t:TypeId} {x:Operand} {lo hi:Option Operand}:aX P ⟨some d,.slice t x lo hi none,ty,pos,af,g⟩ s=dG (match cF P s.t x,lo.map (cF P s.t),hi.map (cF P s.t)with
 |some _,some none,_=>none
 |some _,_,some none=>none
 |some a,l,h=>gT P t a (l.bind id) (h.bind id) s.o
 |none,_,_=>none):=rfl
theorem aPh {x:Operand} {i:Nat}:aX P ⟨some d,.extract x i,ty,pos,af,g⟩ s=dG (match cF P s.t x with
 |some (.tup vs)=>(vs[i]?).map fun a=>⟨true,a⟩
 |_=>none):=rfl
theorem aPi {t:TypeId} {parts:Array (Nat×Operand)}:aX P ⟨some d,.build t parts,ty,pos,af,g⟩ s=dG (vN P t (mS (cF P s.t) parts.toList)):=rfl
theorem aPj {f:FuncId} {first caps:Array Operand}:aX P ⟨some d,.makeFunc (.func f) first caps,ty,pos,af,g⟩ s=dG (if first.size=0 then(lW (cF P s.t) caps.toList).map fun cs=>⟨true,.clo f cs⟩else none):=rfl
theorem aPk {x:Operand}:aX P ⟨some d,.nilCheck x,ty,pos,af,g⟩ s=dG (match cF P s.t x with
 |some (.ptr L i o)=>some ⟨true,.ptr L i o⟩
 |some (.iptr l xs i o)=>some ⟨true,.iptr l xs i o⟩
 |_=>none):=rfl
theorem aPl {xs:Array Operand} {ts:Array TypeId}:aX P ⟨some d,.call ⟨.builtin .len,xs,ts⟩,ty,pos,af,g⟩ s=dG (match xs.toList,ts.toList with
 | [x],[t]=>match cF P s.t x with
  |some a=>mR P t a
  |none=>none
 |_,_=>none):=rfl
theorem aPm {xs:Array Operand} {ts:Array TypeId}:aX P ⟨some d,.call ⟨.builtin .cap,xs,ts⟩,ty,pos,af,g⟩ s=dG (match xs.toList,ts.toList with
 | [x],[t]=>match cF P s.t x with
  |some a=>vL P t a
  |none=>none
 |_,_=>none):=rfl
theorem aPn {xs:Array Operand} {ts:Array TypeId}:aX P ⟨some d,.call ⟨.builtin .min,xs,ts⟩,ty,pos,af,g⟩ s=dG (eQ P ⟨some d,.call ⟨.builtin .min,xs,ts⟩,ty,pos,af,g⟩ (cF P s.t)):=rfl
theorem aPo {xs:Array Operand} {ts:Array TypeId}:aX P ⟨some d,.call ⟨.builtin .max,xs,ts⟩,ty,pos,af,g⟩ s=dG (eQ P ⟨some d,.call ⟨.builtin .max,xs,ts⟩,ty,pos,af,g⟩ (cF P s.t)):=rfl
theorem aPp {t:TypeId}:aX P ⟨some d,.alloc t,ty,pos,af,g⟩ s=gX (vT P t d s):=rfl
theorem aPq {t:TypeId} {x:Operand}:aX P ⟨some d,.box t x,ty,pos,af,g⟩ s=(match ev s.t x with
 |some a=>gX (vU a d s)
 |none=> .no):=rfl
theorem aPr {t:TypeId} {p x:Operand}:aX P ⟨none,.store t p x,ty,pos,af,g⟩ s=(match ev s.t p,ev s.t x with
 |some a,some b=>gX (tV P t a b s)
 |_,_=> .no):=rfl
theorem aPs {t:TypeId} {len:Nat} {parts:Array (Nat×Operand)}:aX P ⟨some d,.buildSlice t len parts,ty,pos,af,g⟩ s=gX (vY P t len (mS (ev s.t) parts.toList) d s):=rfl
theorem aPt {xs:Array Operand} {ts:Array TypeId}:aX P ⟨some d,.call ⟨.builtin .append,xs,ts⟩,ty,pos,af,g⟩ s=(match xs.toList,ts.toList with
 | [x,y],[st,xt]=>match ev s.t x,ev s.t y with
  |some a,some b=>gX (oI P st xt a b d s)
  |_,_=> .no
 |_,_=> .no):=rfl
theorem aPu {f:Operand} {xs:Array Operand} {ts:Array TypeId}:aX P ⟨some d,.call ⟨.value f,xs,ts⟩,ty,pos,af,g⟩ s=(match ev s.t f,lW (ev s.t) xs.toList with
 |some (.clo g caps),some as=> .c g (as++caps)
 |some (.yl L),some as=> .y (.yl L::as)
 |_,_=> .no):=rfl
end ops
theorem aPv {n:Int} (h1: -9223372036854775808<=n) (h2:n<=9223372036854775807):IntKind.i64.wrap n=n:=IntWalk.i64_in n ⟨h1,h2⟩
theorem aPw {n:Int} (h1:0<=n) (h2:n<=18446744073709551615):IntKind.u64.wrap n=n:=IntWalk.u64_in n ⟨h1,h2⟩
theorem aPx {n:Int} (h1:0<=n) (h2:n<=255):IntKind.u8.wrap n=n:=IntWalk.u8_in n ⟨h1,h2⟩
theorem aPy {n:Int} (h1: -2147483648<=n) (h2:n<=2147483647):IntKind.i32.wrap n=n:=IntWalk.i32_in n ⟨h1,h2⟩
theorem aPz {n:Int} (h1:0<=n) (h2:n<=4294967295):IntKind.u32.wrap n=n:=IntWalk.u32_in n ⟨h1,h2⟩
theorem aP0 {a b:Int} (h:0<=a):a.tdiv b=a / b:=Int.tdiv_eq_ediv_of_nonneg h
theorem aP1 {a b:Int} (h:0<=a):a.tmod b=a % b:=Int.tmod_eq_emod_of_nonneg h
theorem aP2 {ρ:Operand->Option AV}:lW ρ []=some []:=rfl
theorem aP3 {ρ:Operand->Option AV} {x:Operand} {r:List Operand}:lW ρ (x::r)=(match ρ x with
 |some a=>match lW ρ r with
  |some as=>some (a::as)
  |none=>none
 |none=>none):=by
 simp only[lW,List.mapM_cons]
 cases ρ x with
 |none=>rfl
 |some a=>
  simp
  cases List.mapM ρ r<;>rfl
theorem aP4 {ρ:Operand->Option AV}:mS ρ []=some []:=rfl
theorem aP5 {ρ:Operand->Option AV} {i:Nat} {x:Operand} {r:List (Nat×Operand)}:mS ρ ((i,x)::r)=(match ρ x with
 |some a=>match mS ρ r with
  |some as=>some ((i,a)::as)
  |none=>none
 |none=>none):=by
 simp only[mS,List.mapM_cons]
 cases ρ x with
 |none=>rfl
 |some a=>
  simp
  cases List.mapM (fun p:Nat×Operand=>Option.map (fun a=>(p.1,a)) (ρ p.2)) r<;>rfl
theorem aP6 {cs:List AV}:(AV.agg cs).cells=cs:=rfl
theorem aP7 {v:Value}:(AV.sc v).cells= [.sc v]:=rfl
theorem aP8 {l f:Bool} {xs:List AV}:(AV.list l f xs).cells= [.list l f xs]:=rfl
theorem aP9 {l:Bool} {xs:List AV} {i o:Nat}:(AV.iptr l xs i o).cells= [.iptr l xs i o]:=rfl
theorem aQa {a b c:Nat}:(AV.ref a b c).cells= [.ref a b c]:=rfl
theorem aQb {a b c:Nat}:(AV.ptr a b c).cells= [.ptr a b c]:=rfl
theorem aQc {g:FuncId} {cs:List AV}:(AV.clo g cs).cells= [.clo g cs]:=rfl
theorem aQd {cs:List AV}:(AV.agg cs).isAgg=true:=rfl
theorem aQe {v:Value}:(AV.sc v).isAgg=false:=rfl
theorem aQf {l f:Bool} {xs:List AV}:(AV.list l f xs).isAgg=false:=rfl
theorem aQg {l:Bool} {xs:List AV} {i o:Nat}:(AV.iptr l xs i o).isAgg=false:=rfl
theorem aQh {a b c:Nat}:(AV.ref a b c).isAgg=false:=rfl
theorem aQi {a b c:Nat}:(AV.ptr a b c).isAgg=false:=rfl
theorem aQj {g:FuncId} {cs:List AV}:(AV.clo g cs).isAgg=false:=rfl
theorem aQk {cs:List AV}:(AV.agg cs).plain=true:=rfl
theorem aQl {v:Value}:(AV.sc v).plain=true:=rfl
theorem aQm {l f:Bool} {xs:List AV}:(AV.list l f xs).plain=true:=rfl
theorem aQn {l:Bool} {xs:List AV} {i o:Nat}:(AV.iptr l xs i o).plain=true:=rfl
theorem aQo {a b c:Nat}:(AV.ref a b c).plain=true:=rfl
theorem aQp {a b c:Nat}:(AV.ptr a b c).plain=true:=rfl
theorem aQq {g:FuncId} {cs:List AV}:(AV.clo g cs).plain=true:=rfl
theorem aQr {cs:List AV}:(AV.agg cs).pure=AV.pureL cs:=by simp[AV.pure]
theorem aQs {v:Value}:(AV.sc v).pure=true:=by simp[AV.pure]
theorem aQt {l f:Bool} {xs:List AV}:(AV.list l f xs).pure= !l:=by simp[AV.pure]
theorem aQu {l:Bool} {xs:List AV} {i o:Nat}:(AV.iptr l xs i o).pure= !l:=by simp[AV.pure]
theorem aQv {a b c:Nat}:(AV.ref a b c).pure=false:=by simp[AV.pure]
theorem aQw {a b c:Nat}:(AV.ptr a b c).pure=false:=by simp[AV.pure]
theorem aQx:AV.dead.pure=false:=by simp[AV.pure]
theorem aQy {g:FuncId} {cs:List AV}:(AV.clo g cs).pure=AV.pureL cs:=by simp[AV.pure]
theorem aQz:AV.pureL []=true:=rfl
theorem aQ0 {a:AV} {r:List AV}:AV.pureL (a::r)=(a.pure&&AV.pureL r):=by simp[AV.pureL]
theorem aQ1 {L:Nat} {cs:List AV}:(AV.agg cs).has L=AV.hasL L cs:=by simp[AV.has]
theorem aQ2 {L:Nat} {v:Value}:(AV.sc v).has L=false:=rfl
theorem aQ3 {L:Nat} {l f:Bool} {xs:List AV}:(AV.list l f xs).has L=false:=rfl
theorem aQ4 {L:Nat} {l:Bool} {xs:List AV} {i o:Nat}:(AV.iptr l xs i o).has L=false:=rfl
theorem aQ5 {L a b c:Nat}:(AV.ref a b c).has L=(L==a):=rfl
theorem aQ6 {L a b c:Nat}:(AV.ptr a b c).has L=(L==a):=rfl
theorem aQ7 {L a b c d e:Nat}:(AV.aref a b c d e).has L=(L==a):=rfl
theorem aQ8 {L:Nat} {g:FuncId} {cs:List AV}:(AV.clo g cs).has L=AV.hasL L cs:=rfl
theorem aQ9 {L:Nat}:AV.dead.has L=false:=rfl
theorem aRa {L:Nat}:AV.hasL L []=false:=rfl
theorem aRb {L:Nat} {a:AV} {r:List AV}:AV.hasL L (a::r)=(a.has L||AV.hasL L r):=rfl
theorem aRc {op:BinOp} {t:TypeId} {k k':IntKind} {u v:Int}:lU P op t (.sc (.int k u)) (.sc (.int k' v))=if k=k' then oG op k u v else if op= .shr then oG .shr k u v else none:=rfl
theorem aRd {op:BinOp} {t:TypeId} {u v:ByteArray}:lU P op t (.sc (.string u)) (.sc (.string v))=rW op u v:=rfl
theorem aRe {t:TypeId} {u v:Bool}:lU P .eql t (.sc (.bool u)) (.sc (.bool v))=if tN P t=true then some ⟨true,bl (u==v)⟩else none:=rfl
theorem aRf {t:TypeId} {u v:Bool}:lU P .neq t (.sc (.bool u)) (.sc (.bool v))=if tN P t=true then some ⟨true,bl (!(u==v))⟩else none:=rfl
theorem aRg {op:BinOp} {t:TypeId} {a:AV} {cs:List AV}:lU P op t a (.agg cs)=none:=by
 cases a<;>first|rfl|(rename_i v;cases v<;>rfl)
def N4 (d:Option (Bool×Nat)) (e:Option (AV×Nat)):Option Sv:=
 match d,e with
 |some (ag,size),some (y,o)=>(jC y ag size o).map fun a=>⟨true,a⟩
 |_,_=>none
theorem aRh {t:TypeId} {p:AV} {ob:aF}:lV P t p ob=N4 (aJ P t) (kE ob p):=by
 unfold lV N4
 cases aJ P t with
 |none=>rfl
 |some q=>obtain⟨a,b⟩:=q;cases kE ob p<;>rfl
theorem aRi {ag:Bool} {size o:Nat} {y:AV}:N4 (some (ag,size)) (some (y,o))=(jC y ag size o).map fun a=>⟨true,a⟩:=rfl
theorem aRj {y:AV} {size o:Nat}:jC y true size o=if o+size<=y.cells.length then some (if o=0/\size=y.cells.length/\y.isAgg=true then y else .agg ((y.cells.drop o).take size))else none:=rfl
theorem aRk {y:AV} {size o:Nat}:jC y false size o=y.cells[o]?:=rfl
def N5 (x:Option AObj) (i o:Nat):Option (AV×Nat):=
 match x with
 |some x=>(x.xs[i]?).map fun y=>(y,o)
 |none=>none
theorem aRl {ob:aF} {L i o:Nat}:kE ob (.ptr L i o)=N5 (lk ob L) i o:=by simp only[kE,N5];cases lk ob L<;>rfl
theorem aRm {x:AObj} {i o:Nat}:N5 (some x) i o=(x.xs[i]?).map fun y=>(y,o):=rfl
theorem aRn {ob:aF} {l:Bool} {xs:List AV} {i o:Nat}:kE ob (.iptr l xs i o)=(xs[i]?).map fun y=>(y,o):=rfl
def N6 (d:Option (Nat×TypeId×Nat)) (p:AV):Option Sv:=
 match d with
 |some (off,_,n)=>match p with
  | .iptr l xs i o=>some ⟨decide (n≠0),.iptr l xs i (o+off)⟩
  | .ptr L i o=>some ⟨decide (n≠0),.ptr L i (o+off)⟩
  |_=>none
 |none=>none
theorem aRo {t:TypeId} {f:Nat} {p:AV}:rX P t f p=N6 (bW P t f) p:=rfl
theorem aRp {off n:Nat} {ft:TypeId} {l:Bool} {xs:List AV} {i o:Nat}:N6 (some (off,ft,n)) (.iptr l xs i o)=some ⟨decide (n≠0),.iptr l xs i (o+off)⟩:=rfl
theorem aRq {off n:Nat} {ft:TypeId} {L i o:Nat}:N6 (some (off,ft,n)) (.ptr L i o)=some ⟨decide (n≠0),.ptr L i (o+off)⟩:=rfl
theorem aRr {t:TypeId} {s:ByteArray}:mR P t (.sc (.string s))=if kZ P t=true then some ⟨true,nt .i64 s.size⟩else none:=rfl
def sK (d:Option (TypeId×Nat×Nat)) (n:Nat):Option Sv:=match d with
 |some _=>some ⟨true,nt .i64 n⟩
 |none=>none
theorem aRs {q:TypeId×Nat×Nat} {n:Nat}:sK (some q) n=some ⟨true,nt .i64 n⟩:=rfl
theorem aRt {t:TypeId} {l f:Bool} {xs:List AV}:mR P t (.list l f xs)=sK (bM P t) xs.length:=rfl
theorem aRu {t:TypeId} {L lo n:Nat}:mR P t (.ref L lo n)=sK (bM P t) n:=rfl
theorem aRv {t:TypeId} {L i o es n:Nat}:mR P t (.aref L i o es n)=sK (bM P t) n:=rfl
def aDq (d:Option (TypeId×Nat×Nat)) (l:Bool) (xs:List AV) (i:Int):Option Sv:=match d with
 |some (_,es,_)=>some ⟨decide (0<=i/\i<xs.length/\ ∀y,xs[i.toNat]?=some y->y.cells.length=es),.iptr l xs i.toNat 0⟩
 |none=>none
theorem aRw {t:TypeId} {l f:Bool} {xs:List AV} {k:IntKind} {i:Int} {ob:aF}:nO P t (.list l f xs) (.sc (.int k i)) ob=aDq (bM P t) l xs i:=rfl
theorem aRx {e:TypeId} {es b:Nat} {l:Bool} {xs:List AV} {i:Int}:aDq (some (e,es,b)) l xs i=some ⟨decide (0<=i/\i<xs.length/\ ∀y,xs[i.toNat]?=some y->y.cells.length=es),.iptr l xs i.toNat 0⟩:=rfl
def N7 (d:Option (TypeId×Nat×Nat)) (x:Option AObj) (L lo n:Nat) (i:Int):Option Sv:=match d,x with
 |some (_,es,_),some x=>some ⟨decide (x.es=es/\0<=i/\i<n),.ptr L (lo+i.toNat) 0⟩
 |_,_=>none
theorem aRy {t:TypeId} {L lo n:Nat} {k:IntKind} {i:Int} {ob:aF}:nO P t (.ref L lo n) (.sc (.int k i)) ob=N7 (bM P t) (lk ob L) L lo n i:=by
 simp only[nO,N7]
 cases bM P t<;>cases lk ob L<;>rfl
theorem aRz {e:TypeId} {es b:Nat} {x:AObj} {L lo n:Nat} {i:Int}:N7 (some (e,es,b)) (some x) L lo n i=some ⟨decide (x.es=es/\0<=i/\i<n),.ptr L (lo+i.toNat) 0⟩:=rfl
def aDr (d:Option (TypeId×Nat×Nat)) (L k o es' n:Nat) (i:Int):Option Sv:=match d with
 |some (_,es,_)=>some ⟨decide (es'=es/\0<=i/\i<n),.ptr L k (o+i.toNat*es)⟩
 |none=>none
theorem aR0 {t:TypeId} {L k o es n:Nat} {kk:IntKind} {i:Int} {ob:aF}:nO P t (.aref L k o es n) (.sc (.int kk i)) ob=aDr (bM P t) L k o es n i:=rfl
theorem aR1 {e:TypeId} {es b:Nat} {L k o es' n:Nat} {i:Int}:aDr (some (e,es,b)) L k o es' n i=some ⟨decide (es'=es/\0<=i/\i<n),.ptr L k (o+i.toNat*es)⟩:=rfl
def aDs (d:Option (Nat×TypeId×Nat)) (L k o:Nat) (i:Int):Option Sv:=match d with
 |some (n,_,es)=>some ⟨decide (0<=i/\i<n),.ptr L k (o+i.toNat*es)⟩
 |none=>none
theorem aR2 {t:TypeId} {L k o:Nat} {kk:IntKind} {i:Int} {ob:aF}:nO P t (.ptr L k o) (.sc (.int kk i)) ob=aDs (jL P t) L k o i:=rfl
theorem aR3 {e:TypeId} {n es L k o:Nat} {i:Int}:aDs (some (n,e,es)) L k o i=some ⟨decide (0<=i/\i<n),.ptr L k (o+i.toNat*es)⟩:=rfl
def aDt (d:Option (Nat×TypeId×Nat)) (l:Bool) (xs:List AV) (k o:Nat) (i:Int):Option Sv:=match d with
 |some (n,_,es)=>some ⟨decide (0<=i/\i<n),.iptr l xs k (o+i.toNat*es)⟩
 |none=>none
theorem aR4 {t:TypeId} {l:Bool} {xs:List AV} {k o:Nat} {kk:IntKind} {i:Int} {ob:aF}:nO P t (.iptr l xs k o) (.sc (.int kk i)) ob=aDt (jL P t) l xs k o i:=rfl
theorem aR5 {e:TypeId} {n es k o:Nat} {l:Bool} {xs:List AV} {i:Int}:aDt (some (n,e,es)) l xs k o i=some ⟨decide (0<=i/\i<n),.iptr l xs k (o+i.toNat*es)⟩:=rfl
theorem aR6 {t:TypeId} {s:ByteArray} {k:IntKind} {i:Int}:tO P t (.sc (.string s)) (.sc (.int k i))=if kZ P t=true then some ⟨decide (0<=i/\i<s.size),nt .u8 (s.data.toList.getD i.toNat 0).toNat⟩else none:=rfl
def aDu (d:Option (Nat×TypeId×Nat)) (P:Program) [Glob P] (cs:List AV):Option Sv:=match d with
 |some (off,ft,_)=>(pQ P ft cs off).map fun a=>⟨true,a⟩
 |none=>none
theorem aR7 {t:TypeId} {cs:List AV} {f:Nat}:vM P t (.agg cs) f=aDu (bW P t f) P cs:=rfl
theorem aR8 {off n:Nat} {ft:TypeId} {cs:List AV}:aDu (some (off,ft,n)) P cs=(pQ P ft cs off).map fun a=>⟨true,a⟩:=rfl
def N8 (d:Option (Bool×Nat)) (cs:List AV) (off:Nat):Option AV:=match d with
 |some (true,n)=>some (.agg ((cs.drop off).take n))
 |some (false,_)=>cs[off]?
 |none=>none
theorem aR9 {t:TypeId} {cs:List AV} {off:Nat}:pQ P t cs off=N8 (aJ P t) cs off:=rfl
theorem aSa {n off:Nat} {cs:List AV}:N8 (some (true,n)) cs off=some (.agg ((cs.drop off).take n)):=rfl
theorem aSb {n off:Nat} {cs:List AV}:N8 (some (false,n)) cs off=cs[off]?:=rfl
def aDv (z:Option AV) (k d:Nat) (s:ASt):Option St:=match z with
 |some z=>if z.plain=true/\z.has d=false then some ⟨decide (d<s.n),s.fresh d (boxK z k) (.ptr d 0 0)⟩else none
 |none=>none
theorem aSc {t:TypeId} {d:Nat}:vT P t d s=aDv (zbS (aM P t) (aK P t) (I2 P t)) (aM P t) d s:=rfl
theorem zbS_zero {z r:Option AV}:zbS 0 z r=z:=rfl
theorem zbS_succ {n:Nat} {z r:Option AV}:zbS (n+1) z r=r:=rfl
theorem aSd {a:AV} {k:Nat}:boxK a k=⟨false,false,false,a.cells.length,[a],k⟩:=rfl
theorem aSe {z:AV} {k d:Nat}:aDv (some z) k d s=if z.plain=true/\z.has d=false then some ⟨decide (d<s.n),s.fresh d (boxK z k) (.ptr d 0 0)⟩else none:=rfl
theorem aSf {b:AV} {d:Nat}:vU b d s=if b.plain=true/\b.has d=false then some ⟨decide (d<s.n),s.fresh d (gU b) (.ptr d 0 0)⟩else none:=rfl
theorem aSg {a:AV}:gU a=⟨false,false,false,a.cells.length,[a],0⟩:=rfl
theorem aSh {es:Nat} {xs:List AV}:cN es xs=⟨true,false,false,es,xs,0⟩:=rfl
def uH (x:Option AObj) (d:Option (Bool×Nat)) (L i o:Nat) (a:AV) (s:ASt):Option St:=match x,d with
 |some x,some (_,size)=>match x.xs[i]? with
  |some y=>if x.fz=false/\a.plain=true/\a.cells.length=size/\o+size<=y.cells.length then
   if x.arr=true then match share s a with
    |some (s1,b)=>match lk s1.o L with
     |some x1=>if x1.fz=false/\b.pure=true/\b.cells.length=size/\b.plain=true then some ⟨true,{s1 with o:=cB s1.o L {x1 with xs:=x1.xs.set i (jM y b o)}}⟩else none
     |none=>none
    |none=>none
   else some ⟨true,{s with o:=cB s.o L {x with xs:=x.xs.set i (jM y a o)}}⟩
   else none
  |none=>none
 |_,_=>none
theorem aSi {t:TypeId} {L i o:Nat} {a:AV}:tV P t (.ptr L i o) a s=uH (lk s.o L) (aJ P t) L i o a s:=by
 simp only[tV,uH];cases lk s.o L<;>cases aJ P t<;>rfl
def N9 (y:Option AV) (fz pin:Bool) (es:Nat) (xs:List AV) (kd size L i o:Nat) (a:AV) (s:ASt):Option St:=match y with
 |some y=>if fz=false/\a.plain=true/\a.cells.length=size/\o+size<=y.cells.length then some ⟨true,{s with o:=cB s.o L ⟨false,fz,pin,es,xs.set i (jM y a o),kd⟩}⟩else none
 |none=>none
theorem aSj {kd:Nat} {fz pin ag:Bool} {es size L i o:Nat} {xs:List AV} {a:AV}:uH (some ⟨false,fz,pin,es,xs,kd⟩) (some (ag,size)) L i o a s=N9 (xs[i]?) fz pin es xs kd size L i o a s:=by
 simp only[uH,N9]
 cases xs[i]?<;>rfl
theorem aSk {kd:Nat} {y:AV} {fz pin:Bool} {es size L i o:Nat} {xs:List AV} {a:AV}:N9 (some y) fz pin es xs kd size L i o a s=if fz=false/\a.plain=true/\a.cells.length=size/\o+size<=y.cells.length then some ⟨true,{s with o:=cB s.o L ⟨false,fz,pin,es,xs.set i (jM y a o),kd⟩}⟩else none:=rfl
def A4 (y:Option AV) (b:Option (ASt×AV)) (fz:Bool) (size L i o:Nat) (a:AV):Option St:=match y,b with
 |some y,some (s1,b)=>if fz=false/\a.plain=true/\a.cells.length=size/\o+size<=y.cells.length then match lk s1.o L with
  |some x1=>if x1.fz=false/\b.pure=true/\b.cells.length=size/\b.plain=true then some ⟨true,{s1 with o:=cB s1.o L {x1 with xs:=x1.xs.set i (jM y b o)}}⟩else none
  |none=>none
  else none
 |_,_=>none
theorem aSl {kd:Nat} {fz pin ag:Bool} {es size L i o:Nat} {xs:List AV} {a:AV}:uH (some ⟨true,fz,pin,es,xs,kd⟩) (some (ag,size)) L i o a s=A4 (xs[i]?) (share s a) fz size L i o a:=by
 simp only[uH,A4]
 cases xs[i]? with
 |none=>cases share s a<;>rfl
 |some y=>
  cases share s a with
  |none=>simp
  |some q=>rfl
def O0 (x1:Option AObj) (s1:ASt) (b y:AV) (size L i o:Nat):Option St:=match x1 with
 |some x1=>if x1.fz=false/\b.pure=true/\b.cells.length=size/\b.plain=true then some ⟨true,{s1 with o:=cB s1.o L {x1 with xs:=x1.xs.set i (jM y b o)}}⟩else none
 |none=>none
theorem aSm {y b a:AV} {s1:ASt} {fz:Bool} {size L i o:Nat}:A4 (some y) (some (s1,b)) fz size L i o a=if fz=false/\a.plain=true/\a.cells.length=size/\o+size<=y.cells.length then O0 (lk s1.o L) s1 b y size L i o else none:=by
 simp only[A4,O0]
theorem aSn {kd:Nat} {s1:ASt} {b y:AV} {size L i o:Nat} {arr fz pin:Bool} {es:Nat} {xs:List AV}:O0 (some ⟨arr,fz,pin,es,xs,kd⟩) s1 b y size L i o=
 if fz=false/\b.pure=true/\b.cells.length=size/\b.plain=true then some ⟨true,{s1 with o:=cB s1.o L ⟨arr,fz,pin,es,xs.set i (jM y b o),kd⟩}⟩else none:=rfl
theorem aSo {o:aF} {L:Nat} {x:AObj}:cB o L x=(L,x)::o:=rfl
theorem aSp {y a:AV} {o:Nat}:jM y a o=if o=0/\a.cells.length=y.cells.length/\a.isAgg=y.isAgg then a else .agg (splice y.cells a.cells o):=rfl
theorem aSq {α:Type} {cs ds:List α} {off:Nat}:splice cs ds off=cs.take off++ds++cs.drop (off+ds.length):=rfl
def aDw (d:Option (List AV×List (Nat×Nat))) (ps:Option (List (Nat×AV))):Option Sv:=match d,ps with
 |some (z,pl),some ps=>(oH (pl[·]?) z ps).map fun cs=>⟨true,.agg cs⟩
 |_,_=>none
theorem aSr {t:TypeId} {ps:Option (List (Nat×AV))}:vN P t ps=aDw (dW P t) ps:=rfl
def aDx (pl:List (Nat×Nat)) (p:Option (Nat×Nat)) (cs:List AV) (a:AV) (r:List (Nat×AV)):Option (List AV):=match p with
 |some (off,size)=>if a.plain=true/\a.cells.length=size/\off+size<=cs.length then oH (pl[·]?) (splice cs a.cells off) r else none
 |none=>none
def A5 (pl:List (Nat×Nat)) (cs:List AV) (ps:List (Nat×AV)):Option (List AV):=oH (pl[·]?) cs ps
theorem aSs {z:List AV} {pl:List (Nat×Nat)} {ps:List (Nat×AV)}:aDw (some (z,pl)) (some ps)=(A5 pl z ps).map fun cs=>⟨true,.agg cs⟩:=rfl
theorem aSt {pl:List (Nat×Nat)} {cs:List AV}:A5 pl cs []=some cs:=rfl
theorem aSu {pl:List (Nat×Nat)} {cs:List AV} {i:Nat} {a:AV} {r:List (Nat×AV)}:A5 pl cs ((i,a)::r)=aDx pl (pl[i]?) cs a r:=rfl
theorem aSv {pl:List (Nat×Nat)} {off size:Nat} {cs:List AV} {a:AV} {r:List (Nat×AV)}:aDx pl (some (off,size)) cs a r=if a.plain=true/\a.cells.length=size/\off+size<=cs.length then A5 pl (splice cs a.cells off) r else none:=rfl
def O1 (d:Option (TypeId×Nat×Nat)) (l h:Option Int) (len gG:Bool) (xs:List AV):Option Sv:=match d,l,h with
 |some (_,es,_),some l,some h=>some ⟨decide (0<=l/\l<=h/\h<=xs.length/\ ∀y∈xs,y.cells.length=es),.list len gG ((xs.drop l.toNat).take (h.toNat - l.toNat))⟩
 |_,_,_=>none
theorem aSw {t:TypeId} {len gG:Bool} {xs:List AV} {lo hi:Option AV} {ob:aF}:gT P t (.list len gG xs) lo hi ob=O1 (bM P t) (bd lo 0) (bd hi xs.length) len (gG&&hi.isNone) xs:=by
 simp only[gT,O1]
 cases bM P t<;>cases bd lo 0<;>cases bd hi xs.length<;>rfl
theorem aSx {e:TypeId} {es b:Nat} {l h:Int} {len gG:Bool} {xs:List AV}:O1 (some (e,es,b)) (some l) (some h) len gG xs=some ⟨decide (0<=l/\l<=h/\h<=xs.length/\ ∀y∈xs,y.cells.length=es),.list len gG ((xs.drop l.toNat).take (h.toNat - l.toNat))⟩:=rfl
def O2 (d:Option (TypeId×Nat×Nat)) (x:Option AObj) (l h:Option Int) (L b n:Nat):Option Sv:=match d,x,l,h with
 |some (_,es,_),some x,some l,some h=>some ⟨decide (x.es=es/\0<=l/\l<=h/\h<=n),.ref L (b+l.toNat) (h.toNat - l.toNat)⟩
 |_,_,_,_=>none
theorem aSy {t:TypeId} {l:Bool} {xs:List AV} {i k:Nat} {lo hi:Option AV} {ob:aF}:gT P t (.iptr l xs i k) lo hi ob=yQ l k (jL P t) lo hi xs[i]?:=rfl
theorem aSz {l:Bool} {k n es:Nat} {e:TypeId} {y:AV}:yQ l k (some (n,e,es)) none none (some y)=some ⟨decide (k+n*es<=y.cells.length/\n<=cL/\0<n),.list l true (qT y.cells k es n)⟩:=rfl
theorem aS0 {t:TypeId} {L b n:Nat} {lo hi:Option AV} {ob:aF}:gT P t (.ref L b n) lo hi ob=O2 (bM P t) (lk ob L) (bd lo 0) (bd hi n) L b n:=by
 simp only[gT,O2]
 cases bM P t<;>cases lk ob L<;>cases bd lo 0<;>cases bd hi n<;>rfl
theorem aS1 {e:TypeId} {es bb:Nat} {x:AObj} {l h:Int} {L b n:Nat}:O2 (some (e,es,bb)) (some x) (some l) (some h) L b n=some ⟨decide (x.es=es/\0<=l/\l<=h/\h<=n),.ref L (b+l.toNat) (h.toNat - l.toNat)⟩:=rfl
def O3 (c:Bool) (l h:Option Int) (s:ByteArray):Option Sv:=match c,l,h with
 |true,some l,some h=>some ⟨decide (0<=l/\l<=h/\h<=s.size),.sc (.string (s.extract l.toNat h.toNat))⟩
 |_,_,_=>none
theorem aS2 {t:TypeId} {s:ByteArray} {lo hi:Option AV} {ob:aF}:gT P t (.sc (.string s)) lo hi ob=O3 (kZ P t) (bd lo 0) (bd hi s.size) s:=by
 simp only[gT,O3]
 cases kZ P t<;>cases bd lo 0<;>cases bd hi s.size<;>rfl
theorem aS3 {l h:Int} {s:ByteArray}:O3 true (some l) (some h) s=some ⟨decide (0<=l/\l<=h/\h<=s.size),.sc (.string (s.extract l.toNat h.toNat))⟩:=rfl
def O4 (d:Option (Nat×TypeId×Nat)) (l:Option Int) (hi:Option AV) (L i o:Nat):Option Sv:=match d,l with
 |some (n,_,es),some l=>match bd hi n with
  |some h=>some ⟨decide (0<=l/\l<=h/\h<=n),.aref L i (o+l.toNat*es) es (h.toNat - l.toNat)⟩
  |none=>none
 |_,_=>none
theorem aS4 {t:TypeId} {L i o:Nat} {lo hi:Option AV} {ob:aF}:gT P t (.ptr L i o) lo hi ob=O4 (jL P t) (bd lo 0) hi L i o:=by
 simp only[gT,O4]
 cases jL P t<;>cases bd lo 0<;>rfl
def aDy (h:Option Int) (n es:Nat) (l:Int) (L i o:Nat):Option Sv:=match h with
 |some h=>some ⟨decide (0<=l/\l<=h/\h<=n),.aref L i (o+l.toNat*es) es (h.toNat - l.toNat)⟩
 |none=>none
theorem aS5 {e:TypeId} {n es:Nat} {l:Int} {hi:Option AV} {L i o:Nat}:O4 (some (n,e,es)) (some l) hi L i o=aDy (bd hi n) n es l L i o:=rfl
theorem aS6 {n es:Nat} {l h:Int} {L i o:Nat}:aDy (some h) n es l L i o=some ⟨decide (0<=l/\l<=h/\h<=n),.aref L i (o+l.toNat*es) es (h.toNat - l.toNat)⟩:=rfl
theorem aS7 {d:Int}:bd none d=some d:=rfl
theorem aS8 {k:IntKind} {i d:Int}:bd (some (.sc (.int k i))) d=some i:=rfl
def uI (a:Option AV) (l h:Option (Option AV)) (P:Program) [Glob P] (t:TypeId) (ob:aF):Option Sv:=match a,l,h with
 |some _,some none,_=>none
 |some _,_,some none=>none
 |some a,l,h=>gT P t a (l.bind id) (h.bind id) ob
 |none,_,_=>none
theorem aS9 {a:AV} {t:TypeId} {ob:aF}:uI (some a) none none P t ob=gT P t a none none ob:=rfl
theorem aTa {a l:AV} {t:TypeId} {ob:aF}:uI (some a) (some (some l)) none P t ob=gT P t a (some l) none ob:=rfl
theorem aTb {a h:AV} {t:TypeId} {ob:aF}:uI (some a) none (some (some h)) P t ob=gT P t a none (some h) ob:=rfl
theorem aTc {a l h:AV} {t:TypeId} {ob:aF}:uI (some a) (some (some l)) (some (some h)) P t ob=gT P t a (some l) (some h) ob:=rfl
theorem aTd {d:Nat} {ty:TypeId} {pos:String} {af:Array Edge} {g:Option (Nat×Bool)} {t:TypeId} {x:Operand} {lo hi:Option Operand}:
 aX P ⟨some d,.slice t x lo hi none,ty,pos,af,g⟩ s=dG (uI (cF P s.t x) (lo.map (cF P s.t)) (hi.map (cF P s.t)) P t s.o):=by simp only[aPg,uI]
def aDz (d:Option (TypeId×Nat×Nat)) (z:TypeId->Option Value) (ps:Option (List (Nat×AV))) (len dd:Nat) (s:ASt):Option St:=match d,ps with
 |some (e,es,_),some ps=>match z e with
  |some _=>if ps.map (·.1)=List.range len then match lZ s (ps.map (·.2))with
   |some (s1,bs)=>some ⟨decide (dd<s1.n/\len*es<=2^24/\len<=cL/\ ∀b∈bs,b.pure=true/\b.cells.length=es),s1.fresh dd (cN es bs) (.ref dd 0 len)⟩
   |none=>none
   else none
  |none=>none
 |_,_=>none
theorem aTe {t:TypeId} {len d:Nat} {ps:Option (List (Nat×AV))}:vY P t len ps d s=aDz (bM P t) (dB P) ps len d s:=rfl
def O5 (z:Option Value) (es:Nat) (ps:List (Nat×AV)) (len dd:Nat) (s:ASt):Option St:=match z with
 |some _=>if ps.map (·.1)=List.range len then match lZ s (ps.map (·.2))with
  |some (s1,bs)=>some ⟨decide (dd<s1.n/\len*es<=2^24/\len<=cL/\ ∀b∈bs,b.pure=true/\b.cells.length=es),s1.fresh dd (cN es bs) (.ref dd 0 len)⟩
  |none=>none
  else none
 |none=>none
theorem aTf {e:TypeId} {es b:Nat} {z:TypeId->Option Value} {ps:List (Nat×AV)} {len d:Nat}:aDz (some (e,es,b)) z (some ps) len d s=O5 (z e) es ps len d s:=rfl
def O6 (x:Option (ASt×List AV)) (es len dd:Nat):Option St:=match x with
 |some (s1,bs)=>some ⟨decide (dd<s1.n/\len*es<=2^24/\len<=cL/\ ∀b∈bs,b.pure=true/\b.cells.length=es),s1.fresh dd (cN es bs) (.ref dd 0 len)⟩
 |none=>none
theorem aTg {v:Value} {es:Nat} {ps:List (Nat×AV)} {len d:Nat}:O5 (some v) es ps len d s=if ps.map (·.1)=List.range len then O6 (lZ s (ps.map (·.2))) es len d else none:=by
 simp only[O5,O6]
theorem aTh {s1:ASt} {bs:List AV} {es len d:Nat}:O6 (some (s1,bs)) es len d=some ⟨decide (d<s1.n/\len*es<=2^24/\len<=cL/\ ∀b∈bs,b.pure=true/\b.cells.length=es),s1.fresh d (cN es bs) (.ref d 0 len)⟩:=rfl
def oT (x:Option (ASt×AV)) (r:List AV) (f:ASt->List AV->Option (ASt×List AV)):Option (ASt×List AV):=match x with
 |some (s1,b)=>match f s1 r with
  |some (s2,bs)=>some (s2,b::bs)
  |none=>none
 |none=>none
def aD0 (b:AV) (x:Option (ASt×List AV)):Option (ASt×List AV):=match x with
 |some (s2,bs)=>some (s2,b::bs)
 |none=>none
theorem aTi {s1:ASt} {b:AV} {r:List AV} {f:ASt->List AV->Option (ASt×List AV)}:oT (some (s1,b)) r f=aD0 b (f s1 r):=rfl
theorem aTj {s2:ASt} {b:AV} {bs:List AV}:aD0 b (some (s2,bs))=some (s2,b::bs):=rfl
theorem aTk:lZ s []=some (s,[]):=rfl
theorem aTl {a:AV} {r:List AV}:lZ s (a::r)=oT (share s a) r lZ:=by first|rfl|(simp only[lZ,oT];done)|(simp only[lZ,oT];repeat' split)<;>simp_all
theorem aTm:kF s []=some (s,[]):=rfl
theorem aTn {a:AV} {r:List AV}:kF s (a::r)=oT (iQ s a) r kF:=by first|rfl|(simp only[kF,oT];done)|(simp only[kF,oT];repeat' split)<;>simp_all
def O7 (x:Option (ASt×List AV)):Option (ASt×AV):=match x with
 |some (s1,ds)=>some (s1,.agg ds)
 |none=>none
theorem aTo {s1:ASt} {ds:List AV}:O7 (some (s1,ds))=some (s1,.agg ds):=rfl
theorem aTp {cs:List AV}:share s (.agg cs)=O7 (kF s cs):=rfl
theorem aTq {v:Value}:share s (.sc v)=some (s,.sc v):=by simp[share,iQ,AV.pure]
theorem aTr {f:Bool} {xs:List AV}:share s (.list false f xs)=some (s,.list false f xs):=by simp[share,iQ,AV.pure]
theorem aTs {L lo n:Nat}:share s (.ref L lo n)=iQ s (.ref L lo n):=rfl
theorem aTt {v:Value}:iQ s (.sc v)=some (s,.sc v):=by simp[iQ,AV.pure]
theorem aTu {f:Bool} {xs:List AV}:iQ s (.list false f xs)=some (s,.list false f xs):=by simp[iQ,AV.pure]
def O8 (x:Option AObj) (s:ASt) (L lo n:Nat):Option (ASt×AV):=match x with
 |some x=>if x.arr=true/\x.pin=false then some (s.frz L x,.list false false (bY x.xs lo n))else none
 |none=>none
theorem aTv {L lo n:Nat}:iQ s (.ref L lo n)=O8 (lk s.o L) s L lo n:=by
 simp only[iQ,O8];cases lk s.o L<;>rfl
theorem aTw {kd:Nat} {fz:Bool} {es L lo n:Nat} {xs:List AV}:O8 (some ⟨true,fz,false,es,xs,kd⟩) s L lo n=some ({s with o:=(L,⟨true,true,false,es,xs,kd⟩)::s.o},.list false false (bY xs lo n)):=rfl
theorem aTx {α:Type} {xs:List α}:bY xs 0 xs.length=xs:=by simp[bY]
theorem aTy {α:Type} {xs:List α} {lo n:Nat}:bY xs lo n=if lo=0/\n=xs.length then xs else(xs.drop lo).take n:=rfl
def uJ (d:Option (TypeId×Nat×Nat)) (d2:Bool) (ys:Option (List AV)) (z:TypeId->Option Value) (kk:TypeId->Nat) (a:AV) (dd:Nat) (s:ASt):Option St:=match d,d2,ys with
 |some (e,es,bytes),true,some ys=>match z e with
  |some _=>match a with
   | .list _ true xs=>some ⟨decide (dd<s.n/\(∀zv,z e=some zv->zv.cells.size=es)/\(∀y∈ys,y.cells.length=es)/\(∀y∈xs,y.cells.length=es)/\bytes≠0/\(2*(xs.length+ys.length)+200)*bytes<=2^48/\(xs= []\/ys≠ [])),
    s.renew dd dd dd (gL es (xs++ys) (kk e)) (.ref dd 0 (xs++ys).length)⟩
   | .ref L lo n=>match lk s.o L with
    |some x=>if x.arr=true/\x.fz=false/\lo=0 then
     some ⟨decide (dd<s.n/\(∀zv,z e=some zv->zv.cells.size=es)/\(∀y∈ys,y.cells.length=es)/\x.es=es/\bytes≠0/\(2*(n+ys.length)+200)*bytes<=2^48/\n<=x.xs.length),
      s.renew L (if x.pin=true then dd else L) dd (gL es (bY x.xs 0 n++ys) (if x.kd=kk e then kk e else 0)) (.ref (if x.pin=true then dd else L) 0 (n+ys.length))⟩else none
    |none=>none
   |_=>none
  |none=>none
 |_,_,_=>none
theorem aTz {st xt:TypeId} {a b:AV} {d:Nat}:pT P st xt a b d s=uJ (bM P st) (fJ P xt) (gV s.o b) (dB P) (dK P) a d s:=by
 simp only[pT,uJ];cases bM P st<;>cases fJ P xt<;>cases gV s.o b<;>rfl
def aT0 (x:Option AObj) (L n es bytes k dd:Nat) (ys:List AV) (s:ASt):Option St:=match x with
 |some x=>if x.arr=true/\x.fz=false then some ⟨decide (dd<s.n/\(∀y∈ys,y.cells.length=es)/\x.es=es/\(2*(n+ys.length)+200)*bytes<=2^48/\n<=x.xs.length),
  s.renew L (if x.pin=true then dd else L) dd (gL es (bY x.xs 0 n++ys) (if x.kd=k then k else 0)) (.ref (if x.pin=true then dd else L) 0 (n+ys.length))⟩else none
 |none=>none
theorem aT1 {kd k:Nat} {L n es es' bytes d:Nat} {xs ys:List AV} {pin:Bool}:aT0 (some ⟨true,false,pin,es',xs,kd⟩) L n es bytes k d ys s=some ⟨decide (d<s.n/\(∀y∈ys,y.cells.length=es)/\es'=es/\(2*(n+ys.length)+200)*bytes<=2^48/\n<=xs.length),
 s.renew L (if pin=true then d else L) d (gL es (bY xs 0 n++ys) (if kd=k then k else 0)) (.ref (if pin=true then d else L) 0 (n+ys.length))⟩:=rfl
theorem aT2 {es k:Nat} {xs:List AV}:gL es xs k=⟨true,false,false,es,xs,k⟩:=rfl
theorem aT3 {o:aF} {l f:Bool} {ys:List AV}:gV o (.list l f ys)=some ys:=rfl
theorem aT4 {o:aF} {L lo n:Nat}:gV o (.ref L lo n)=iR o (.ref L lo n):=rfl
theorem aT5 {o:aF} {b:ByteArray}:gV o (.sc (.string b))=some (b.data.toList.map gJ):=rfl
def A6 (x:Option AObj) (lo n:Nat):Option (List AV):=match x with
 |some x=>if x.arr=true then some (bY x.xs lo n)else none
 |none=>none
theorem aT6 {o:aF} {l f:Bool} {ys:List AV}:iR o (.list l f ys)=some ys:=rfl
theorem aT7 {o:aF} {L lo n:Nat}:iR o (.ref L lo n)=A6 (lk o L) lo n:=by first|rfl|(simp only[iR,A6];done)|(simp only[iR,A6];repeat' split)<;>simp_all
theorem aT8 {kd:Nat} {fz pin:Bool} {es lo n:Nat} {xs:List AV}:A6 (some ⟨true,fz,pin,es,xs,kd⟩) lo n=some (bY xs lo n):=rfl
def xA (b:Option AV) (x:Option (List AV)):Option (List AV):=match b,x with
 |some b,some bs=>some (b::bs)
 |_,_=>none
theorem aT9 {b:AV} {bs:List AV}:xA (some b) (some bs)=some (b::bs):=rfl
theorem aUa {o:aF}:iS o []=some []:=rfl
theorem aUb {o:aF} {a:AV} {r:List AV}:iS o (a::r)=xA (lB o a) (iS o r):=by
 simp only[iS,xA]
 cases lB o a with
 |none=>rfl
 |some b=>cases iS o r<;>rfl
theorem aUc {o:aF}:kG o []=some []:=rfl
theorem aUd {o:aF} {a:AV} {r:List AV}:kG o (a::r)=xA (gM o a) (kG o r):=by
 simp only[kG,xA]
 cases gM o a with
 |none=>rfl
 |some b=>cases kG o r<;>rfl
theorem aUe {o:aF} {cs:List AV}:lB o (.agg cs)=(kG o cs).map .agg:=rfl
theorem aUf {o:aF} {g:FuncId} {cs:List AV}:lB o (.clo g cs)=(kG o cs).map (.clo g):=rfl
theorem aUg {o:aF} {v:Value}:lB o (.sc v)=some (.sc v):=rfl
theorem aUh {o:aF} {l f:Bool} {xs:List AV}:lB o (.list l f xs)=some (.list l f xs):=rfl
theorem aUi {o:aF} {l:Bool} {xs:List AV} {i k:Nat}:lB o (.iptr l xs i k)=some (.iptr l xs i k):=rfl
theorem aUj {o:aF}:lB o .dead=some .dead:=rfl
theorem aUk {o:aF} {v:Value}:gM o (.sc v)=some (.sc v):=rfl
theorem aUl {o:aF} {l f:Bool} {xs:List AV}:gM o (.list l f xs)=some (.list l f xs):=rfl
theorem aUm {o:aF} {l:Bool} {xs:List AV} {i k:Nat}:gM o (.iptr l xs i k)=some (.iptr l xs i k):=rfl
theorem aUn {o:aF}:gM o .dead=some .dead:=rfl
theorem aUo {o:aF} {L lo n:Nat}:lB o (.ref L lo n)=gM o (.ref L lo n):=rfl
theorem aUp {o:aF} {L i k:Nat}:lB o (.ptr L i k)=gM o (.ptr L i k):=rfl
theorem aUq {o:aF} {L i k es n:Nat}:lB o (.aref L i k es n)=gM o (.aref L i k es n):=rfl
def A7 (x:Option AObj) (lo n:Nat):Option AV:=match x with
 |some x=>if x.arr=true then some (.list (!x.fz) false (bY x.xs lo n))else none
 |none=>none
theorem aUr {o:aF} {L lo n:Nat}:gM o (.ref L lo n)=A7 (lk o L) lo n:=by first|rfl|(simp only[gM,A7];done)|(simp only[gM,A7];repeat' split)<;>simp_all
theorem aUs {kd:Nat} {fz pin:Bool} {es lo n:Nat} {xs:List AV}:A7 (some ⟨true,fz,pin,es,xs,kd⟩) lo n=some (.list (!fz) false (bY xs lo n)):=rfl
def A8 (x:Option AObj) (i k:Nat):Option AV:=match x with
 |some x=>if x.arr=true\/AV.pureL x.xs=true then some (.iptr true x.xs i k)else none
 |none=>none
theorem aUt {o:aF} {L i k:Nat}:gM o (.ptr L i k)=A8 (lk o L) i k:=by first|rfl|(simp only[gM,A8];done)|(simp only[gM,A8];repeat' split)<;>simp_all
theorem aUu {kd:Nat} {arr fz pin:Bool} {es i k:Nat} {xs:List AV}:A8 (some ⟨arr,fz,pin,es,xs,kd⟩) i k=if arr=true\/AV.pureL xs=true then some (.iptr true xs i k)else none:=rfl
def A9 (y:Option AV) (k es n:Nat):Option AV:=match y with
 |some y=>if y.pure=true/\k+n*es<=y.cells.length/\n<=1048576/\y.isAgg=true then some (.list true false ((List.range n).map fun j=>oJ y.cells (k+j*es) es))else none
 |none=>none
def O9 (x:Option AObj) (i k es n:Nat):Option AV:=match x with
 |some x=>A9 (x.xs[i]?) k es n
 |none=>none
theorem aUv {o:aF} {L i k es n:Nat}:gM o (.aref L i k es n)=O9 (lk o L) i k es n:=by
 simp only[gM,O9]
 cases lk o L with
 |none=>rfl
 |some x=>simp only[A9];cases x.xs[i]?<;>rfl
theorem aUw {x:AObj} {i k es n:Nat}:O9 (some x) i k es n=A9 (x.xs[i]?) k es n:=rfl
theorem aUx {y:AV} {k es n:Nat}:A9 (some y) k es n=if y.pure=true/\k+n*es<=y.cells.length/\n<=1048576/\y.isAgg=true then some (.list true false ((List.range n).map fun j=>oJ y.cells (k+j*es) es))else none:=rfl
theorem aUy {cs:List AV} {off es:Nat}:oJ cs off es=if es=1 then cs.getD off .dead else .agg ((cs.drop off).take es):=rfl
theorem aUz {d es:Nat} {xs:List AV}:mT s d (.own es xs)=s.renew d d d (cN es xs) (.ref d 0 xs.length):=rfl
theorem aU0 {d:Nat} {v:Value}:mT s d (.sc v)=s.put d (.sc v):=rfl
theorem aU1 {d:Nat} {cs:List AV}:mT s d (.agg cs)=s.put d (.agg cs):=rfl
theorem aU2 {d:Nat} {l f:Bool} {xs:List AV}:mT s d (.list l f xs)=s.put d (.list l f xs):=rfl
theorem aU3 {d:Nat} {g:FuncId} {cs:List AV}:mT s d (.clo g cs)=s.put d (.clo g cs):=rfl
def aD1 (d:Nat) (x:ASt×List AV):ASt:=x.1.put d (.tup x.2)
theorem aU4 {d:Nat} {rs:List AV}:mT s d (.tup rs)=aD1 d (dX s.n d 0 s rs):=rfl
theorem aU5 {d:Nat} {s1:ASt} {cs:List AV}:aD1 d (s1,cs)=s1.put d (.tup cs):=rfl
def xB (b:AV) (x:ASt×List AV):ASt×List AV:=(x.1,b::x.2)
theorem aU6 {b:AV} {s1:ASt} {cs:List AV}:xB b (s1,cs)=(s1,b::cs):=rfl
theorem aU7 {n d i:Nat}:dX n d i s []=(s,[]):=rfl
theorem aU8 {n d i es:Nat} {xs rs:List AV}:dX n d i s (.own es xs::rs)=xB (.ref (n*(i+1)+d) 0 xs.length) (dX n d (i+1) (s.adopt (n*(i+1)+d) (cN es xs)) rs):=rfl
theorem aU9 {n d i:Nat} {v:Value} {rs:List AV}:dX n d i s (.sc v::rs)=xB (.sc v) (dX n d (i+1) s rs):=rfl
theorem aVa {n d i:Nat} {cs:List AV} {rs:List AV}:dX n d i s (.agg cs::rs)=xB (.agg cs) (dX n d (i+1) s rs):=rfl
theorem aVb {n d i:Nat} {l f:Bool} {xs rs:List AV}:dX n d i s (.list l f xs::rs)=xB (.list l f xs) (dX n d (i+1) s rs):=rfl
theorem aVc {n:Nat} {as:List AV}:entry n as=⟨n,(as.zipIdx 0).map fun p=>(p.2,p.1),[]⟩:=rfl
def uK (a:Option AV) (r:Option (List AV)):Option (List AV):=match a,r with
 |some a,some as=>some (a::as)
 |_,_=>none
theorem aVd {a:AV} {r:List AV}:uK (some a) (some r)=some (a::r):=rfl
theorem aVe:fM P s []=some []:=rfl
theorem aVf {r:ResultVar} {rs:List ResultVar}:fM P s (r::rs)=uK (qA P s r) (fM P s rs):=by
 simp only[fM,uK];cases qA P s r<;>cases fM P s rs<;>rfl
theorem aVg {t:Nat}:qA P s (.tmp t)=lk s.t t:=rfl
def B0 (p:Option AV) (t:TypeId) (P:Program) [Glob P] (o:aF):Option AV:=match p with
 |some (.ptr L i k)=>(lV P t (.ptr L i k) o).map (·.val)
 |_=>none
theorem aVh {a:Nat} {t:TypeId}:qA P s (.cell a t)=B0 (lk s.t a) t P s.o:=by first|rfl|(simp only[qA,B0];done)|(simp only[qA,B0];repeat' split)<;>simp_all
theorem aVi {L i k:Nat} {t:TypeId} {o:aF}:B0 (some (.ptr L i k)) t P o=(lV P t (.ptr L i k) o).map (·.val):=rfl
theorem aVj:kJ [] s=some s:=rfl
def B1 (x:Option AObj) (L:Nat) (r:List Nat) (s:ASt):Option ASt:=match x with
 |some x=>if x.arr=true then kJ r (s.frz L x)else none
 |none=>none
theorem aVk {L:Nat} {r:List Nat}:kJ (L::r) s=B1 (lk s.o L) L r s:=by first|rfl|(simp only[kJ,B1];done)|(simp only[kJ,B1];repeat' split)<;>simp_all
theorem aVl {kd:Nat} {fz pin:Bool} {es L:Nat} {xs:List AV} {r:List Nat}:B1 (some ⟨true,fz,pin,es,xs,kd⟩) L r s=kJ r {s with o:=(L,⟨true,true,pin,es,xs,kd⟩)::s.o}:=rfl
def B2 (x:Option (ASt×List AV)):Option AV:=match x with
 |some (s2,ys)=>if nD (fO ys)=true then(mH s2.o ys).map gZ else none
 |none=>none
theorem aVm {s2:ASt} {ys:List AV}:B2 (some (s2,ys))=if nD (fO ys)=true then(mH s2.o ys).map gZ else none:=rfl
def P0 (xs:Option (List AV)) (s1:Option ASt):Option AV:=match xs,s1 with
 |some xs,some s1=>B2 (mG s1 xs)
 |_,_=>none
theorem aVn {rs:List ResultVar} {fs:List Nat}:oS P rs fs s=P0 (fM P s rs) (kJ fs s):=by
 simp only[oS,P0]
 cases fM P s rs with
 |none=>rfl
 |some xs=>cases kJ fs s with
  |none=>rfl
  |some s1=>simp only[B2];cases mG s1 xs<;>rfl
theorem aVo {xs:List AV} {s1:ASt}:P0 (some xs) (some s1)=B2 (mG s1 xs):=rfl
theorem aVp:mG s []=some (s,[]):=rfl
theorem aVq {a:AV} {r:List AV}:mG s (a::r)=oT (nV s a) r mG:=by first|rfl|(simp only[mG,oT];done)|(simp only[mG,oT];repeat' split)<;>simp_all
theorem aVr {L lo n:Nat}:nV s (.ref L lo n)=some (s,.ref L lo n):=rfl
theorem aVs {v:Value}:nV s (.sc v)=some (s,.sc v):=by simp[nV,share,iQ,AV.pure]
theorem aVt {cs:List AV}:nV s (.agg cs)=O7 (kF s cs):=rfl
theorem aVu {f:Bool} {xs:List AV}:nV s (.list false f xs)=some (s,.list false f xs):=by simp[nV,share,iQ,AV.pure]
theorem aVv {g:FuncId} {cs:List AV}:nV s (.clo g cs)=if AV.pureL cs=true then some (s,.clo g cs)else none:=rfl
theorem aVw {o:aF}:mH o []=some []:=rfl
theorem aVx {o:aF} {a:AV} {r:List AV}:mH o (a::r)=uK (kN o a) (mH o r):=by first|rfl|(simp only[mH,uK];done)|(simp only[mH,uK];repeat' split)<;>simp_all
theorem aVy {o:aF} {v:Value}:kN o (.sc v)=some (.sc v):=by simp[kN,AV.pure]
theorem aVz {o:aF} {cs:List AV}:kN o (.agg cs)=if AV.pureL cs=true then some (.agg cs)else none:=rfl
theorem aV0 {o:aF} {g:FuncId} {cs:List AV}:kN o (.clo g cs)=if AV.pureL cs=true then some (.clo g cs)else none:=rfl
theorem aV1 {o:aF} {f:Bool} {xs:List AV}:kN o (.list false f xs)=some (.list false f xs):=by simp[kN,AV.pure]
def uL (x:Option AObj) (lo n:Nat):Option AV:=match x with
 |some x=>if x.arr=true then(if x.fz=true then some (.list false false (bY x.xs lo n))else if x.pin=false/\lo=0/\n=x.xs.length then some (.own x.es x.xs)else none)else none
 |none=>none
theorem aV2 {o:aF} {L lo n:Nat}:kN o (.ref L lo n)=uL (lk o L) lo n:=by first|rfl|(simp only[kN,uL];done)|(simp only[kN,uL];repeat' split)<;>simp_all
theorem aV3 {kd:Nat} {pin:Bool} {es lo n:Nat} {xs:List AV}:uL (some ⟨true,true,pin,es,xs,kd⟩) lo n=some (.list false false (bY xs lo n)):=rfl
theorem aV4 {kd:Nat} {es lo n:Nat} {xs:List AV}:uL (some ⟨true,false,false,es,xs,kd⟩) lo n=if lo=0/\n=xs.length then some (.own es xs)else none:=by simp[uL]
theorem aV5:fO []= []:=rfl
theorem aV6 {L lo n:Nat} {r:List AV}:fO (.ref L lo n::r)=L::fO r:=rfl
theorem aV7 {v:Value} {r:List AV}:fO (.sc v::r)=fO r:=rfl
theorem aV8 {cs:List AV} {r:List AV}:fO (.agg cs::r)=fO r:=rfl
theorem aV9 {l f:Bool} {xs r:List AV}:fO (.list l f xs::r)=fO r:=rfl
theorem aWa {g:FuncId} {cs:List AV} {r:List AV}:fO (.clo g cs::r)=fO r:=rfl
theorem aWb:nD []=true:=rfl
theorem aWc {a:Nat} {r:List Nat}:nD (a::r)=(!r.contains a&&nD r):=rfl
theorem aWd {r:AV}:gZ [r]=r:=rfl
theorem aWe:gZ []= .tup []:=rfl
theorem aWf {a b:AV} {r:List AV}:gZ (a::b::r)= .tup (a::b::r):=rfl
def P1 (x:Option AV) (R:AV->Prop):Prop:=match x with
 |some r=>R r
 |none=>False
theorem aWg {rs:List ResultVar} {fs:List Nat} {R:AV->Prop}:A3 P rs fs R s=P1 (oS P rs fs s) R:=by simp only[A3,P1]
theorem aWh {r:AV} {R:AV->Prop}:P1 (some r) R=R r:=rfl
def xC (x:Option AV) (want:Bool):GV:=match x with
 |some (.sc (.bool b))=> .test b want
 |some (.tup [])=> .skip
 |_=> .bad
theorem aWi {want:Bool}:xC (some (.tup [])) want= .skip:=rfl
theorem aWj {ops:Array Oper} {j:Nat} {want:Bool}:fL ops (some (j,want)) s=xC ((mD ops j).bind (lk s.t)) want:=by first|rfl|(simp only[fL,xC];done)|(simp only[fL,xC];repeat' split)<;>simp_all
theorem aWk {b want:Bool}:xC (some (.sc (.bool b))) want= .test b want:=rfl
theorem aWl {ops:Array Oper} {j:Nat}:mD ops j=(ops[j]?).bind (·.dst):=rfl
end
attribute [go_sem ↓] aMf aMg aMh aMi aMj aMk aMl aMm aMn aMo aMp aMq aMw aMx aM2 aM3 aM4 aM5 aM6 aNe aNf aNh aNg List.filter_cons List.filter_nil aNi aNj aNk aNl aNm aNn aNr
attribute [go_sem] aWi aMz aM0 aM1 aNq aNs aNt
attribute [go_sem] aMr aMs aMy aWj aWk aWl aM9 aNa aNb aNc aNu aNv aNw aNx aNy aNz aN0 aN1 aN2 aN3 aN4 aN5 aN6 aN7
 aDb aDc aDd aDe aDf aDg aDi aDj aDk aN9 aDl aDm aOa aDn aDo aOb aDp aOc aOd aOe aDh aN8
 aOf aOg aOh aOi aOj aOk aOl aOm aOn aOo aOp aOq aOr aOs aOt aOu aOv aOw aOx aOy aOz
attribute [go_sem] aO0 aO1 aO2 aO3 aO4 aPa aPb aPc aPd aPe aPf aPh aPi aPj aPk aPl aPm aPp aPq aPr aPs aPt aPu
attribute [go_sem] aPv aPw aPx aPy aPz aP0 aP1 aP2 aP3 aP4 aP5
attribute [go_sem] aP6 aP7 aP8 aP9 aQa aQb aQc aQd aQe aQf aQg aQh aQi aQj aQk aQl aQm aQn aQo aQp aQq
 aQr aQs aQt aQu aQv aQw aQx aQy aQz aQ0 aQ1 aQ2 aQ3 aQ4 aQ5 aQ6 aQ7 aQ8 aQ9 aRa aRb
attribute [go_sem] aRc aRd aRe aRf aRg oG rW vO qU aRh aRi aRj aRk aRl aRm aRn aRo aRp aRq aRr aRs aRt aRu aRv
 aRw aRx aRy aRz aR0 aR1 aR2 aR3 aR4 aR5 aR7 aR8 aR9 aSa aSb aSc aSe aSf aSg aSd zbS_zero zbS_succ aSh aT2 aT3 aT4 aT5
 aSi aSj aSk aSl aSm aSn aSo aSp aSq aSr aSs aSt aSu aSv
attribute [go_sem] aSy aSz aSw aSx aS0 aS1 aS2 aS3 aS4 aS5 aS6 aS7 aS8 aTe aTf aTg aTh
 aTi aTj aTk aTl aTm aTn aTo aTp aTq aTr aTs aTt aTu aTv aTw aTx aTy aTz aT1 aT6 aT7 aT8
 aT9 aUa aUb aUc aUd aUe aUf aUg aUh aUi aUj aUk aUl aUm aUn aUo aUp aUq aUr aUs aUt aUu aUv aUw aUx aUy
attribute [go_sem] aUz aU0 aU1 aU2 aU3 aU4 aU5 aU6 aU7 aU8 aU9 aVa aVb aVc aVd aVe aVf aVg aVh aVi aVj aVk aVl aVm aVn aVo
 aVp aVq aVr aVs aVt aVu aVv aVw aVx aVy aVz aV0 aV1 aV2 aV3 aV4 aV5 aV6 aV7 aV8 aV9 aWa aWb aWc aWd aWe aWf aWg aWh
 aTd aS9 aTa aTb aTc
attribute [go_sem] List.getElem?_cons_zero List.getElem?_cons_succ List.getElem?_nil List.map_cons List.map_nil List.length_cons List.length_nil List.take_zero List.take_succ_cons List.take_nil List.drop_zero List.drop_succ_cons List.drop_nil List.cons_append List.nil_append List.append_nil
 List.set_cons_zero List.set_cons_succ List.zipIdx_cons List.zipIdx_nil Option.map_some Option.map_none Option.bind_some Option.bind_none List.getElem?_toArray Nat.zero_add Nat.add_zero Int.toNat_natCast Int.toNat_zero List.contains_nil
 Bool.not_true Bool.not_false and_true true_and and_false false_and and_self or_true true_or or_false false_or if_true if_false ite_true ite_false ne_eq not_true_eq_false not_false_eq_true Bool.false_eq_true Bool.true_and Bool.and_true Bool.false_and Bool.and_false Bool.or_false Bool.false_or Bool.or_true Bool.true_or eq_self implies_true decide_true decide_false
section
variable {P : Program} [Glob P] {Q : Exit -> ASt -> Prop} {s : ASt} {k : ASt -> Prop}
section asteps
variable {dd : Option Nat} {d : Nat} {ty : TypeId} {pos : String} {af : Array Edge} {g : Option (Nat × Bool)}
theorem aWm {x:Operand}:bO P ⟨dd,.move x,ty,pos,af,g⟩ k s=cC P (aX P ⟨dd,.move x,ty,pos,af,g⟩ s) dd k s:=rfl
theorem aWn {x:Operand}:bO P ⟨dd,.assign x,ty,pos,af,g⟩ k s=cC P (aX P ⟨dd,.assign x,ty,pos,af,g⟩ s) dd k s:=rfl
theorem aWo {c x y:Operand}:bO P ⟨dd,.pick c x y,ty,pos,af,g⟩ k s=cC P (aX P ⟨dd,.pick c x y,ty,pos,af,g⟩ s) dd k s:=rfl
theorem aWp {t:TypeId}:bO P ⟨dd,.alloc t,ty,pos,af,g⟩ k s=cC P (aX P ⟨dd,.alloc t,ty,pos,af,g⟩ s) dd k s:=rfl
theorem aWq {t:TypeId} {x:Operand}:bO P ⟨dd,.box t x,ty,pos,af,g⟩ k s=cC P (aX P ⟨dd,.box t x,ty,pos,af,g⟩ s) dd k s:=rfl
theorem aWr {t:TypeId} {ps:Array (Nat×Operand)}:bO P ⟨dd,.build t ps,ty,pos,af,g⟩ k s=cC P (aX P ⟨dd,.build t ps,ty,pos,af,g⟩ s) dd k s:=rfl
theorem aWs {t:TypeId} {l:Nat} {ps:Array (Nat×Operand)}:bO P ⟨dd,.buildSlice t l ps,ty,pos,af,g⟩ k s=cC P (aX P ⟨dd,.buildSlice t l ps,ty,pos,af,g⟩ s) dd k s:=rfl
theorem aWt {t:TypeId} {x:Operand}:bO P ⟨dd,.load t x,ty,pos,af,g⟩ k s=cC P (aX P ⟨dd,.load t x,ty,pos,af,g⟩ s) dd k s:=rfl
theorem aWu {t:TypeId} {x y:Operand}:bO P ⟨dd,.store t x y,ty,pos,af,g⟩ k s=cC P (aX P ⟨dd,.store t x y,ty,pos,af,g⟩ s) dd k s:=rfl
theorem aWv {x:Operand}:bO P ⟨dd,.nilCheck x,ty,pos,af,g⟩ k s=cC P (aX P ⟨dd,.nilCheck x,ty,pos,af,g⟩ s) dd k s:=rfl
theorem aWw {u:UnOp} {t:TypeId} {x:Operand}:bO P ⟨dd,.unOp u t x,ty,pos,af,g⟩ k s=cC P (aX P ⟨dd,.unOp u t x,ty,pos,af,g⟩ s) dd k s:=rfl
theorem aWx {t:TypeId} {x:Operand} {i:Nat}:bO P ⟨dd,.fieldAddr t x i,ty,pos,af,g⟩ k s=cC P (aX P ⟨dd,.fieldAddr t x i,ty,pos,af,g⟩ s) dd k s:=rfl
theorem aWy {t:TypeId} {x:Operand} {i:Nat}:bO P ⟨dd,.field t x i,ty,pos,af,g⟩ k s=cC P (aX P ⟨dd,.field t x i,ty,pos,af,g⟩ s) dd k s:=rfl
theorem aWz {t:TypeId} {x y:Operand}:bO P ⟨dd,.indexAddr t x y,ty,pos,af,g⟩ k s=cC P (aX P ⟨dd,.indexAddr t x y,ty,pos,af,g⟩ s) dd k s:=rfl
theorem aW0 {t:TypeId} {x y:Operand}:bO P ⟨dd,.index t x y,ty,pos,af,g⟩ k s=cC P (aX P ⟨dd,.index t x y,ty,pos,af,g⟩ s) dd k s:=rfl
theorem aW1 {t:TypeId} {x:Operand} {l h:Option Operand}:bO P ⟨dd,.slice t x l h none,ty,pos,af,g⟩ k s=cC P (aX P ⟨dd,.slice t x l h none,ty,pos,af,g⟩ s) dd k s:=by
 cases l<;>cases h<;>rfl
theorem aW2 {x:Operand} {i:Nat}:bO P ⟨dd,.extract x i,ty,pos,af,g⟩ k s=cC P (aX P ⟨dd,.extract x i,ty,pos,af,g⟩ s) dd k s:=rfl
theorem aW3 {fn:Fn} {a c:Array Operand}:bO P ⟨dd,.makeFunc fn a c,ty,pos,af,g⟩ k s=cC P (aX P ⟨dd,.makeFunc fn a c,ty,pos,af,g⟩ s) dd k s:=rfl
theorem aW4 {t:TypeId} {x:Operand}:bO P ⟨dd,.makeMap t (some x),ty,pos,af,g⟩ k s=cC P (aX P ⟨dd,.makeMap t (some x),ty,pos,af,g⟩ s) dd k s:=rfl
theorem aW5 {t:TypeId} {x:Operand}:bO P ⟨dd,.makeInterface t x,ty,pos,af,g⟩ k s=cC P (aX P ⟨dd,.makeInterface t x,ty,pos,af,g⟩ s) dd k s:=rfl
theorem aW6 {x:Operand} {xs:Array Operand} {ts:Array TypeId}:bO P ⟨dd,.call ⟨.value x,xs,ts⟩,ty,pos,af,g⟩ k s=cC P (aX P ⟨dd,.call ⟨.value x,xs,ts⟩,ty,pos,af,g⟩ s) dd k s:=rfl
theorem aW7 {xs:Array Operand} {ts:Array TypeId}:bO P ⟨dd,.call ⟨.builtin .len,xs,ts⟩,ty,pos,af,g⟩ k s=cC P (aX P ⟨dd,.call ⟨.builtin .len,xs,ts⟩,ty,pos,af,g⟩ s) dd k s:=rfl
theorem aW8 {xs:Array Operand} {ts:Array TypeId}:bO P ⟨dd,.call ⟨.builtin .min,xs,ts⟩,ty,pos,af,g⟩ k s=cC P (aX P ⟨dd,.call ⟨.builtin .min,xs,ts⟩,ty,pos,af,g⟩ s) dd k s:=rfl
theorem aW9 {xs:Array Operand} {ts:Array TypeId}:bO P ⟨dd,.call ⟨.builtin .max,xs,ts⟩,ty,pos,af,g⟩ k s=cC P (aX P ⟨dd,.call ⟨.builtin .max,xs,ts⟩,ty,pos,af,g⟩ s) dd k s:=rfl
theorem aXa {xs:Array Operand} {ts:Array TypeId}:bO P ⟨dd,.call ⟨.builtin .unsafeSliceData,xs,ts⟩,ty,pos,af,g⟩ k s=cC P (aX P ⟨dd,.call ⟨.builtin .unsafeSliceData,xs,ts⟩,ty,pos,af,g⟩ s) dd k s:=rfl
theorem aXb {xs:Array Operand} {ts:Array TypeId}:bO P ⟨dd,.call ⟨.builtin .cap,xs,ts⟩,ty,pos,af,g⟩ k s=cC P (aX P ⟨dd,.call ⟨.builtin .cap,xs,ts⟩,ty,pos,af,g⟩ s) dd k s:=rfl
theorem aXc {t yt:TypeId} {x y:Operand}:bO P ⟨dd,.binOp .add t x y yt,ty,pos,af,g⟩ k s=cC P (aX P ⟨dd,.binOp .add t x y yt,ty,pos,af,g⟩ s) dd k s:=rfl
theorem aXd {t yt:TypeId} {x y:Operand}:bO P ⟨dd,.binOp .sub t x y yt,ty,pos,af,g⟩ k s=cC P (aX P ⟨dd,.binOp .sub t x y yt,ty,pos,af,g⟩ s) dd k s:=rfl
theorem aXe {t yt:TypeId} {x y:Operand}:bO P ⟨dd,.binOp .mul t x y yt,ty,pos,af,g⟩ k s=cC P (aX P ⟨dd,.binOp .mul t x y yt,ty,pos,af,g⟩ s) dd k s:=rfl
theorem aXf {t yt:TypeId} {x y:Operand}:bO P ⟨dd,.binOp .quo t x y yt,ty,pos,af,g⟩ k s=cC P (aX P ⟨dd,.binOp .quo t x y yt,ty,pos,af,g⟩ s) dd k s:=rfl
theorem aXg {t yt:TypeId} {x y:Operand}:bO P ⟨dd,.binOp .rem t x y yt,ty,pos,af,g⟩ k s=cC P (aX P ⟨dd,.binOp .rem t x y yt,ty,pos,af,g⟩ s) dd k s:=rfl
theorem aXh {t yt:TypeId} {x y:Operand}:bO P ⟨dd,.binOp .and t x y yt,ty,pos,af,g⟩ k s=cC P (aX P ⟨dd,.binOp .and t x y yt,ty,pos,af,g⟩ s) dd k s:=rfl
theorem aXi {t yt:TypeId} {x y:Operand}:bO P ⟨dd,.binOp .or t x y yt,ty,pos,af,g⟩ k s=cC P (aX P ⟨dd,.binOp .or t x y yt,ty,pos,af,g⟩ s) dd k s:=rfl
theorem aXj {t yt:TypeId} {x y:Operand}:bO P ⟨dd,.binOp .xor t x y yt,ty,pos,af,g⟩ k s=cC P (aX P ⟨dd,.binOp .xor t x y yt,ty,pos,af,g⟩ s) dd k s:=rfl
theorem aXk {t yt:TypeId} {x y:Operand}:bO P ⟨dd,.binOp .shl t x y yt,ty,pos,af,g⟩ k s=cC P (aX P ⟨dd,.binOp .shl t x y yt,ty,pos,af,g⟩ s) dd k s:=rfl
theorem aXl {t yt:TypeId} {x y:Operand}:bO P ⟨dd,.binOp .shr t x y yt,ty,pos,af,g⟩ k s=cC P (aX P ⟨dd,.binOp .shr t x y yt,ty,pos,af,g⟩ s) dd k s:=rfl
theorem aXm {t yt:TypeId} {x y:Operand}:bO P ⟨dd,.binOp .andNot t x y yt,ty,pos,af,g⟩ k s=cC P (aX P ⟨dd,.binOp .andNot t x y yt,ty,pos,af,g⟩ s) dd k s:=rfl
theorem aXn {t yt:TypeId} {x y:Operand}:bO P ⟨dd,.binOp .eql t x y yt,ty,pos,af,g⟩ k s=wP (jR P t y (ev s.t x)) P (aX P ⟨dd,.binOp .eql t x y yt,ty,pos,af,g⟩ s) dd k s:=rfl
theorem aXo {r:Res}:wP false P r dd k s=cC P r dd k s:=rfl
theorem aXp {r:Res} {d:Nat}:wP true P r (some d) k s=(d<s.n/\nbP fun b=>k (s.put d (bl b))):=rfl
theorem aXq {t:TypeId} {y:Operand}:jR P t y none=false:=rfl
theorem aXr {t:TypeId} {y:Operand} {v:Value}:jR P t y (some (.sc v))=false:=rfl
theorem aXs {t:TypeId} {y:Operand} {v:List AV}:jR P t y (some (.agg v))=false:=rfl
theorem aXt {t:TypeId} {y:Operand} {L lo n:Nat}:jR P t y (some (.ref L lo n))=false:=rfl
theorem aXu {t:TypeId} {y:Operand} {L lo n:Nat}:jR P t y (some (.ptr L lo n))=false:=rfl
theorem aXv {t:TypeId} {y:Operand} {l:Bool} {xs:List AV} {i o:Nat}:jR P t y (some (.iptr l xs i o))=false:=rfl
theorem aXw {t:TypeId} {y:Operand} {f:FuncId} {v:List AV}:jR P t y (some (.clo f v))=false:=rfl
theorem aXx {t:TypeId} {y:Operand} {L:Nat}:jR P t y (some (.mp L))=false:=rfl
theorem aXy {t:TypeId} {y:Operand} {l f:Bool} {x:AV} {xs:List AV}:jR P t y (some (.list l f (x::xs)))=false:=rfl
theorem aXz {t:TypeId} {l f:Bool}:jR P t (.const (.slice none 0 0)) (some (.list l f []))=decide (bA P t=1):=by
 unfold jR
 rw[decide_eq_decide]
 exact⟨fun h=>h.2,fun h=>⟨rfl,h⟩⟩
theorem aX0 {t:TypeId} {i:Nat} {a:Option AV}:jR P t (.tmp i) a=false:=by
 unfold jR;split
 ·simp[lX]
 ·rfl
theorem aX1 {t yt:TypeId} {x y:Operand}:bO P ⟨dd,.binOp .lss t x y yt,ty,pos,af,g⟩ k s=cC P (aX P ⟨dd,.binOp .lss t x y yt,ty,pos,af,g⟩ s) dd k s:=rfl
theorem aX2 {t yt:TypeId} {x y:Operand}:bO P ⟨dd,.binOp .leq t x y yt,ty,pos,af,g⟩ k s=cC P (aX P ⟨dd,.binOp .leq t x y yt,ty,pos,af,g⟩ s) dd k s:=rfl
theorem aX3 {t yt:TypeId} {x y:Operand}:bO P ⟨dd,.binOp .gtr t x y yt,ty,pos,af,g⟩ k s=cC P (aX P ⟨dd,.binOp .gtr t x y yt,ty,pos,af,g⟩ s) dd k s:=rfl
theorem aX4 {t yt:TypeId} {x y:Operand}:bO P ⟨dd,.binOp .geq t x y yt,ty,pos,af,g⟩ k s=cC P (aX P ⟨dd,.binOp .geq t x y yt,ty,pos,af,g⟩ s) dd k s:=rfl
def fA (r:Option St) (k:ASt->Prop) (z:Prop):Prop:=match r with
 |some r=>r.need/\k r.st
 |none=>z
theorem aX5 {n:Bool} {st:ASt} {z:Prop}:fA (some ⟨n,st⟩) k z=(n/\k st):=rfl
theorem aX6 {z:Prop}:fA none k z=z:=rfl
def uM (v:Option AV) (d:Nat) (s:ASt):Option St:=match v with
 |some v=>some ⟨decide (d<s.n),s.put d v⟩
 |none=>none
theorem aX7 {v:AV}:uM (some v) d s=some ⟨decide (d<s.n),s.put d v⟩:=rfl
theorem aX8:uM none d s=none:=rfl
def B3 (b:Bool) (d:Nat) (s:ASt):Option St:=match b with
 |true=>some ⟨decide (d<s.n),s.put d (bl false)⟩
 |false=>none
theorem aX9:B3 true d s=some ⟨decide (d<s.n),s.put d (bl false)⟩:=rfl
theorem aYa:B3 false d s=none:=rfl
theorem aYb {a b:TypeId} {x:Operand}:bO P ⟨some d,.convert a b x,ty,pos,af,g⟩ k s=fA (uM (pX P a b s.o (ev s.t x)) d s) k (cC P (aX P ⟨some d,.convert a b x,ty,pos,af,g⟩ s) (some d) k s):=by
 simp only[bO,jQ,jP,fA,uM];cases pX P a b s.o (ev s.t x)<;>rfl
theorem aYc {t yt:TypeId} {x y:Operand}:bO P ⟨some d,.binOp .neq t x y yt,ty,pos,af,g⟩ k s=fA (B3 (nB P t (ev s.t x) (ev s.t y)) d s) k (cC P (aX P ⟨some d,.binOp .neq t x y yt,ty,pos,af,g⟩ s) (some d) k s):=by
 simp only[bO,jQ,jP,fA,B3];cases nB P t (ev s.t x) (ev s.t y)<;>rfl
theorem aYd {x y:Operand} {pt it:TypeId}:bO P ⟨some d,.call ⟨.builtin .unsafeString,#[x,y],#[pt,it]⟩,ty,pos,af,g⟩ k s=fA (wL P pt d s (ev s.t x) (ev s.t y)) k (cC P (aX P ⟨some d,.call ⟨.builtin .unsafeString,#[x,y],#[pt,it]⟩,ty,pos,af,g⟩ s) (some d) k s):=by
 simp only[bO,jQ,jP,fA];rfl
theorem aYe {x y:Operand} {t t':TypeId}:bO P ⟨none,.call ⟨.builtin .delete,#[x,y],#[t,t']⟩,ty,pos,af,g⟩ k s=fA (wN P t s (ev s.t x) (ev s.t y)) k (cC P (aX P ⟨none,.call ⟨.builtin .delete,#[x,y],#[t,t']⟩,ty,pos,af,g⟩ s) none k s):=by
 simp only[bO,jQ,jP,fA];rfl
theorem aYf {t:TypeId}:bO P ⟨some d,.makeMap t none,ty,pos,af,g⟩ k s=(decide (d<s.n)=true/\k (s.renew d d d tY (.mp d))):=rfl
theorem aYg {t:TypeId} {x y:Operand} {b:Bool}:bO P ⟨some d,.lookup t x y b,ty,pos,af,g⟩ k s=fA (wM P t b d s (ev s.t x) (ev s.t y)) k (cC P (aX P ⟨some d,.lookup t x y b,ty,pos,af,g⟩ s) (some d) k s):=by
 simp only[bO,jQ,jP,fA];rfl
theorem aYh {t:TypeId} {x y z:Operand}:bO P ⟨none,.mapUpdate t x y z,ty,pos,af,g⟩ k s=fA (uB P t s (ev s.t x) (ev s.t y) (ev s.t z)) k (cC P (aX P ⟨none,.mapUpdate t x y z,ty,pos,af,g⟩ s) none k s):=by
 simp only[bO,jQ,jP,fA];rfl
theorem aYi {t:TypeId} {b:Bool} {L:Nat} {v:Value}:wM P t b d s (some (.mp L)) (some (.sc v))=tZ P t b d v s (lk s.o L):=rfl
theorem aYj {t:TypeId} {b:Bool} {L:Nat} {cs:List AV}:wM P t b d s (some (.mp L)) (some (.agg cs))=zO P t b d L s (dV (.agg cs)):=rfl
theorem aYk {a b:Value}:dV (.agg [.sc a,.sc b])=some (.agg #[a,b]):=rfl
theorem aYl {a b c:Value}:dV (.agg [.sc a,.sc b,.sc c])=some (.agg #[a,b,c]):=rfl
theorem aYm {t:TypeId} {b:Bool} {L:Nat} {v:Value}:zO P t b d L s (some v)=tZ P t b d v s (lk s.o L):=rfl
def uN (z:Option AV) (ok:Bool) (m:Option (Option (Nat×AV))):Option AV:=match z,m with
 |some z,some none=>some (if ok=true then .tup [z,bl false]else z)
 |some _,some (some (_,v))=>some (if ok=true then .tup [v,bl true]else v)
 |_,_=>none
theorem aYn {z:AV} {ok:Bool}:uN (some z) ok (some none)=some (if ok=true then .tup [z,bl false]else z):=rfl
theorem aYo {z v:AV} {ok:Bool} {i:Nat}:uN (some z) ok (some (some (i,v)))=some (if ok=true then .tup [v,bl true]else v):=rfl
theorem aYp {t:TypeId} {b:Bool} {v:Value} {ar fz pin:Bool} {es kd:Nat} {xs:List AV}:tZ P t b d v s (some ⟨ar,fz,pin,es,xs,kd⟩)=if fK P t v=true/\kd=1/\es=0 then uM (uN (oK P t) b (eL v xs 0)) d s else none:=by
 simp only[tZ,uM]
 have e:wD P t v b xs=uN (oK P t) b (eL v xs 0):=by
  unfold wD uN
  cases oK P t with
  |none=>rfl
  |some z=>cases eL v xs 0 with
   |none=>rfl
   |some q=>cases q<;>rfl
 rw[e]
 cases uN (oK P t) b (eL v xs 0)<;>rfl
def sL (r:Option ASt):Option St:=match r with
 |some r=>some ⟨true,r⟩
 |none=>none
theorem aYq {r:ASt}:sL (some r)=some ⟨true,r⟩:=rfl
def P2 (P:Program) [Glob P] (t:TypeId) (L:Nat) (v:Value) (r:Option (ASt×AV)):Option ASt:=match r with
 |some (s1,v1)=>match lk s1.o L with
  |some x=>if fK P t v=true/\x.kd=1/\x.fz=false/\v1.pure=true/\x.es=0/\x.arr=true then match mX v v1 x.xs with
   |some ys=>if ys.length<=cL then some {s1 with o:=cB s1.o L {x with xs:=ys}} else none
   |none=>none
   else none
  |none=>none
 |none=>none
def P3 (P:Program) [Glob P] (t:TypeId) (L:Nat) (v:Value) (s1:ASt) (v1:AV) (x:Option AObj):Option ASt:=match x with
 |some x=>if fK P t v=true/\x.kd=1/\x.fz=false/\v1.pure=true/\x.es=0/\x.arr=true then match mX v v1 x.xs with
  |some ys=>if ys.length<=cL then some {s1 with o:=cB s1.o L {x with xs:=ys}} else none
  |none=>none
  else none
 |none=>none
def P4 (L:Nat) (s1:ASt) (x:AObj) (ys:Option (List AV)):Option ASt:=match ys with
 |some ys=>some {s1 with o:=cB s1.o L {x with xs:=ys}}
 |none=>none
def xD (L:Nat) (s1:ASt) (x:AObj) (ys:Option (List AV)):Option ASt:=match ys with
 |some ys=>if ys.length<=cL then some {s1 with o:=cB s1.o L {x with xs:=ys}} else none
 |none=>none
theorem aYr {t:TypeId} {L:Nat} {v:Value} {b:AV}:uB P t s (some (.mp L)) (some (.sc v)) (some b)=sL (mY P t L v b s (lk s.o L)):=by
 simp only[uB,uA,dV,lT,sL]
 cases mY P t L v b s (lk s.o L)<;>rfl
theorem aYs {t:TypeId} {L:Nat} {cs:List AV} {b:AV}:uB P t s (some (.mp L)) (some (.agg cs)) (some b)=uA P t s L b (dV (.agg cs)):=rfl
theorem aYt {t:TypeId} {L:Nat} {v:Value} {b:AV}:uA P t s L b (some v)=sL (mY P t L v b s (lk s.o L)):=by
 simp only[uA,sL]
 cases mY P t L v b s (lk s.o L)<;>rfl
theorem aYu {t:TypeId} {L:Nat} {v:Value}:wN P t s (some (.mp L)) (some (.sc v))=sL (sD P t L v s (lk s.o L)):=by
 simp only[wN,K8,dV,lT,sL]
 cases sD P t L v s (lk s.o L)<;>rfl
theorem aYv {t:TypeId} {L:Nat} {v:Value} {pin:Bool} {xs:List AV}:sD P t L v s (some ⟨true,false,pin,0,xs,1⟩)=if fK P t v=true then P4 L s ⟨true,false,pin,0,xs,1⟩ (wC v xs)else none:=by
 simp only[sD,true_and,and_true,P4]
 cases wC v xs<;>rfl
theorem aYw {L:Nat} {x:AObj} {ys:List AV}:P4 L s x (some ys)=some {s with o:=cB s.o L {x with xs:=ys}}:=rfl
theorem aYx {t:TypeId} {L:Nat} {v:Value} {b:AV} {fz pin:Bool} {es kd:Nat} {xs:List AV}:mY P t L v b s (some ⟨true,fz,pin,es,xs,kd⟩)=P2 P t L v (share s b):=by
 simp only[mY,zG,P2]
 cases share s b with
 |none=>rfl
 |some q=>rfl
theorem aYy {t:TypeId} {L:Nat} {v:Value} {b:AV} {pin:Bool} {xs:List AV}:mY P t L v b s (some ⟨false,false,pin,0,xs,1⟩)=if fK P t v=true then xD L s ⟨false,false,pin,0,xs,1⟩ (mX v b xs)else none:=by
 by_cases h:fK P t v=true
 ·simp only[mY,wE,xD,h,and_self,if_true]
  cases mX v b xs<;>rfl
 ·simp[mY,wE,h]
theorem aYz {t:TypeId} {L:Nat} {v:Value} {s1:ASt} {v1:AV}:P2 P t L v (some (s1,v1))=P3 P t L v s1 v1 (lk s1.o L):=rfl
theorem aY0 {t:TypeId} {L:Nat} {v:Value} {s1:ASt} {v1:AV} {pin:Bool} {xs:List AV}:P3 P t L v s1 v1 (some ⟨true,false,pin,0,xs,1⟩)=if fK P t v=true/\v1.pure=true then xD L s1 ⟨true,false,pin,0,xs,1⟩ (mX v v1 xs)else none:=by
 simp only[P3,xD,true_and,and_true]
theorem aY1 {L:Nat} {s1:ASt} {x:AObj} {ys:List AV}:xD L s1 x (some ys)=if ys.length<=cL then some {s1 with o:=cB s1.o L {x with xs:=ys}} else none:=rfl
theorem aY2:tY=⟨true,false,false,0,[],1⟩:=rfl
theorem aY3 {t:TypeId} {x y:Operand}:bO P ⟨some d,.makeSlice t x y,ty,pos,af,g⟩ k s=fA (rA P t d s (ev s.t x) (ev s.t y)) k (cC P (aX P ⟨some d,.makeSlice t x y,ty,pos,af,g⟩ s) (some d) k s):=by
 simp only[bO,jQ,jP,fA];rfl
def B4 (P:Program) [Glob P] (d:Nat) (s:ASt) (l c:Int) (e es b:Nat) (z:Option AV):Option St:=match z with
 |some z=>if z.pure=true/\z.cells.length=es then some ⟨decide (d<s.n/\0<=l/\l<=c/\(b:Int)*c<=281474976710656/\c<=140737488355328),s.fresh d (cN es (List.replicate l.toNat z)) (.ref d 0 l.toNat)⟩else none
 |none=>none
def P5 (P:Program) [Glob P] (d:Nat) (s:ASt) (l c:Int):Option (TypeId×Nat×Nat)->Option St
 |some (e,es,b)=>B4 P d s l c e es b (aK P e)
 |none=>none
theorem aY4 {l c:Int} {e es b:Nat}:P5 P d s l c (some (e,es,b))=B4 P d s l c e es b (aK P e):=rfl
theorem aY5 {l c:Int} {e es b:Nat} {z:AV}:B4 P d s l c e es b (some z)=if z.pure=true/\z.cells.length=es then some ⟨decide (d<s.n/\0<=l/\l<=c/\(b:Int)*c<=281474976710656/\c<=140737488355328),s.fresh d (cN es (List.replicate l.toNat z)) (.ref d 0 l.toNat)⟩else none:=rfl
theorem aY6 {t:TypeId} {kl kc:IntKind} {l c:Int}:rA P t d s (some (.sc (.int kl l))) (some (.sc (.int kc c)))=P5 P d s l c (bM P t):=by
 simp only[rA]
 cases bM P t with
 |none=>rfl
 |some q=>obtain⟨e,es,b⟩:=q;simp only[P5,B4];cases aK P e<;>rfl
theorem aY7 {x:Operand} {t:TypeId}:bO P ⟨none,.call ⟨.builtin .clear,#[x],#[t]⟩,ty,pos,af,g⟩ k s=fA (uC P t s (ev s.t x)) k (cC P (aX P ⟨none,.call ⟨.builtin .clear,#[x],#[t]⟩,ty,pos,af,g⟩ s) none k s):=by
 simp only[bO,jQ,jP,fA];rfl
def B5 (s:ASt) (L lo n es:Nat):Option AV->Option AObj->Option St
 |some z,some x=>if x.arr=true/\x.fz=false/\x.kd≠1/\z.pure=true/\z.cells.length=es then
  some ⟨decide (x.es=es/\lo+n<=x.xs.length),{s with o:=cB s.o L {x with xs:=splice x.xs (List.replicate n z) lo}}⟩else none
 |_,_=>none
def P6 (P:Program) [Glob P] (s:ASt) (L lo n:Nat):Option (TypeId×Nat×Nat)->Option St
 |some (e,es,_)=>B5 s L lo n es (aK P e) (lk s.o L)
 |none=>none
theorem aY8 {x y:Operand} {st xt:TypeId}:bO P ⟨some d,.call ⟨.builtin .append,#[x,y],#[st,xt]⟩,ty,pos,af,g⟩ k s=fA (rB P st xt d s (ev s.t x) (ev s.t y)) k (cC P (aX P ⟨some d,.call ⟨.builtin .append,#[x,y],#[st,xt]⟩,ty,pos,af,g⟩ s) (some d) k s):=by
 simp only[bO,jQ,jP,fA];rfl
theorem aY9 {t:TypeId} {x l h m:Operand}:bO P ⟨some d,.slice t x (some l) (some h) (some m),ty,pos,af,g⟩ k s=fA (zP P t d s (ev s.t x) (ev s.t l) (ev s.t h) (ev s.t m)) k (cC P (aX P ⟨some d,.slice t x (some l) (some h) (some m),ty,pos,af,g⟩ s) (some d) k s):=by
 simp only[bO,jQ,jP,fA];rfl
theorem aZa {t:TypeId} {x h m:Operand}:bO P ⟨some d,.slice t x none (some h) (some m),ty,pos,af,g⟩ k s=fA (wO P t d s (ev s.t x) (ev s.t h) (ev s.t m)) k (cC P (aX P ⟨some d,.slice t x none (some h) (some m),ty,pos,af,g⟩ s) (some d) k s):=by
 simp only[bO,jQ,jP,fA];rfl
def P7 (d:Nat) (s:ASt) (lent:Bool) (xs:List AV) (h m:Int):Option (TypeId×Nat×Nat)->Option St
 |some (_,es,_)=>some ⟨decide (d<s.n/\h=xs.length/\m=xs.length/\ ∀y∈xs,y.cells.length=es),s.put d (.list lent true xs)⟩
 |none=>none
theorem aZb {lent:Bool} {xs:List AV} {h m:Int} {e:TypeId} {es b:Nat}:P7 d s lent xs h m (some (e,es,b))=some ⟨decide (d<s.n/\h=xs.length/\m=xs.length/\ ∀y∈xs,y.cells.length=es),s.put d (.list lent true xs)⟩:=rfl
theorem aZc {t:TypeId} {lent gG:Bool} {xs:List AV} {k2 k3:IntKind} {h m:Int}:wO P t d s (some (.list lent gG xs)) (some (.sc (.int k2 h))) (some (.sc (.int k3 m)))=P7 d s lent xs h m (bM P t):=by
 simp only[wO,P7]
 cases bM P t<;>rfl
theorem aZd {st xt:TypeId} {l f:Bool} {xs:List AV} {b:Option AV}:rB P st xt d s (some (.list l f xs)) b=none:=rfl
theorem aZe {st xt:TypeId} {L lo n:Nat} {b:Option AV}:rB P st xt d s (some (.ref L lo n)) b=none:=rfl
theorem aZf {st xt:TypeId} {v:Value} {b:Option AV}:rB P st xt d s (some (.sc v)) b=none:=rfl
theorem aZg {st xt:TypeId} {L lo n c:Nat} {v:Value}:rB P st xt d s (some (.rc L lo n c)) (some (.sc v))=none:=rfl
def apC (d:Nat) (s:ASt) (L lo n c:Nat):Option (TypeId×Nat×Nat)->Bool->Option (List AV)->Option AObj->Option St
 |some (_,es,_),true,some ys,some x=>if x.arr=true/\x.fz=false/\x.kd≠1 then
  some ⟨decide (d<s.n/\(∀y∈ys,y.cells.length=es)/\x.es=es/\n+ys.length<=x.xs.length/\lo=0/\n+ys.length<=c),{s with o:=cB s.o L {x with xs:=splice x.xs ys n}}.put d (.rc L 0 (n+ys.length) c)⟩else none
 |_,_,_,_=>none
theorem aZh {st xt:TypeId} {L lo n c L' lo' n' c':Nat}:rB P st xt d s (some (.rc L lo n c)) (some (.rc L' lo' n' c'))=apC d s L lo n c (bM P st) (fJ P xt) (gV s.o (.rc L' lo' n' c')) (lk s.o L):=rfl
theorem aZi {L lo n c e es bt:Nat} {ys:List AV} {x:AObj}:apC d s L lo n c (some (e,es,bt)) true (some ys) (some x)=if x.arr=true/\x.fz=false/\x.kd≠1 then
 some ⟨decide (d<s.n/\(∀y∈ys,y.cells.length=es)/\x.es=es/\n+ys.length<=x.xs.length/\lo=0/\n+ys.length<=c),{s with o:=cB s.o L {x with xs:=splice x.xs ys n}}.put d (.rc L 0 (n+ys.length) c)⟩else none:=rfl
theorem aZj {t:TypeId} {L lo n:Nat}:uC P t s (some (.ref L lo n))=oN P t s (some (.ref L lo n)):=rfl
def P8 (n:Nat) (z:Option St):Option AObj->Option St
 |some x=>if n<=x.xs.length then z else none
 |none=>none
theorem aZk {t:TypeId} {L lo n c:Nat}:uC P t s (some (.rc L lo n c))=P8 (lo+n) (oN P t s (some (.ref L lo n))) (lk s.o L):=rfl
theorem aD3 {n:Nat} {z:Option St} {x:AObj} (h:n<=x.xs.length):P8 n z (some x)=z:=if_pos h
def s3 (d:Nat) (s:ASt) (b c:Nat) (l h m:Int):Option (TypeId×Nat×Nat)->Option St
 |some _=>some ⟨decide (d<s.n/\0<=l/\l<=h/\h<=m/\(b:Int)+m<=c),s.put d .dead⟩
 |none=>none
theorem aZl {t:TypeId} {L b n c:Nat} {k1 k2 k3:IntKind} {l h m:Int}:zP P t d s (some (.rc L b n c)) (some (.sc (.int k1 l))) (some (.sc (.int k2 h))) (some (.sc (.int k3 m)))=s3 d s b c l h m (bM P t):=rfl
theorem aZm {b c:Nat} {l h m:Int} {q:TypeId×Nat×Nat}:s3 d s b c l h m (some q)=some ⟨decide (d<s.n/\0<=l/\l<=h/\h<=m/\(b:Int)+m<=c),s.put d .dead⟩:=rfl
theorem aZn {t:TypeId} {L lo n:Nat}:oN P t s (some (.ref L lo n))=P6 P s L lo n (bM P t):=by
 simp only[oN]
 cases bM P t with
 |none=>rfl
 |some q=>obtain⟨e,es,b⟩:=q;simp only[P6,B5];cases aK P e<;>cases lk s.o L<;>rfl
theorem aZo {L lo n:Nat} {e es b:Nat}:P6 P s L lo n (some (e,es,b))=B5 s L lo n es (aK P e) (lk s.o L):=rfl
theorem aZp {L lo n es:Nat} {z:AV} {x:AObj}:B5 s L lo n es (some z) (some x)=if x.arr=true/\x.fz=false/\x.kd≠1/\z.pure=true/\z.cells.length=es then
 some ⟨decide (x.es=es/\lo+n<=x.xs.length),{s with o:=cB s.o L {x with xs:=splice x.xs (List.replicate n z) lo}}⟩else none:=rfl
theorem aZq {x y:Operand} {pt it:TypeId}:bO P ⟨some d,.call ⟨.builtin .copy,#[x,y],#[pt,it]⟩,ty,pos,af,g⟩ k s=fA (sF P pt d s (ev s.t x) (ev s.t y)) k (cC P (aX P ⟨some d,.call ⟨.builtin .copy,#[x,y],#[pt,it]⟩,ty,pos,af,g⟩ s) (some d) k s):=by
 simp only[bO,jQ,jP,fA];rfl
def B7 (d:Nat) (s:ASt) (L lo n:Nat) (es:Nat) (ys:List AV):Option AObj->Option St
 |some x=>if x.arr=true/\x.fz=false/\x.kd≠1 then
  some ⟨decide (d<s.n/\(∀y∈ys,y.cells.length=es)/\x.es=es/\ys.length<=n/\(ys≠ []\/lo=0)/\lo+n<=x.xs.length),{s with o:=cB s.o L {x with xs:=splice x.xs ys lo}}.put d (nt .i64 ys.length)⟩
  else none
 |none=>none
def P9 (d:Nat) (s:ASt) (L lo n:Nat) (t:Option (TypeId×Nat×Nat)) (r:Option (List AV)):Option St:=match t,r with
 |some (_,es,_),some ys=>B7 d s L lo n es ys (lk s.o L)
 |_,_=>none
theorem aZr {t:TypeId} {L lo n:Nat} {b:AV}:sF P t d s (some (.ref L lo n)) (some b)=P9 d s L lo n (bM P t) (gV s.o b):=by
 simp only[sF,wG,P9]
 cases bM P t with
 |none=>rfl
 |some q=>
  obtain⟨e,es,b'⟩:=q
  cases gV s.o b with
  |none=>rfl
  |some ys=>simp only;cases lk s.o L<;>rfl
theorem aZs {L lo n e es b:Nat} {ys:List AV}:P9 d s L lo n (some (e,es,b)) (some ys)=B7 d s L lo n es ys (lk s.o L):=rfl
theorem aZt {L lo n es kd:Nat} {ys xs:List AV} {pin:Bool} {e:Nat}:B7 d s L lo n es ys (some ⟨true,false,pin,e,xs,kd⟩)=if kd≠1 then
 some ⟨decide (d<s.n/\(∀y∈ys,y.cells.length=es)/\e=es/\ys.length<=n/\(ys≠ []\/lo=0)/\lo+n<=xs.length),{s with o:=cB s.o L ⟨true,false,pin,e,splice xs ys lo,kd⟩}.put d (nt .i64 ys.length)⟩else none:=by
 simp only[B7,true_and]
theorem aZu {a b:TypeId} {o:aF} {v:Value}:pX P a b o (some (.sc v))=none:=rfl
theorem aZv {a b:TypeId} {o:aF} {l f:Bool} {xs:List AV}:pX P a b o (some (.list l f xs))=none:=rfl
theorem aZw {a b:TypeId} {o:aF} {L lo n:Nat}:pX P a b o (some (.ref L lo n))=wJ P a b (iR o (.ref L lo n)):=rfl
def aD4:Option (List UInt8)->Option AV
 |some l=>some (.sc (.string ⟨l.toArray⟩))
 |none=>none
theorem aZx {l:List UInt8}:aD4 (some l)=some (.sc (.string ⟨l.toArray⟩)):=rfl
theorem aZy {a b:TypeId} {ys:List AV}:wJ P a b (some ys)=if wI P a b=true then aD4 (bytesOf ys)else none:=by
 simp only[wJ];cases bytesOf ys<;>rfl
theorem aZz:bytesOf []=some []:=rfl
theorem aZ0 {n:Int} {r:List AV}:bytesOf (.sc (.int .u8 n)::r)=if 0<=n/\n<256 then(bytesOf r).map (UInt8.ofNat n.toNat:: ·)else none:=rfl
theorem aZ1 {n:Int} {r:List AV}:bytesOf (nt .u8 n::r)=if 0<=n/\n<256 then(bytesOf r).map (UInt8.ofNat n.toNat:: ·)else none:=rfl
attribute [go_sem] wI aZx aZy aZz aZ0 aZ1
theorem aZ2 {a b:TypeId} {o:aF} {cs:List AV}:pX P a b o (some (.agg cs))=none:=rfl
theorem aZ3 {a b:TypeId} {o:aF} {L:Nat}:pX P a b o (some (.ptr L 0 0))=wH P a b L (lk o L):=rfl
theorem aZ4 {a b:TypeId} {L:Nat} {fz pin:Bool} {es e:Nat} {xs:List AV}:wH P a b L (some ⟨false,fz,pin,es+1,xs,e+2⟩)=if K5 P a b e (es+1)=true then some (.ptr L 0 0)else none:=by
 simp[wH]
theorem aZ5 {t:TypeId} {v:Value} {y:Option AV}:nB P t (some (.sc v)) y=false:=rfl
theorem aZ6 {t:TypeId} {l f:Bool} {xs:List AV} {y:Option AV}:nB P t (some (.list l f xs)) y=false:=rfl
theorem aZ7 {t:TypeId} {cs:List AV} {y:Option AV}:nB P t (some (.agg cs)) y=false:=rfl
theorem aZ8 {t:TypeId} {L lo n:Nat} {y:Option AV}:nB P t (some (.ref L lo n)) y=false:=rfl
theorem aZ9 {t:TypeId} {f:FuncId} {cs:List AV} {y:Option AV}:nB P t (some (.clo f cs)) y=false:=rfl
theorem bAa {t:TypeId} {l:Bool} {xs:List AV} {i o:Nat} {y:Option AV}:nB P t (some (.iptr l xs i o)) y=false:=rfl
theorem bAb {t:TypeId} {L i o:Nat} {v:Value}:nB P t (some (.ptr L i o)) (some (.sc v))=false:=rfl
theorem bAc {t:TypeId} {L i o L' i' o':Nat}:nB P t (some (.ptr L i o)) (some (.ptr L' i' o'))=(decide (L=L'/\i=i'/\o=o')&&K6 P t):=rfl
theorem bAd {pt:TypeId} {v:Value} {y:Option AV}:wL P pt d s (some (.sc v)) y=none:=rfl
theorem bAe {pt:TypeId} {L:Nat} {m:Int}:wL P pt d s (some (.ptr L 0 0)) (some (.sc (.int .i64 m)))=wK P pt L d m s (lk s.o L):=rfl
theorem bAf {st xt:TypeId} {l f:Bool} {xs:List AV} {b:AV}:oI P st xt (.list l f xs) b d s=pT P st xt (.list l f xs) b d s:=rfl
theorem bAg {st xt:TypeId} {L lo n:Nat} {b:AV}:oI P st xt (.ref L lo n) b d s=pT P st xt (.ref L lo n) b d s:=rfl
attribute [go_sem] aXo aXp aXq aXr aXs aXt aXu aXv aXw aXx aXy aXz aX0
attribute [go_sem] aZa aZb aZc aY9 aZd aZe aZf aZg aZh aZi aZj aZk aD3 aZl aZm
attribute [go_sem] aWm aWn aWo aWp aWq aWr aWs aWt aWu aWv aWw aWx aWy aWz aW0 aW1 aW2 aW3 aYf aW4 aYi aYj aYk aYl aYm aYs aYt aYu aYv aYw aYx aYy aYn aYo aYp aYq aYr aYz aY0 aY1 aY2 aY3 aY4 aY5 aY6 aW5 aYg aYh aW6 aW7 aY8 aW8 aW9 aXa aZq aZr aZs aZt aXb aY7 aZn aZo aZp aYe aXc aXd aXe aXf aXg aXh aXi aXj aXk aXl aXm aXn aX1 aX2 aX3 aX4 aX5 aX6 aX7 aX8 aX9 aYa aYb aYc aYd aZu aZv aZw aZ2 aZ3 aZ4 aZ5 aZ6 aZ7 aZ8 aZ9 bAa bAb bAc bAd bAe bAf bAg
end asteps
end
end Go.Ab
namespace Go.Ab
open Go.RowKit
mutual
def AV.okIn (o:aF):AV->Bool
 | .agg cs=>AV.okInL o cs
 | .tup cs=>AV.okInL o cs
 | .clo _ cs=>AV.okInL o cs
 | .ref L _ _=>(lk o L).isSome
 | .ptr L _ _=>(lk o L).isSome
 | .aref L _ _ _ _=>(lk o L).isSome
 | .mp L=>(lk o L).isSome
 | .yl L=>(lk o L).isSome
 | .rc L _ _ _=>(lk o L).isSome
 |_=>true
def AV.okInL (o:aF):List AV->Bool
 | []=>true
 |a::r=>a.okIn o&&AV.okInL o r
end
mutual
theorem aD5 {o:aF} {L:Nat}: ∀{a:AV},a.okIn o=true->a.has L=true->(lk o L).isSome=true
 | .agg cs,h,hh=>by simp only[AV.okIn]at h;simp only[AV.has]at hh;exact xE h hh
 | .tup cs,h,hh=>by simp only[AV.okIn]at h;simp only[AV.has]at hh;exact xE h hh
 | .clo g cs,h,hh=>by simp only[AV.okIn]at h;simp only[AV.has]at hh;exact xE h hh
 | .ref L' _ _,h,hh=>by simp[AV.has]at hh;subst hh;simpa[AV.okIn]using h
 | .ptr L' _ _,h,hh=>by simp[AV.has]at hh;subst hh;simpa[AV.okIn]using h
 | .aref L' _ _ _ _,h,hh=>by simp[AV.has]at hh;subst hh;simpa[AV.okIn]using h
 | .mp L',h,hh=>by simp[AV.has]at hh;subst hh;simpa[AV.okIn]using h
 | .yl L',h,hh=>by simp[AV.has]at hh;subst hh;simpa[AV.okIn]using h
 | .rc L' _ _ _,h,hh=>by simp[AV.has]at hh;subst hh;simpa[AV.okIn]using h
 | .lh _,_,hh=>by simp[AV.has]at hh
 | .sc _,_,hh=>by simp[AV.has]at hh
 | .list _ _ _,_,hh=>by simp[AV.has]at hh
 | .iptr _ _ _ _,_,hh=>by simp[AV.has]at hh
 | .own _ _,_,hh=>by simp[AV.has]at hh
 | .dead,_,hh=>by simp[AV.has]at hh
theorem xE {o:aF} {L:Nat}: ∀{cs:List AV},AV.okInL o cs=true->AV.hasL L cs=true->(lk o L).isSome=true
 | [],_,hh=>by simp[AV.hasL]at hh
 |c::cs,h,hh=>by
  simp only[AV.okInL,Bool.and_eq_true]at h
  simp only[AV.hasL,Bool.or_eq_true]at hh
  rcases hh with hh|hh
  ·exact aD5 h.1 hh
  ·exact xE h.2 hh
end
theorem oU {α:Type}: ∀{l:List (Nat×α)} {i:Nat} {a:α},lk l i=some a->(i,a)∈l
 | [],i,a,h=>by simp[lk]at h
 |(k,b)::l,i,a,h=>by
  simp only[lk]at h
  by_cases hk:k=i
  ·subst hk;rw[if_pos rfl]at h;obtain rfl:=Option.some.inj h;simp
  ·rw[if_neg hk]at h;simp[oU h]
def sM (o:aF) (x:AObj):Bool:=x.arr||AV.okInL o x.xs
theorem Le.sub {s0 s:ASt} (hn:s0.n=s.n) (ht: ∀p∈s0.t,lk s.t p.1=some p.2) (ho: ∀p∈s0.o,lk s.o p.1=some p.2) (hr: ∀p∈s0.t,p.2.okIn s0.o=true) (hb: ∀p∈s0.o,sM s0.o p.2=true):Le s0 s:=by
 intro C F μ a w hs
 have hlo: ∀L x,lk s0.o L=some x->lk s.o L=some x:=fun L x hx=>ho _ (oU hx)
 have hloc: ∀L,(lk s0.o L).isSome=true->aE s0.o μ L=aE s.o μ L:=fun L hL=>by
  obtain⟨x,hx⟩:=Option.isSome_iff_exists.1 hL
  simp[aE,hx,hlo L x hx]
 refine⟨F,μ,⟨hs.sw.facts,hs.sw.sub,hs.sw.lentc,hs.sw.grow,hs.sw.newf,hs.sw.fr,fun L x hx=>?_,fun L x L' x' b c c' hx hx'=>hs.sw.dist L x L' x' b c c' (hlo L x hx) (hlo L' x' hx'),
  fun L x b c hx=>hs.sw.excl L x b c (hlo L x hx),fun L x b c hx=>hs.sw.mine L x b c (hlo L x hx),fun L x x0 h0 hx=>hs.sw.keep L x x0 h0 (hlo L x hx)⟩,hs.defers,by rw[hn];exact hs.n,fun i x hx=>?_⟩
 ·have:=hs.sw.obj L x (hlo L x hx)
  cases hm:μ L with
  |none=>rw[hm]at this;exact this
  |some p=>
   obtain⟨b,cap⟩:=p
   rw[hm]at this
   cases harr:x.arr with
   |true=>
    rcases this with⟨c,e,q1,q2,q3,q4,q5,q6,q7⟩|this|⟨_,k2,_⟩
    rotate_left
    ·exact .inr (.inl this)
    ·rw[harr]at k2;cases k2
    refine .inl ⟨c,e,q1,q2,q3,q4,q5,fun i y j a hy hj=>?_,q7⟩
    obtain⟨v,g1,g2,g3,g4⟩:=q6 i y j a hy hj
    rw[harr]at g3
    exact⟨v,g1,g2,by rw[harr];exact g3,g4⟩
   |false=>
    refine this.congr rfl (FLe.refl _) fun L' hL'=>hloc L' ?_
    have:=hb _ (oU hx)
    simp[sM,harr]at this
    exact xE this hL'
 ·have hx':=ht _ (oU hx)
  exact(hs.slot i x hx').congr (FLe.refl _) fun L hL=>hloc L (aD5 (hr _ (oU hx)) hL)
theorem Le.nil {s:ASt} {i T es:Nat} {l:Bool} (h:lk s.t i=some (.list l true [])):Le {n:=s.n,t:=(i,.ref T 0 0)::fI T (fI T s.t),o:=(T,cN es [])::killO T (killO T (eJ s.o T))} s:=by
 intro C F μ a w hs
 have h1:=hs.renew0 (L:=T) (T:=T) (x:=cN es []) (p:=none) rfl rfl rfl (Fr.refl _ _) (by rfl) (fun b c hbc=>by cases hbc)
 refine⟨F,bN μ T none,h1.sw,h1.defers,h1.n,fun j x hx=>?_⟩
 simp only[lk]at hx
 by_cases hij:i=j
 ·subst hij
  rw[if_pos rfl]at hx
  obtain rfl:=Option.some.inj hx
  have hv:=hs.slot i _ h
  generalize a.tmps.getD i undef=v at hv
  have hl:aE ((T,cN es [])::killO T (killO T (eJ s.o T))) (bN μ T none) T=some ⟨none,es,0,false⟩:=by simp[aE,lk,bN,cN,bU]
  cases hv with
  |nil=>exact .refNil hl
  |list g1 g2 g3 g4=>
   have:=g4 rfl
   simp at this
   subst this
   exact .refNil hl
 ·rw[if_neg hij]at hx
  exact h1.slot j x hx
theorem Le.move {s:ASt} {i T T' lo n:Nat} {x:AObj} (h:lk s.t i=some (.ref T lo n)) (hk:x.kd≠1) (hx:lk s.o T=some x) (ha:x.arr=true) (hz:x.fz=false):
 Le {n:=s.n,t:=(i,.ref T' lo n)::fI T (fI T' s.t),o:=(T',{x with pin:=false})::killO T (killO T' (eJ s.o T))} s:=by
 intro C F μ a w hs
 have ho:=hs.sw.obj T x hx
 have h1:=hs.renew0 (L:=T) (T:=T') (x:= {x with pin:=false}) (p:=μ T) hz rfl ha (Fr.refl _ _) (by
  cases hm:μ T with
  |none=>rw[hm]at ho;exact ho
  |some q=>
   obtain⟨b,cap⟩:=q
   rw[hm]at ho
   obtain⟨c,e,q1,q2,q3,q4,q5,q6,q7⟩:=ObjAt.std ho hk
   refine .inl ⟨c,e,q1,q2,q3,q4,q5,fun i y j a hy hj=>?_,q7⟩
   obtain⟨v,g1,g2,g3,g4⟩:=q6 i y j a hy hj
   rw[ha]at g3
   exact⟨v,g1,g2,by show RV (oF x.arr F) (oL x.arr bQ) a v;rw[ha];exact g3,g4⟩) (fun b c hbc=> .inr ⟨x,c,hx,hz,hbc⟩)
 refine⟨F,bN μ T' (μ T),h1.sw,h1.defers,h1.n,fun j y hy=>?_⟩
 simp only[lk]at hy
 by_cases hij:i=j
 ·subst hij
  rw[if_pos rfl]at hy
  obtain rfl:=Option.some.inj hy
  have hv:=hs.slot i _ h
  generalize a.tmps.getD i undef=v at hv
  have hl0:aE s.o μ T=some ⟨μ T,x.es,x.xs.length,false⟩:=by simp[aE,hx,kX hk]
  have hl:aE ((T',{x with pin:=false})::killO T (killO T' (eJ s.o T))) (bN μ T' (μ T)) T'=some ⟨μ T,x.es,x.xs.length,false⟩:=by simp[aE,lk,bN,bU,hk]
  rcases aC1 hv hl0 with⟨hm,rfl,rfl,q,rfl⟩|⟨b,cap,o,c,hm,rfl,g1,g2,g3,g4⟩
  ·simp only at hm
   exact .refNil (hl.trans (by rw[hm]))
  ·simp only at hm
   exact .ref (hl.trans (by rw[hm])) g1 g2 g3 g4
 ·rw[if_neg hij]at hy
  exact h1.slot j y hy
theorem AWp.bound {P c Q} [Glob P] {s:ASt} {i:Nat} {l f:Bool} {xs:List AV} (h:lk s.t i=some (.list l f xs)) (k:xs.length<=cL->AWp none P c Q s):AWp none P c Q s:=by
 intro C _ F μ a w hm hs
 refine k ?_ C F μ a w hm hs
 have hv:=hs.slot i _ h
 generalize a.tmps.getD i undef=v at hv
 cases hv with
 |nil=>simp
 |list g1 g2 g3=>exact g3
theorem ACall.bound {P f} [Glob P] {args:List AV} {R:AV->Prop} {i:Nat} {l fl:Bool} {xs:List AV} (h:args[i]?=some (.list l fl xs)) (hc: ∀cargs w,(callFunc f cargs).run P w= .ok (.enter f cargs) w) (k:xs.length<=cL->ACall P f args R):ACall P f args R:=by
 refine⟨hc,fun w F cargs h0 h1 h2 h3=>?_⟩
 have hi:i<cargs.size:=by rw[<-h2];exact(List.getElem?_eq_some_iff.1 h).1
 refine(k ?_).2 w F cargs h0 h1 h2 h3
 have hv:=h3 i _ cargs[i] h (by simp[hi])
 generalize cargs[i]=v at hv
 cases hv with
 |nil=>simp
 |list g1 g2 g3=>exact g3
theorem bAh {o:aF} {v:Value}:(AV.sc v).okIn o=true:=rfl
theorem bAi {o:aF} {l f:Bool} {xs:List AV}:(AV.list l f xs).okIn o=true:=rfl
theorem bAj {o:aF} {l:Bool} {xs:List AV} {i k:Nat}:(AV.iptr l xs i k).okIn o=true:=rfl
theorem bAk {o:aF}:AV.dead.okIn o=true:=rfl
theorem bAl {o:aF} {L a b:Nat}:(AV.ref L a b).okIn o=(lk o L).isSome:=rfl
theorem bAm {o:aF} {L a b:Nat}:(AV.ptr L a b).okIn o=(lk o L).isSome:=rfl
theorem bAn {o:aF} {L:Nat}:(AV.mp L).okIn o=(lk o L).isSome:=rfl
theorem bAo {o:aF} {cs:List AV}:(AV.agg cs).okIn o=AV.okInL o cs:=by simp[AV.okIn]
theorem bAp {o:aF} {cs:List AV}:(AV.tup cs).okIn o=AV.okInL o cs:=by simp[AV.okIn]
theorem bAq {o:aF} {g:FuncId} {cs:List AV}:(AV.clo g cs).okIn o=AV.okInL o cs:=by simp[AV.okIn]
theorem bAr {o:aF}:AV.okInL o []=true:=rfl
theorem bAs {o:aF} {a:AV} {r:List AV}:AV.okInL o (a::r)=(a.okIn o&&AV.okInL o r):=by simp[AV.okInL]
theorem bAt {o:aF} {fz pin:Bool} {es kd:Nat} {xs:List AV}:sM o ⟨true,fz,pin,es,xs,kd⟩=true:=rfl
theorem bAu {o:aF} {fz pin:Bool} {es kd:Nat} {xs:List AV}:sM o ⟨false,fz,pin,es,xs,kd⟩=AV.okInL o xs:=rfl
attribute [go_sem] bAh bAi bAj bAk bAl bAm bAo bAn bAp bAq bAr bAs bAt bAu Option.isSome_some
theorem uO {P:Program} [Glob P] {b:Code} {Q:Exit->ASt->Prop} {s:ASt} (I:Nat->ASt->Prop) (n:Nat) (s0:ASt) (hle:Le s0 s) (h0:I n s0) (hr: ∀n s,I n s->cE P b (nC (Again I n) Q) s):cE P (.loop b) Q s:=⟨I,⟨n,s0,hle,h0⟩,hr⟩
theorem Again.mk {I:Nat->ASt->Prop} {n:Nat} {s:ASt} (n':Nat) (s0:ASt) (hn:n'<n) (hle:Le s0 s) (h:I n' s0):Again I n s:=⟨n',s0,hn,hle,h⟩
end Go.Ab
namespace Go.Ab
open Go.RowKit
theorem AWp.post {ro P c} [Glob P] {Q Q':Exit->ASt->Prop} {s:ASt} (h:AWp ro P c Q s) (hq: ∀e s,Q e s-> ∃s0,Le s0 s/\Q' e s0):AWp ro P c Q' s:=fun C _ F μ a w hm hs=>
 wpIn_mono (h C F μ a w hm hs) fun e a' w' ⟨F',μ',s',h1,hm',h2⟩=>by
  obtain⟨s0,h3,h4⟩:=hq e s' h1
  obtain⟨F2,μ2,h5⟩:=h3 _ F' μ' a' w' h2
  exact⟨F2,μ2,s0,h4,hm',h5⟩
theorem AWp.seq {ro P x y} [Glob P] {Q:Exit->ASt->Prop} {s:ASt} (h:AWp ro P x (nC (AWp ro P y Q) Q) s):AWp ro P (.seq x y) Q s:=fun C _ F μ a w hm hs=>by
 refine wpIn_seq (wpIn_mono (h C F μ a w hm hs) ?_)
 rintro e a' w' ⟨F',μ',s',hq,hm',hs'⟩
 cases e with
 |normal=>exact hq C F' μ' a' w' hm' hs'
 |_=>exact⟨F',μ',s',hq,hm',hs'⟩
theorem AWp.cond {ro P c x y} [Glob P] {Q:Exit->ASt->Prop} {s:ASt} {b:Bool} (hb:ev s.t c=some (.sc (.bool b))) (h:AWp ro P (if b=true then x else y) Q s):AWp ro P (.cond c x y) Q s:=fun C _ F μ a w hm hs=>by
 have hrv:=cX hs c _ hb
 generalize hv:a.eval c=v at hrv
 cases hrv
 cases b with
 |true=>exact wpIn_cond_true hv (h C F μ a w hm hs)
 |false=>exact wpIn_cond_false hv (h C F μ a w hm hs)
theorem AWp.block {ro P id b} [Glob P] {Q:Exit->ASt->Prop} {s:ASt} (h:AWp ro P b (rH id Q) s):AWp ro P (.block id b) Q s:=fun C _ F μ a w hm hs=>by
 refine wpIn_block (wpIn_mono (h C F μ a w hm hs) ?_)
 rintro e a' w' ⟨F',μ',s',hq,hm',hs'⟩
 cases e with
 |exit id'=>
  simp only[Exit.inBlock]
  simp only[rH]at hq
  split
  ·rename_i hid;rw[if_pos hid]at hq;exact⟨F',μ',s',hq,hm',hs'⟩
  ·rename_i hid;rw[if_neg hid]at hq;exact⟨F',μ',s',hq,hm',hs'⟩
 |_=>exact⟨F',μ',s',hq,hm',hs'⟩
theorem AWp.loop {ro P b} [Glob P] {Q:Exit->ASt->Prop} (I:Nat->ASt->Prop) {n:Nat} {s:ASt} (h0:I n s) (hr: ∀n s,I n s->AWp ro P b (nC (fun s=> ∃n',n'<n/\I n' s) Q) s):AWp ro P (.loop b) Q s:=fun C _ F μ a w hm hs=>by
 refine aCz (fun n a w=> ∃F μ s,I n s/\Mk C w a.defers/\SR (C.at a.defers) F μ s a w) n ⟨F,μ,s,h0,hm,hs⟩ ?_
 rintro n a w ⟨F,μ,s,hI,hm,hs⟩
 refine wpIn_mono (hr n s hI C F μ a w hm hs) ?_
 rintro e a' w' ⟨F',μ',s',hq,hm',hs'⟩
 cases e with
 |normal=>
  obtain⟨n',hlt,hI'⟩:=hq
  exact⟨n',hlt,F',μ',s',hI',hm',hs'⟩
 |_=>exact⟨F',μ',s',hq,hm',hs'⟩
def dd {α:Type}:List (Nat×α)->List (Nat×α)
 | []=> []
 |p::r=>p::(dd r).filter fun q=> !(q.1==p.1)
def aD6 (s:ASt):ASt:=if s.t.length<=2*s.n+16 then s else{n:=s.n,t:=dd s.t,o:=dd s.o}
def aD7 (P:Program) [Glob P] (g:FuncId):Bool:=match P.funcs[g]? with
 |some fn=> !(fn.name== "runtime.NumGoroutine")&&fn.body.isSome
 |none=>false
def aD8 (P:Program) [Glob P] (call:FuncId->List AV->Nat->ASt->Option ASt) (o:Oper) (s:ASt):Option ASt:=
 match jQ P o s with
 |some _=>none
 |none=>match jP P o s with
 |some r=>if r.need=true then some r.st else none
 |none=>match aX P o s,o.dst with
 | .v r,some d=>if(r.need&&decide (d<s.n))=true then some (s.put d r.val)else none
 | .h r,_=>if r.need=true then some r.st else none
 | .c g as,some d=>if d<s.n then call g as d s else none
 |_,_=>none
def rJ (P:Program) [Glob P] (call:FuncId->List AV->Nat->ASt->Option ASt) (ops:Array Oper):List Oper->ASt->Option ASt
 | [],s=>some s
 |o::r,s=>match fL ops o.guard s with
  | .run=>match aD8 P call o s with
   |some s1=>rJ P call ops r s1
   |none=>none
  | .test b want=>match b==want with
   |true=>match aD8 P call o s with
    |some s1=>rJ P call ops r s1
    |none=>none
   |false=>match o.dst with
    |some d=>if d<s.n then rJ P call ops r (s.put d (.tup []))else none
    |none=>rJ P call ops r s
  | .skip=>match o.dst with
   |some d=>if d<s.n then rJ P call ops r (s.put d (.tup []))else none
   |none=>rJ P call ops r s
  | .bad=>none
def aD9 (P:Program) [Glob P]:List Oper->ASt->Option ASt
 | [],s=>some s
 |o::r,s=>match o.op,o.dst with
  | .alloc t,some d=>match aK P t with
   |some z=>if(z.plain&&decide (d<s.n))=true then aD9 P r ((s.adopt d (gU z)).put d (.ptr d 0 0))else none
   |none=>none
  |_,_=>none
def aEa (P:Program) [Glob P] (call:FuncId->List AV->Option AV) (o:Oper) (s:ASt):Option ASt:=
 match eV o with
 |true=>match o.dst with
  |some d=>if d<s.n then some (s.put d .dead)else none
  |none=>none
 |false=>match aX P o s,o.dst with
 | .v r,some d=>if(r.need&&decide (d<s.n))=true then some (s.put d r.val)else none
 | .c g as,some d=>if d<s.n then match iS s.o as with
  |some bs=>match call g bs with
   |some v=>if wV v=true then some (s.put d v)else none
   |none=>none
  |none=>none
  else none
 |_,_=>none
def xF (P:Program) [Glob P] (call:FuncId->List AV->Nat->ASt->Option ASt) (pcall:FuncId->List AV->Option AV) (ops:Array Oper):Nat->List Oper->ASt->Option ASt
 |0,l,s=>match aD9 P ((ops.toList.take (ops.size - l.length)).filter eV) s with
  |some s1=>rJ P call ops l s1
  |none=>none
 |_+1,[],s=>none
 |m+1,o::r,s=>match fL ops o.guard s with
  | .run=>match aEa P pcall o s with
   |some s1=>xF P call pcall ops m r s1
   |none=>none
  | .test b want=>match b==want with
   |true=>match aEa P pcall o s with
    |some s1=>xF P call pcall ops m r s1
    |none=>none
   |false=>match o.dst with
    |some d=>if d<s.n then xF P call pcall ops m r (s.put d (.tup []))else none
    |none=>none
  | .skip=>match o.dst with
   |some d=>if d<s.n then xF P call pcall ops m r (s.put d (.tup []))else none
   |none=>none
  | .bad=>none
def Q0 (ops:Array Oper):Nat->Nat
 |0=>0
 |m+1=>if kM ops m=true then Q0 ops m else m+1
def xG (o:aF):Nat:=o.foldl (fun m p=>max m p.1) 0
def B8:List AV->List Nat
 | []=> []
 | .ref L _ _::r=>L::B8 r
 |_::r=>B8 r
structure Orc where
 p:FuncId->Option (List AV->Option AV)
 m:FuncId->Option (List AV->aF->Option (AV×aF))
 e:FuncId->Bool:=fun _=>false
 u:FuncId->Bool:=fun _=>false
def bAv (P:Program) [Glob P] (ih:Code->ASt->Option (Exit×ASt)) (g:FuncId) (as:List AV) (d:Nat) (s:ASt):Option ASt:=
 match P.funcs[g]? with
 |some fn=>match fn.body with
  |some c=>match aD7 P g&&decide (as.length<=fn.ntmps)&&mA (max s.n (xG s.o+1)) s.o with
   |true=>match ih c (nE fn.ntmps (as.map (AV.ren (· +fn.ntmps))) (pU fn.ntmps s.o))with
    |some (.normal,s')=>match fM P s' fn.results.toList with
     |some xs=>some (qY fn.ntmps (max s.n (xG s.o+1)) s d (gZ xs) s'.o)
     |none=>none
    |some (.ret,s')=>match fM P s' fn.results.toList with
     |some xs=>some (qY fn.ntmps (max s.n (xG s.o+1)) s d (gZ xs) s'.o)
     |none=>none
    |_=>none
   |false=>none
  |none=>none
 |none=>none
def aEb (P:Program) [Glob P] (O:Orc) (ih:Code->ASt->Option (Exit×ASt)) (g:FuncId) (bs:List AV):Option AV:=
 match O.p g with
 |some f=>f bs
 |none=>match P.funcs[g]? with
 |some fn=>match fn.body with
  |some c=>match aD7 P g&&decide (bs.length<=fn.ntmps)with
   |true=>match ih c (entry fn.ntmps bs)with
    |some (.normal,s')=>oS P fn.results.toList (B8 ((fM P s' fn.results.toList).getD [])) s'
    |some (.ret,s')=>oS P fn.results.toList (B8 ((fM P s' fn.results.toList).getD [])) s'
    |_=>none
   |false=>none
  |none=>none
 |none=>none
def aEc (P:Program) [Glob P] (O:Orc) (ih:Code->ASt->Option (Exit×ASt)) (g:FuncId) (as:List AV) (d:Nat) (s:ASt):Option ASt:=
 match O.p g with
 |some f=>match iS s.o as with
  |some bs=>match f bs with
   |some v=>some (mT s d v)
   |none=>none
  |none=>none
 |none=>match O.u g with
 |true=>match iS s.o as with
  |some bs=>match aEb P O ih g bs with
   |some v=>some (mT s d v)
   |none=>none
  |none=>none
 |false=>match O.m g with
  |some f=>match mA (max s.n (xG s.o+1)) s.o with
   |true=>match f (as.map (AV.ren (· +64))) (pU 64 s.o)with
    |some (r,o')=>some (qY 64 (max s.n (xG s.o+1)) s d r o')
    |none=>none
   |false=>none
  |none=>match O.e g with
   |true=>match as with
    | [a]=>some (s.put d a)
    |_=>none
   |false=>bAv P ih g as d s
def bAw (P:Program) [Glob P] (O:Orc) (ih:Code->ASt->Option (Exit×ASt)) (c:Code) (s:ASt):Option (Exit×ASt):=
 match c with
 | .skip=>some (.normal,s)
 | .region _ ops draw=>match draw with
  |false=>match rJ P (aEc P O ih) ops ops.toList s with
   |some s'=>some (.normal,aD6 s')
   |none=>none
  |true=>match P.follows .mixedOrders with
   |true=>match kM ops (Q0 ops ops.size)with
    |true=>match xF P (aEc P O ih) (aEb P O ih) ops (Q0 ops ops.size) ops.toList s with
     |some s'=>some (.normal,aD6 s')
     |none=>none
    |false=>none
   |false=>none
 | .seq a b=>match ih a s with
  |some (.normal,s1)=>ih b s1
  |r=>r
 | .cond c x y=>match ev s.t c with
  |some (.sc (.bool b))=>ih (if b=true then x else y) s
  |_=>none
 | .block id b=>match ih b s with
  |some (.exit id',s1)=>if id'=id then some (.normal,s1)else some (.exit id',s1)
  |r=>r
 | .loop b=>match ih b s with
  |some (.normal,s1)=>ih (.loop b) s1
  |r=>r
 | .exit id=>some (.exit id,s)
 | .ret=>some (.ret,s)
 |_=>none
def ax (P:Program) [Glob P] (O:Orc):Nat->Code->ASt->Option (Exit×ASt)
 |0=>fun _ _=>none
 |k+1=>bAw P O (ax P O k)
end Go.Ab
namespace Go.Ab
open Go.RowKit Go.ChangeShapes Go.WideShapes
section
variable {H : Type} {enc : TypeId × Value -> H} {P : Program} [Glob P] {T : TypeId -> Prop}
theorem bAx {W W':World} {base:Nat} {sp':Nat->Bool} (K:Kids P T) (hz: ∀t e,T t->P.underlying t=some (.slice e)->0<P.cellsOf e) {t:TypeId} (hT:T t) {v:Value} {d:DataW H} {ps:List MemPlace}
 (h:DataW.Trod enc P W base (fun _=>true) true t v d ps) (hsame: ∀p∈ps,W.sameAt W' p) (hs: ∀p∈ps,sp' p.block=true):DataW.Trod enc P W' base sp' true t v d ps:=by
 obtain⟨n,hn⟩:=h
 exact⟨n,DataW.trod_stays K (fun {t e}=>hz t e) (fun h=>by cases h) hT hn hsame hs⟩
theorem aEd {W W':World} {base:Nat} {sp':Nat->Bool} (K:Kids P T) (hz: ∀t e,T t->P.underlying t=some (.slice e)->0<P.cellsOf e):
 ∀{ts:List TypeId} {vs:List Value} {ds:List (DataW H)} {ps:List MemPlace},(∀t∈ts,T t)->DataW.TrodAll enc P W base (fun _=>true) true ts vs ds ps->(∀p∈ps,W.sameAt W' p)->(∀p∈ps,sp' p.block=true)->
  DataW.TrodAll enc P W' base sp' true ts vs ds ps
 | [],[],[],_,_,h,_,_=>h
 |_::_,_::_,_::_,_,hT,⟨p,q,h1,h2,e⟩,hm,hs=>⟨p,q,bAx K hz (hT _ (List.mem_cons.2 (Or.inl rfl))) h1 (fun x hx=>hm x (by rw[e];exact List.mem_append_left _ hx)) (fun x hx=>hs x (by rw[e];exact List.mem_append_left _ hx)),
  aEd K hz (fun t ht=>hT t (List.mem_cons.2 (Or.inr ht))) h2 (fun x hx=>hm x (by rw[e];exact List.mem_append_right _ hx)) (fun x hx=>hs x (by rw[e];exact List.mem_append_right _ hx)),e⟩
theorem bAy {W W':World} (hfr:Fr (fun _=>False) W W') (may:MemPlace->Prop):W.keptBut W' may:=by
 refine⟨hfr.os,hfr.output,fun i hi=>?_⟩
 rw[hfr.block i hi (fun h=>h)]
 split
 ·rename_i h1 h2
  rw[h1]at h2
  cases h2
  exact⟨rfl,rfl,rfl,fun _ _=>rfl⟩
 ·rename_i h1 h2
  rw[h1]at h2
  cases h2
  exact .inr ⟨rfl,rfl⟩
 ·rfl
theorem bAz {W W':World} (hfr:Fr (fun _=>False) W W') {p:MemPlace} (hp:p.block<W.heap.size):W.sameAt W' p:=by
 cases p with
 |cell b off=>exact pL (hfr.block b hp (fun h=>h))
 |map b=>exact hfr.block b hp (fun h=>h)
theorem bN8 (K:Kids P T) (hz: ∀t e,T t->P.underlying t=some (.slice e)->0<P.cellsOf e) {f:Func} {s:ChangeSpec} {apart fresh handsOn again:Bool} {W W':World} {args:Array Value} {ds gs:List (DataW H)} {before:List MemPlace} {bt:TypeId}
 (hT: ∀t∈f.params.toList,T t) (hrt:f.resultTypes= #[bt]) (hbt:P.underlying bt=some .bool) (hvars:s.vars= []) (hW:DataW.Whole enc P f.params.toList s.vars apart W args.toList ds gs before)
 (hfn:s.fn H ds= {results:= [.lit (.bool true)],args:=ds}) (hfr:Fr (fun _=>False) W W'):s.post enc P f apart fresh handsOn again W args (.bool true) W':=by
 have hW':=hW
 obtain⟨p,q,hA,hV,rfl,hzf,hn⟩:=hW
 rw[hvars]at hV
 obtain⟨rfl,rfl⟩:=trodVars_none hV
 have hlt: ∀x∈p,x.block<W.heap.size:=DataW.TrodAll.lt hA
 have hargs: ∀sp:Nat->Bool,(∀x∈p,sp x.block=true)->DataW.TrodAll enc P W' 0 sp true f.params.toList args.toList ds p:=fun sp hs=>
  aEd K hz hT hA (fun x hx=>bAz hfr (hlt x hx)) hs
 have hres: ∀(b:Nat) (sp:Nat->Bool) (hd:Bool),DataW.TrodAll enc P W' b sp hd f.resultTypes.toList ((Value.bool true).resultList f.resultTypes.size) [.lit (.bool true)] []:=fun b sp hd=>by
  rw[hrt]
  exact trodAll_cons_mk (shut_bool hbt _) trodAll_mk0
 have hvs: ∀sp:Nat->Bool,DataW.TrodVars enc P W' sp s.vars ([]:List (DataW H)) []:=fun sp=>by rw[hvars];rfl
 simp only[List.append_nil]at hW' hzf hn
 refine⟨ds,[],p,[],p,[],hW',?_,?_,?_,bAy hfr _,fun _=>⟨?_,?_⟩⟩
 ·simp only[List.append_nil,hfn];exact hres _ _ _
 ·simp only[List.append_nil,hfn];exact hargs _ (fun x hx=>by simpa using hlt x hx)
 ·simp only[List.append_nil,hfn];exact hvs _
 ·exact ok_one hrt rfl (okWide_bool_mk hbt _)
 ·refine⟨_,[],[]++p,⟨[]++p,[],trodAll_append (hargs _ (fun _ _=>rfl)) (hres 0 _ _),hvs _,by simp,fun b off hp=>?_,fun ha=>?_⟩,fun x hx _=>by simpa using hx⟩
  ·have hb:b<W.heap.size:=hlt (.cell b off) (by simpa using hp)
   have:W'.frozen? ⟨b,off,none⟩=W.frozen? ⟨b,off,none⟩:=by simp only[World.frozen?,hfr.block b hb (fun h=>h)]
   rw[this]
   exact hzf b off (by simpa using hp)
  ·simpa using hn ha
end
end Go.Ab
namespace Go.Ab
open Go.RowKit
structure Hide (K T:ASt->Prop):Prop where
 to: ∀s,T s->K s
theorem Hide.go {P:Program} [Glob P] {Q:Exit->ASt->Prop} {K:ASt->Prop} {c:Code} {s:ASt} (h:Hide K (cE P c Q)) (k:cE P c Q s):K s:=h.to s k
theorem jF {P:Program} [Glob P] {a b:Code} {Q:Exit->ASt->Prop} {s:ASt} (h: ∀K,Hide K (cE P b Q)->cE P a (nC K Q) s):cE P (.seq a b) Q s:=h (M9 (cE P b Q)) ⟨fun s k=>⟨s,Le.refl s,k⟩⟩
theorem aEe {P:Program} [Glob P] {a b:Code} {Q:Exit->ASt->Prop} {s:ASt} (s1:ASt) (h: ∀K,(∀s',Le s1 s'->K s')->cE P a (nC K Q) s) (hb:cE P b Q s1):cE P (.seq a b) Q s:=h (M9 (cE P b Q)) (fun _ hl=>⟨s1,hl,hb⟩)
theorem rK {P:Program} [Glob P] {id:Nat} {ops:Array Oper} {b:Code} {Q:Exit->ASt->Prop} {s:ASt} (h:False):cE P (.seq (.region id ops true) b) Q s:=h.elim
def bt (s:ByteArray) (i:Nat):Int:=((s.data.toList.getD i 0).toNat:Int)
theorem aEf (s:ByteArray) (i:Nat):0<=bt s i/\bt s i<=255:=by
 have:=(s.data.toList.getD i 0).toNat_lt
 unfold bt;omega
theorem bA0 {P:Program} [Glob P] {t:TypeId} {s:ByteArray} {k:IntKind} {i:Int}:tO P t (.sc (.string s)) (.sc (.int k i))=if kZ P t=true then some ⟨decide (0<=i/\i<s.size),nt .u8 (bt s i.toNat)⟩else none:=aR6
attribute [go_sem] bA0
theorem bA1 (a b:Int):(if b>a then b else a)=max a b:=by
 rw[Int.max_def];split<;>split<;>omega
theorem bA2 (a b:Int):(if b<a then b else a)=min a b:=by
 rw[Int.min_def];split<;>split<;>omega
theorem bA3 {P:Program} [Glob P] {d:Option Nat} {x y:Operand} {ts:Array TypeId} {ty:TypeId} {pos:String} {af g} {ρ:Operand->Option AV} {k k':IntKind} {a b:Int}
 (hx:ρ x=some (.sc (.int k a))) (hy:ρ y=some (.sc (.int k' b))):eQ P ⟨d,.call ⟨.builtin .max,#[x,y],ts⟩,ty,pos,af,g⟩ ρ=some ⟨true,.sc (.int k (max a b))⟩:=by
 unfold eQ
 rw[if_pos ⟨rfl,by simp[Op.operands,Call.operands,hx,hy,dV,lT]⟩]
 have e:pP P (execOp (fun z=>nP ((ρ z).bind dV)) ⟨d,.call ⟨.builtin .max,#[x,y],ts⟩,ty,pos,af,g⟩)=some (.value (.int k (if b>a then b else a))):=by
  simp only[execOp,resolve,Array.map,hx,hy]
  simp[hx,hy,dV,lT,nP]
  rfl
 rw[e,bA1]
 rfl
theorem bA4 {P:Program} [Glob P] {d:Option Nat} {x y:Operand} {ts:Array TypeId} {ty:TypeId} {pos:String} {af g} {ρ:Operand->Option AV} {k k':IntKind} {a b:Int}
 (hx:ρ x=some (.sc (.int k a))) (hy:ρ y=some (.sc (.int k' b))):eQ P ⟨d,.call ⟨.builtin .min,#[x,y],ts⟩,ty,pos,af,g⟩ ρ=some ⟨true,.sc (.int k (min a b))⟩:=by
 unfold eQ
 rw[if_pos ⟨rfl,by simp[Op.operands,Call.operands,hx,hy,dV,lT]⟩]
 have e:pP P (execOp (fun z=>nP ((ρ z).bind dV)) ⟨d,.call ⟨.builtin .min,#[x,y],ts⟩,ty,pos,af,g⟩)=some (.value (.int k (if b<a then b else a))):=by
  simp only[execOp,resolve,Array.map,hx,hy]
  simp[hx,hy,dV,lT,nP]
  rfl
 rw[e,bA2]
 rfl
def xH (f:Int->Int->Int) (z:Option Sv):Option AV->Option AV->Option Sv
 |some (.sc (.int k a)),some (.sc (.int _ b))=>some ⟨true,.sc (.int k (f a b))⟩
 |_,_=>z
theorem bA5 {f:Int->Int->Int} {z:Option Sv} {k k':IntKind} {a b:Int}:xH f z (some (.sc (.int k a))) (some (.sc (.int k' b)))=some ⟨true,.sc (.int k (f a b))⟩:=rfl
theorem aEg {f:Int->Int->Int} {z:Option Sv} {x y:Option AV} (h: ∀k k' a b,x=some (.sc (.int k a))->y=some (.sc (.int k' b))->z=some ⟨true,.sc (.int k (f a b))⟩):z=xH f z x y:=by
 unfold xH
 split
 ·exact h _ _ _ _ rfl rfl
 ·rfl
theorem bA6 {P:Program} [Glob P] {d:Nat} {x y:Operand} {ts:Array TypeId} {ty:TypeId} {pos:String} {af g} {s:ASt}:aX P ⟨some d,.call ⟨.builtin .max,#[x,y],ts⟩,ty,pos,af,g⟩ s=
 dG (xH max (eQ P ⟨some d,.call ⟨.builtin .max,#[x,y],ts⟩,ty,pos,af,g⟩ (cF P s.t)) (cF P s.t x) (cF P s.t y)):=
 aPo.trans (congrArg dG (aEg fun k k' a b hx hy=>bA3 hx hy))
theorem bA7 {P:Program} [Glob P] {d:Nat} {x y:Operand} {ts:Array TypeId} {ty:TypeId} {pos:String} {af g} {s:ASt}:aX P ⟨some d,.call ⟨.builtin .min,#[x,y],ts⟩,ty,pos,af,g⟩ s=
 dG (xH min (eQ P ⟨some d,.call ⟨.builtin .min,#[x,y],ts⟩,ty,pos,af,g⟩ (cF P s.t)) (cF P s.t x) (cF P s.t y)):=
 aPn.trans (congrArg dG (aEg fun k k' a b hx hy=>bA4 hx hy))
attribute [go_sem] bA6 bA7 bA5
theorem eS (a b:ByteArray):(a==b)=decide (a=b):=by
 rw[Bool.eq_iff_iff,decide_eq_true_eq]
 constructor
 ·intro h
  obtain⟨a⟩:=a;obtain⟨b⟩:=b
  have h':(a==b)=true:=h
  rw[eq_of_beq h']
 ·rintro rfl
  obtain⟨a⟩:=a
  show(a==a)=true
  simp
def jU (P:Program) [Glob P] (e:TypeId):Option Nat:=(dB P e).map fun v=>v.cells.size
def Q1 (q:Option Nat) (kk es bytes:Nat) (ys xs:List AV) (d:Nat) (s:ASt):Option St:=match q with
 |some n=>some ⟨decide (d<s.n/\n=es/\(∀y∈ys,y.cells.length=es)/\(∀y∈xs,y.cells.length=es)/\bytes≠0/\(2*(xs.length+ys.length)+200)*bytes<=2^48/\(xs= []\/ys≠ [])),s.renew d d d (gL es (xs++ys) kk) (.ref d 0 (xs++ys).length)⟩
 |none=>none
theorem bA8 {n kk es bytes d:Nat} {ys xs:List AV} {s:ASt}:Q1 (some n) kk es bytes ys xs d s=some ⟨decide (d<s.n/\n=es/\(∀y∈ys,y.cells.length=es)/\(∀y∈xs,y.cells.length=es)/\bytes≠0/\(2*(xs.length+ys.length)+200)*bytes<=2^48/\(xs= []\/ys≠ [])),s.renew d d d (gL es (xs++ys) kk) (.ref d 0 (xs++ys).length)⟩:=rfl
theorem bA9 {P:Program} [Glob P] {e:TypeId} {es bytes:Nat} {ys xs:List AV} {l:Bool} {d:Nat} {s:ASt}:
 uJ (some (e,es,bytes)) true (some ys) (dB P) (dK P) (.list l true xs) d s=Q1 (jU P e) (dK P e) es bytes ys xs d s:=by
 simp only[uJ,Q1,jU]
 cases dB P e with
 |none=>rfl
 |some v=>simp
def Q2 (q:Option Nat) (x:Option AObj) (L n es bytes kk d:Nat) (ys:List AV) (s:ASt):Option St:=match q with
 |some z=>match x with
  |some x=>if x.arr=true/\x.fz=false then some ⟨decide (d<s.n/\z=es/\(∀y∈ys,y.cells.length=es)/\x.es=es/\bytes≠0/\(2*(n+ys.length)+200)*bytes<=2^48/\n<=x.xs.length),
   s.renew L (if x.pin=true then d else L) d (gL es (bY x.xs 0 n++ys) (if x.kd=kk then kk else 0)) (.ref (if x.pin=true then d else L) 0 (n+ys.length))⟩else none
  |none=>none
 |none=>none
theorem bBa {z:Nat} {kd kk:Nat} {L n es es' bytes d:Nat} {xs ys:List AV} {pin:Bool} {s:ASt}:Q2 (some z) (some ⟨true,false,pin,es',xs,kd⟩) L n es bytes kk d ys s=some ⟨decide (d<s.n/\z=es/\(∀y∈ys,y.cells.length=es)/\es'=es/\bytes≠0/\(2*(n+ys.length)+200)*bytes<=2^48/\n<=xs.length),
 s.renew L (if pin=true then d else L) d (gL es (bY xs 0 n++ys) (if kd=kk then kk else 0)) (.ref (if pin=true then d else L) 0 (n+ys.length))⟩:=rfl
theorem bBb {P:Program} [Glob P] {e:TypeId} {es bytes:Nat} {ys:List AV} {L n d:Nat} {s:ASt}:
 uJ (some (e,es,bytes)) true (some ys) (dB P) (dK P) (.ref L 0 n) d s=Q2 (jU P e) (lk s.o L) L n es bytes (dK P e) d ys s:=by
 simp only[uJ,Q2,jU]
 cases dB P e with
 |none=>rfl
 |some v=>
  cases lk s.o L with
  |none=>rfl
  |some x=>simp
theorem bBc (c:UInt8):(gJ c).cells= [gJ c]:=rfl
attribute [go_sem] bA8 bA9 bBa bBb bBc List.forall_mem_map
section
variable {P : Program} [Glob P] {Q : Exit -> ASt -> Prop} {s : ASt} {k : ASt -> Prop}
theorem zqd {p:Prop} [Decidable p] {x y:Code} (h1:p->cE P x Q s) (h2: ¬p->cE P y Q s):nW P (some (.sc (.bool (decide p)))) x y Q s:=aMu h1 h2
theorem zqn {p:Prop} [Decidable p] {x y:Code} (h1: ¬p->cE P x Q s) (h2:p->cE P y Q s):nW P (some (.sc (.bool (!decide p)))) x y Q s:=aMv h1 h2
theorem zgd {p:Prop} [Decidable p] {want:Bool} {o:Oper} (h1:p->gK P (.test true want) o k s) (h2: ¬p->gK P (.test false want) o k s):gK P (.test (decide p) want) o k s:=aM7 h1 h2
theorem zgn {p:Prop} [Decidable p] {want:Bool} {o:Oper} (h1: ¬p->gK P (.test true want) o k s) (h2:p->gK P (.test false want) o k s):gK P (.test (!decide p) want) o k s:=aM8 h1 h2
theorem zdd {p:Prop} [Decidable p] {want:Bool} {o:Oper} (h1:p->eR P (.test true want) o k s) (h2: ¬p->eR P (.test false want) o k s):eR P (.test (decide p) want) o k s:=aNo h1 h2
theorem zdn {p:Prop} [Decidable p] {want:Bool} {o:Oper} (h1: ¬p->eR P (.test true want) o k s) (h2:p->eR P (.test false want) o k s):eR P (.test (!decide p) want) o k s:=aNp h1 h2
theorem zqs {b:Bool} {x y:Code} (h1:b=true->cE P x Q s) (h2:b=false->cE P y Q s):nW P (some (.sc (.bool b))) x y Q s:=aMt h1 h2
theorem zgs {b want:Bool} {o:Oper} (h1:b=true->gK P (.test true want) o k s) (h2:b=false->gK P (.test false want) o k s):gK P (.test b want) o k s:=N3 h1 h2
end
theorem Le.sub4 {s0 s:ASt} (hn:s0.n=s.n) (h:(∀p∈s0.t,lk s.t p.1=some p.2)/\(∀p∈s0.o,lk s.o p.1=some p.2)/\(∀p∈s0.t,p.2.okIn s0.o=true)/\(∀p∈s0.o,sM s0.o p.2=true)):Le s0 s:=Le.sub hn h.1 h.2.1 h.2.2.1 h.2.2.2
end Go.Ab
namespace Go.Ab
open Go.RowKit Go.ChangeShapes Go.WideShapes
theorem bN9 {P:Program} [Glob P] {f:FuncId} {as:List AV} (h:ACall P f as (fun r=>r=bl true)) {W:World} {F:Bool->aY} {cargs:Array Value} (hg:GlF P F) (hF:Fok F W) (hl:as.length=cargs.size)
 (ha: ∀(i:Nat) (a:AV) (v:Value),as[i]?=some a->cargs[i]?=some v->RV F bQ a v):Calls P f cargs W fun e W'=>e= .returned (.bool true)/\Fr (fun _=>False) W W':=
 (h.2 W F cargs hg hF hl ha).mono fun e W' ⟨v,r,F',he,hr,hp,hv⟩=>by
  subst hr
  obtain⟨p,hv⟩:=(show ∃p,ResV1 F' W' W.heap.size p v (bl true)from hv)
  obtain⟨_,hv⟩:=(show AV.pure (bl true)=true/\RV F' bQ (bl true) v from hv)
  cases hv
  exact⟨he,hp.fr⟩
def noF:Bool->aY:=fun _ _ _=>none
theorem bBd (w:World):Fok noF w:=⟨fun _ _ _ _ h=>(by cases h),fun _ _ _ h=>(by cases h)⟩
end Go.Ab
namespace Go.Ab
open Go.RowKit
def wF (w:World):Bool->aY:=fun _ b k=>w.cell? ⟨b,k,none⟩
theorem bOa (w:World):Fok (wF w) w:=⟨fun _ _ _ _ h=>h,fun _ _ _ h=>h⟩
def CellsR (w:World) (cs:List AV) (vs:List Value):Prop:=cs.length=vs.length/\ ∀(j:Nat) (a:AV) (v:Value),cs[j]?=some a->vs[j]?=some v->RV (wF w) bQ a v/\one v=true
theorem CellsR.nil {w:World}:CellsR w [] []:=⟨rfl,fun j a v h=>by simp at h⟩
theorem CellsR.one1 {w:World} {a:AV} {v:Value} (h:RV (wF w) bQ a v) (ho:one v=true):CellsR w [a] [v]:=⟨rfl,fun j b u hb hu=>by
 cases j with
 |zero=>simp at hb hu;subst hb;subst hu;exact⟨h,ho⟩
 |succ j=>simp at hb⟩
theorem CellsR.append {w:World} {cs cs':List AV} {vs vs':List Value} (h:CellsR w cs vs) (h':CellsR w cs' vs'):CellsR w (cs++cs') (vs++vs'):=by
 refine⟨by simp[h.1,h'.1],fun j a v ha hv=>?_⟩
 by_cases hj:j<cs.length
 ·rw[List.getElem?_append_left hj]at ha
  rw[List.getElem?_append_left (by rw[<-h.1];exact hj)]at hv
  exact h.2 j a v ha hv
 ·rw[List.getElem?_append_right (by omega)]at ha
  rw[List.getElem?_append_right (by rw[<-h.1];omega),<-h.1]at hv
  exact h'.2 _ a v ha hv
section
variable {H : Type} {enc : TypeId × Value -> H} {P : Program} [Glob P] {w : World}
def Came (enc:TypeId×Value->H) (P:Program) [Glob P] (w:World) {α:Type} (n:Nat) (t:TypeId) (en:α->AV) (ok:α->Prop):Prop:=
 ∀cs d ps,DataW.trod enc P w 0 (fun _=>true) true n t cs=some (d,ps)->(∀m∈d.weights P t,m<=reachBytes)-> ∃x,ok x/\CellsR w (en x).cells cs
theorem Came.zero {α:Type} {t:TypeId} {en:α->AV} {ok:α->Prop}:Came enc P w 0 t en ok:=fun cs d ps h=>by simp[DataW.trod]at h
theorem Came.bool {n:Nat} {t:TypeId} (hu:P.underlying t=some .bool):Came enc P w n t (fun b:Bool=> .sc (.bool b)) (fun _=>True):=by
 intro cs d ps h hw
 cases n with
 |zero=>simp[DataW.trod]at h
 |succ n=>
  rw[DataW.trod_step]at h
  unfold DataW.trodStep at h
  rw[hu]at h
  split at h<;>first|(rename_i b _ _;exact⟨_,trivial,CellsR.one1 (.sc rfl) rfl⟩)|simp_all
theorem Came.int {n:Nat} {t:TypeId} {k:IntKind} (hu:P.underlying t=some (.int k)):Came enc P w n t (fun i:Int=> .sc (.int k i)) (fun i=>k.min<=i/\i<=k.max):=by
 intro cs d ps h hw
 cases n with
 |zero=>simp[DataW.trod]at h
 |succ n=>
  rw[DataW.trod_step]at h
  unfold DataW.trodStep at h
  rw[hu]at h
  split at h
  case h_2 k0 k' m hk=>
   obtain rfl:k=k0:=by simpa using hk
   split at h
   ·rename_i hc
    obtain⟨rfl,hc⟩:=hc
    exact⟨m,by simpa[Lit.wf]using hc,CellsR.one1 (.sc rfl) rfl⟩
   ·cases h
  all_goals simp_all
def I64 (i:Int):Prop:= -9223372036854775808<=i/\i<=9223372036854775807
theorem I64.of {i:Int} (h:IntKind.i64.min<=i/\i<=IntKind.i64.max):I64 i:=by
 have e1:IntKind.i64.min= -9223372036854775808:=by decide+kernel
 have e2:IntKind.i64.max=9223372036854775807:=by decide+kernel
 rw[e1,e2]at h;exact h
theorem Came.i64 {n:Nat} {t:TypeId} (hu:P.underlying t=some (.int .i64)):Came enc P w n t (fun i:Int=>nt .i64 i) I64:=by
 intro cs d ps h hw
 obtain⟨x,a,b⟩:=Came.int hu cs d ps h hw
 exact⟨x,I64.of a,b⟩
theorem Came.string {n:Nat} {t:TypeId} (hu:P.underlying t=some .string):Came enc P w n t (fun s:ByteArray=> .sc (.string s)) (fun s=>s.size<=reachBytes):=by
 intro cs d ps h hw
 cases n with
 |zero=>simp[DataW.trod]at h
 |succ n=>
  rw[DataW.trod_step]at h
  unfold DataW.trodStep at h
  rw[hu]at h
  split at h
  case h_4 s hk=>
   split at h
   ·obtain⟨rfl,rfl⟩:=Prod.mk.inj (Option.some.inj h)
    exact⟨s,by have:=hw s.data.toList.length (by simp only[DataW.weights,List.mem_singleton]);rw[Array.length_toList]at this;exact this,CellsR.one1 (.sc rfl) rfl⟩
   ·cases h
  all_goals simp_all
theorem Q3 {e:TypeId}: ∀{ds:List (DataW H)} {d:DataW H},d∈ds-> ∀m∈d.weights P e,m∈DataW.weightsAll P e ds
 | [],_,h,_,_=>by simp at h
 |d0::ds,d,h,m,hm=>by
  simp only[DataW.weightsAll,List.mem_append]
  rcases List.mem_cons.1 h with rfl|h
  ·exact .inl hm
  ·exact .inr (Q3 h m hm)
theorem Came.slice {n:Nat} {t e:TypeId} {α:Type} {en:α->AV} {ok:α->Prop} (hu:P.underlying t=some (.slice e)) (hes:0<P.cellsOf e) (hb:0<P.bytesOf e) (h1:Came enc P w n e en ok):
 Came enc P w (n+1) t (fun l:List α=> .list false false (l.map en)) (fun l=>(∀x∈l,ok x)/\l.length*P.bytesOf e<=reachBytes):=by
 intro cs d ps h hw
 rw[DataW.trod_step]at h
 unfold DataW.trodStep at h
 rw[hu]at h
 split at h
 case h_7=>
  exact⟨[],⟨by simp,by simp⟩,CellsR.one1 .nil rfl⟩
 case h_8 e' a len cap hk=>
  obtain rfl:e=e':=by simpa using hk
  simp only at h
  split at h
  ·rename_i hc
   obtain⟨hc1,hc2,hc3⟩:=hc
   simp only[if_true,Option.map_eq_some_iff,Option.bind_eq_some_iff]at h
   obtain⟨elems,he,rest,hrest,hd⟩:=h
   obtain⟨rfl,rfl⟩:=Prod.mk.inj hd
   have hlen:elems.length=len:=by simpa using mapM_some_length he
   have hrl:rest.length=cap - len:=by simpa using mapM_some_length hrest
   have hel: ∀i,i<len-> ∃x:α,ok x/\ ∃vs:List Value,CellsR w (en x).cells vs/\vs.length=P.cellsOf e/\ ∀j,j<P.cellsOf e->w.cell? ((a.add (i*P.cellsOf e)).add j)=vs[j]?:=by
    intro i hi
    have hy:=mapM_some_get he i i (by simp[hi])
    have hlt:i<elems.length:=by omega
    rw[List.getElem?_eq_getElem hlt]at hy
    simp only[Option.bind_eq_some_iff]at hy
    obtain⟨vs,hv1,hv2⟩:=hy
    obtain⟨_,c2,c3⟩:=World.cells?_some hv1
    obtain⟨x,hx1,hx2⟩:=h1 vs elems[i].1 elems[i].2 hv2 (fun m hm=>hw m (by
     simp only[DataW.weights,hu,List.mem_cons,List.mem_append]
     exact .inr (.inl (Q3 (List.mem_map.2 ⟨_,List.getElem_mem hlt,rfl⟩) m hm))))
    exact⟨x,hx1,vs,hx2,c2,c3⟩
   have hwt:(len+(cap - len))*P.bytesOf e<=reachBytes:=by
    have:=hw ((elems.length+rest.length)*P.bytesOf e) (by simp[DataW.weights,hu])
    rw[hlen,hrl]at this;exact this
   have hwl:len*P.bytesOf e<=reachBytes:=Nat.le_trans (Nat.mul_le_mul_right _ (by omega)) hwt
   have hch: ∃l:List α,l.length=len/\ ∀(i:Nat) (x:α),l[i]?=some x->ok x/\ ∃vs:List Value,CellsR w (en x).cells vs/\vs.length=P.cellsOf e/\ ∀j,j<P.cellsOf e->w.cell? ((a.add (i*P.cellsOf e)).add j)=vs[j]?:=by
    clear he hrest hw hd hwt hwl hc2 hlen hrl
    induction len with
    |zero=>exact⟨[],rfl,fun i x hx=>by simp at hx⟩
    |succ m ih=>
     obtain⟨l,g1,g2⟩:=ih (fun i hi=>hel i (by omega))
     obtain⟨x,hx⟩:=hel m (by omega)
     refine⟨l++ [x],by simp[g1],fun i y hy=>?_⟩
     by_cases hi:i<l.length
     ·rw[List.getElem?_append_left hi]at hy;exact g2 i y hy
     ·rw[List.getElem?_append_right (by omega)]at hy
      cases hq:i - l.length with
      |zero=>
       rw[hq]at hy;simp at hy;subst hy
       obtain rfl:i=m:=by omega
       exact hx
      |succ q=>rw[hq]at hy;simp at hy
   obtain⟨l,g1,g2⟩:=hch
   refine⟨l,⟨fun x hx=>?_,by rw[g1];exact hwl⟩,CellsR.one1 ?_ rfl⟩
   ·obtain⟨i,hi⟩:=List.getElem?_of_mem hx
    exact(g2 i x hi).1
   ·by_cases hcap:cap=0
    ·subst hcap
     have hl0:len=0:=by omega
     subst hl0
     obtain rfl:l= []:=List.eq_nil_of_length_eq_zero g1
     exact .nil
    ·have hsp:a.spot=none:=by
      by_cases hl0:len=0
      ·have hr0:0<rest.length:=by omega
       have hy:=mapM_some_get hrest 0 0 (by rw[List.getElem?_range (by omega)])
       rw[List.getElem?_eq_getElem hr0]at hy
       simp only[Option.bind_eq_some_iff]at hy
       obtain⟨vs,hv1,hv2⟩:=hy
       obtain⟨_,c2,c3⟩:=World.cells?_some hv1
       have c0:=c3 0 hes
       rw[List.getElem?_eq_getElem (by omega)]at c0
       simpa[Addr.add,hl0]using World.cell?_spot c0
      ·have h0:0<l.length:=by omega
       obtain⟨_,vs,c1,c2,c3⟩:=g2 0 l[0] (by simp[h0])
       have c0:=c3 0 hes
       rw[List.getElem?_eq_getElem (by omega)]at c0
       simpa[Addr.add]using World.cell?_spot c0
     obtain⟨b,off,spot⟩:=a
     simp only at hsp
     subst hsp
     have hadd: ∀k,(Addr.mk b off none).add k=⟨b,off+k,none⟩:=fun k=>by
      unfold Addr.add;split
      ·rename_i hk;subst hk;rfl
      ·rfl
     have hadd2: ∀k j,((Addr.mk b off none).add k).add j=⟨b,off+k+j,none⟩:=fun k j=>by
      rw[hadd];unfold Addr.add;split
      ·rename_i hk;subst hk;rfl
      ·rfl
     simp only[hadd2]at g2
     have key:= @RV.list (wF w) bQ false false (l.map en) b off off cap (P.cellsOf e) (fun i j=>(w.cell? ⟨b,off+i*P.cellsOf e+j,none⟩).getD .nilIface)
      (fun y hy=>by
       obtain⟨x,hx,rfl⟩:=List.mem_map.1 hy
       obtain⟨i,hi⟩:=List.getElem?_of_mem hx
       obtain⟨_,vs,c1,c2,c3⟩:=g2 i x hi
       rw[c1.1,c2])
      (by rw[List.length_map,g1];exact hc2)
      (by
       rw[List.length_map,g1]
       have:len<=len*P.bytesOf e:=Nat.le_mul_of_pos_right _ hb
       have h47:=reachBytes_lt
       unfold cL;omega)
      (fun hf=>by cases hf) (fun _=>rfl)
      (fun i y j c hy hj=>by
       simp only[List.getElem?_map,Option.map_eq_some_iff]at hy
       obtain⟨x,hx,rfl⟩:=hy
       obtain⟨_,vs,c1,c2,c3⟩:=g2 i x hx
       have hjl:j<P.cellsOf e:=by rw[<-c2,<-c1.1];exact(List.getElem?_eq_some_iff.1 hj).1
       show w.cell? _=_
       rw[c3 j hjl,List.getElem?_eq_getElem (by omega)];rfl)
      (fun i y j c hy hj=>by
       simp only[List.getElem?_map,Option.map_eq_some_iff]at hy
       obtain⟨x,hx,rfl⟩:=hy
       obtain⟨_,vs,c1,c2,c3⟩:=g2 i x hx
       have hjl:j<P.cellsOf e:=by rw[<-c2,<-c1.1];exact(List.getElem?_eq_some_iff.1 hj).1
       have hv:vs[j]?=some vs[j]:=List.getElem?_eq_getElem (by omega)
       rw[c3 j hjl,hv]
       exact(c1.2 j c vs[j] hj hv).1)
      (fun i y j c hy hj=>by
       simp only[List.getElem?_map,Option.map_eq_some_iff]at hy
       obtain⟨x,hx,rfl⟩:=hy
       obtain⟨_,vs,c1,c2,c3⟩:=g2 i x hx
       have hjl:j<P.cellsOf e:=by rw[<-c2,<-c1.1];exact(List.getElem?_eq_some_iff.1 hj).1
       have hv:vs[j]?=some vs[j]:=List.getElem?_eq_getElem (by omega)
       rw[c3 j hjl,hv]
       exact(c1.2 j c vs[j] hj hv).2)
     rw[List.length_map,g1]at key
     exact key
  ·cases h
 all_goals simp_all
def CameF (enc:TypeId×Value->H) (P:Program) [Glob P] (w:World) {α:Type} (n N:Nat) (fs:List Field) (off:Nat) (en:α->List AV) (ok:α->Prop):Prop:=
 ∀(cs:List Value) (xs:List (DataW H×List MemPlace)),cs.length=N->fs.mapM (fun f=>DataW.trod enc P w 0 (fun _=>true) true n f.type ((cs.drop f.offset).take (P.cellsOf f.type)))=some xs->(∀m∈DataW.weightsEach P (fs.map (·.type)) (xs.map (·.1)),m<=reachBytes)->
  ∃x,ok x/\CellsR w (en x) (cs.drop off)
theorem CameF.nil {n N:Nat}:CameF enc P w n N [] N (fun _:Unit=> []) (fun _=>True):=by
 intro cs xs hN h hw
 refine⟨(),trivial,?_⟩
 rw[List.drop_of_length_le (by omega)]
 exact CellsR.nil
theorem CameF.cons {n N off:Nat} (k:Nat) {f:Field} {fs:List Field} {α β:Type} {en:α->AV} {ok:α->Prop} {enr:β->List AV} {okr:β->Prop} (ho:f.offset=off) (hk:P.cellsOf f.type=k)
 (h1:Came enc P w n f.type en ok) (h2:CameF enc P w n N fs (off+k) enr okr):CameF enc P w n N (f::fs) off (fun x:α×β=>(en x.1).cells++enr x.2) (fun x=>ok x.1/\okr x.2):=by
 intro cs xs hN h hw
 subst ho;subst hk
 simp only[List.mapM_cons]at h
 cases hy:DataW.trod enc P w 0 (fun _=>true) true n f.type ((cs.drop f.offset).take (P.cellsOf f.type))with
 |none=>simp[hy]at h
 |some y=>
  cases hz:fs.mapM (fun f=>DataW.trod enc P w 0 (fun _=>true) true n f.type ((cs.drop f.offset).take (P.cellsOf f.type)))with
  |none=>simp[hy,hz]at h
  |some ys=>
   simp[hy,hz]at h
   subst h
   simp only[List.map_cons,DataW.weightsEach,List.mem_append]at hw
   obtain⟨x,a1,a2⟩:=h1 _ y.1 y.2 hy (fun m hm=>hw m (.inl hm))
   obtain⟨z,b1,b2⟩:=h2 cs ys hN hz (fun m hm=>hw m (.inr hm))
   refine⟨(x,z),⟨a1,b1⟩,?_⟩
   have e:cs.drop f.offset=(cs.drop f.offset).take (P.cellsOf f.type)++cs.drop (f.offset+P.cellsOf f.type):=by
    rw[<-List.drop_drop,List.take_append_drop]
   rw[e]
   exact a2.append b2
theorem Came.struct {n N:Nat} {t:TypeId} {fs:Array Field} {l:List Field} {α:Type} {en:α->List AV} {ok:α->Prop} (hu:P.underlying t=some (.struct fs)) (hl:fs.toList=l) (hN:P.cellsOf t=N)
 (h1:CameF enc P w n N l 0 en ok):Came enc P w (n+1) t (fun x:α=> .agg (en x)) ok:=by
 intro cs d ps h hw
 rw[DataW.trod_step]at h
 unfold DataW.trodStep at h
 rw[hu]at h
 split at h
 case h_9 cs0 fs' hk=>
  obtain rfl:fs=fs':=by simpa using hk
  split at h
  ·rename_i hc
   simp only[Option.map_eq_some_iff]at h
   obtain⟨xs,hx,hd⟩:=h
   obtain⟨rfl,rfl⟩:=Prod.mk.inj hd
   rw[hl]at hx
   obtain⟨x,a1,a2⟩:=h1 _ xs (by omega) hx (fun m hm=>hw m (by simpa[DataW.weights,hu,hl]using hm))
   exact⟨x,a1,by rw[List.drop_zero]at a2;exact a2⟩
  ·cases h
 all_goals simp_all
theorem Came.map {n:Nat} {t:TypeId} {α β:Type} {en:α->AV} {ok:α->Prop} {en':β->AV} {ok':β->Prop} (h:Came enc P w n t en ok) (g:α->β) (hg: ∀x,ok x->ok' (g x)/\en' (g x)=en x):Came enc P w n t en' ok':=by
 intro cs d ps h1 h2
 obtain⟨x,a1,a2⟩:=h cs d ps h1 h2
 obtain⟨b1,b2⟩:=hg x a1
 exact⟨g x,b1,by rw[b2];exact a2⟩
theorem Came.arg {t:TypeId} {α:Type} {en:α->AV} {ok:α->Prop} {base:Nat} {v:Value} {d:DataW H} {ps:List MemPlace} (h: ∀n,Came enc P w n t en ok) (ht:DataW.Trod enc P w 0 (fun _=>true) true t v d ps)
 (hv:Value.okWide P w .any base t v) (hw: ∀m∈d.weights P t,m<=reachBytes) (hag: ∀x cs,en x= .agg cs->lS P t=true) (hna:lS P t=true-> ∀x,∃cs,en x= .agg cs): ∃x,ok x/\RV (wF w) bQ (en x) v:=by
 obtain⟨n,ht⟩:=ht
 obtain⟨x,a1,a2,a3⟩:=h n _ d ps ht hw
 refine⟨x,a1,?_⟩
 unfold Value.okWide at hv
 by_cases hA:lS P t=true
 ·obtain⟨cs,hcs⟩:=hna hA x
  rw[hcs]at a2 a3 ⊢
  have: ∃vs:Array Value,v= .agg vs:=by
   unfold lS at hA
   split at hA<;>split at hv<;>simp_all<;>(obtain⟨vs,rfl,_⟩:=hv;exact⟨vs,rfl⟩)
  obtain⟨vs,rfl⟩:=this
  refine .agg (by simpa[AV.cells,Value.cells]using a2) (fun i a v ha hv=>(a3 i a v (by simpa[AV.cells]using ha) (by simpa[Value.cells]using hv)).1) (fun i v hv=>?_)
  have hl:cs.length=vs.size:=by simpa[AV.cells,Value.cells]using a2
  have hi:i<cs.length:=by rw[hl];exact(Array.getElem?_eq_some_iff.1 hv).1
  exact(a3 i cs[i] v (by simp[AV.cells,hi]) (by simpa[Value.cells]using hv)).2
 ·have hc:(en x).cells= [en x]:=by
   cases he:en x with
   |agg cs=>exact absurd (hag x cs he) hA
   |_=>rfl
  rw[hc]at a2 a3
  have hvc:v.cells.toList= [v]:=by
   unfold Value.cells at a2 ⊢
   split
   ·exfalso
    unfold lS at hA
    split at hv
    ·simp_all
    ·simp_all
    ·unfold Cell.okWide Cell.ok at hv
     split at hv<;>simp_all
   ·rfl
  rw[hvc]at a3
  exact(a3 0 (en x) v rfl rfl).1
end
end Go.Ab
namespace Go.Ab
open Go.RowKit
def lG (live:List Nat):List (Nat×AV)->List (Nat×AV)
 | []=> []
 |p::r=>if live.contains p.1=true then p::lG live r else lG live r
def lH (out:List Nat):aF->aF
 | []=> []
 |p::r=>if out.contains p.1=true then lH out r else p::lH out r
theorem bBe {live:List Nat}:lG live []= []:=rfl
theorem bBf {live:List Nat} {p:Nat×AV} {r:List (Nat×AV)}:lG live (p::r)=if live.contains p.1=true then p::lG live r else lG live r:=rfl
theorem bBg {out:List Nat}:lH out []= []:=rfl
theorem bBh {out:List Nat} {p:Nat×AObj} {r:aF}:lH out (p::r)=if out.contains p.1=true then lH out r else p::lH out r:=rfl
attribute [go_sem] bBe bBf bBg bBh
structure HideA {α:Type} (A:ASt->Prop) (S:α->ASt) (meas:α->Nat) (inv:α->Prop) (x:α):Prop where
 go: ∀s y,Le (S y) s->meas y<meas x->inv y->A s
inductive OweX (p:Prop):Type
 |mk
structure Owe (p:Prop) (x:OweX p):Prop where
 it:p
theorem HideA.next {α:Type} {A:ASt->Prop} {S:α->ASt} {meas:α->Nat} {inv:α->Prop} {x:α} {s:ASt} (h:HideA A S meas inv x) (y:α) (hl:Le (S y) s) (hm:meas y<meas x) (hi:Owe (inv y) .mk):A s:=h.go s y hl hm hi.it
theorem bS {α:Type} {P:Program} [Glob P] {b:Code} {Q:Exit->ASt->Prop} {n:Nat} {t:List (Nat×AV)} {o:aF} (live out:List Nat) (f:α->List (Nat×AV)) (g:α->aF) (meas:α->Nat) (inv:α->Prop) (x0:α)
 (h0:Le ⟨n,f x0++lG live t,g x0++lH out o⟩ ⟨n,t,o⟩) (hi:Owe (inv x0) .mk)
 (hr: ∀x,inv x-> ∀A,HideA A (fun x=>⟨n,f x++lG live t,g x++lH out o⟩) meas inv x->cE P b (nC A Q) ⟨n,f x++lG live t,g x++lH out o⟩):cE P (.loop b) Q ⟨n,t,o⟩:=by
 refine⟨fun m s=> ∃x,m=meas x/\inv x/\s=⟨n,f x++lG live t,g x++lH out o⟩,⟨meas x0,_,h0,x0,rfl,hi.it,rfl⟩,?_⟩
 rintro m s ⟨x,rfl,hx,rfl⟩
 exact hr x hx _ ⟨fun s y hl hm hi=>⟨meas y,_,hm,hl,y,rfl,hi,rfl⟩⟩
end Go.Ab
namespace Go.Ab
open Go.RowKit
def uQ (σ:Nat->Nat) (s:ASt):ASt:= {n:=s.n,t:=s.t.map fun p=>(p.1,p.2.ren σ),o:=iT σ (fun _ b=>b) s.o}
theorem Le.ren {s:ASt} (σ τ:Nat->Nat) (h1: ∀p∈s.o,τ (σ p.1)=p.1) (h2: ∀p∈s.o,p.2.pin=true->σ p.1=p.1):Le (uQ σ s) s:=by
 intro C F μ a w hs
 have h:=hs.sw
 have hlk: ∀{M y},lk (iT σ (fun _ b=>b) s.o) M=some y-> ∃x,M=σ (τ M)/\lk s.o (τ M)=some x/\y= {cW σ x with pin:=x.pin}:=fun {M y} hy=>by
  obtain⟨x,g1,g2,g3⟩:=sB (σ:=σ) (τ:=τ) h1 hy
  exact⟨x,g1,g2,g3⟩
 have htau: ∀{L x},lk s.o L=some x->τ (σ L)=L:=fun {L x} hx=>h1 _ (oU hx)
 have hloc: ∀L,aE s.o μ L≠none->aE (uQ σ s).o (fun M=>μ (τ M)) (σ L)=aE s.o μ L:=fun L hL=>
  J6 (σ:=σ) (τ:=τ) (q:=fun _ b=>b) (μ':=fun M=>μ (τ M)) h1 (fun L x hx=>by show μ (τ (σ L))=μ L;rw[htau hx]) hL
 refine⟨F,fun M=>μ (τ M),⟨h.facts,h.sub,h.lentc,h.grow,h.newf,h.fr,fun M y hy=>?_,fun M y M' y' b c c' hy hy' hm hm'=>?_,fun M y b c hy hm hz=>?_,fun M y b c hy hm=>?_,fun M y y0 h0 hy hp=>?_⟩,hs.defers,hs.n,fun i x hx=>?_⟩
 ·obtain⟨x,g1,g2,rfl⟩:=hlk hy
  exact zC (h.obj _ x g2) fun L hL=>hloc L hL
 ·obtain⟨x,g1,g2,rfl⟩:=hlk hy
  obtain⟨x',g1',g2',rfl⟩:=hlk hy'
  rw[g1,g1',h.dist _ x _ x' b c c' g2 g2' hm hm']
 ·obtain⟨x,g1,g2,rfl⟩:=hlk hy
  exact h.excl _ x b c g2 hm (by simpa[zA]using hz)
 ·obtain⟨x,g1,g2,rfl⟩:=hlk hy
  exact h.mine _ x b c g2 hm
 ·obtain⟨x,g1,g2,rfl⟩:=hlk hy
  have hp:x.pin=true:=hp
  have e:σ (τ M)=τ M:=h2 _ (oU g2) hp
  have hM:M=τ M:=g1.trans e
  rw[hM]at h0
  have:=h.keep _ x y0 h0 g2 hp
  rw[<-hM]at this
  show μ (τ M)=_/\_
  rw[<-hM]
  exact⟨this.1,by rw[tX];exact this.2.1,by show(cW _ x).arr=_;rw[yZ];exact this.2.2⟩
 ·simp only[uQ]at hx
  rw[rZ (fun y:AV=>y.ren σ)]at hx
  cases hy:lk s.t i with
  |none=>simp[hy]at hx
  |some y=>
   simp[hy]at hx
   subst hx
   have hv:=hs.slot i y hy
   exact hv.ren fun L hL=>hloc L (hv.has_loc L hL)
def B9 (P:Program) [Glob P] (rs:List ResultVar) (R:AV->aF->Prop):Exit->ASt->Prop
 | .normal,s=> ∃s0 xs,Le s0 s/\fM P s0 rs=some xs/\R (gZ xs) s0.o
 | .ret,s=> ∃s0 xs,Le s0 s/\fM P s0 rs=some xs/\R (gZ xs) s0.o
 |_,_=>False
theorem eW {P:Program} [Glob P] {f:FuncId} {fn:Func} {c:Code} {args:List AV} {o:aF} {R:AV->aF->Prop} (hf:P.funcs[f]?=some fn) (hc: ∀cargs w,(callFunc f cargs).run P w= .ok (.enter f cargs) w) (hb:fn.body=some c)
 (hn:args.length<=fn.ntmps) (h:cE P c (B9 P fn.results.toList R) (nE fn.ntmps args o)):MCall P f args o R:=by
 refine aC7 hf hc hb hn fun C _ F μ a w hm hs=>?_
 refine wpIn_mono (pZ c _ _ (.inl rfl) h C F μ a w hm hs) ?_
 rintro e a' w' ⟨F',μ',s',hq,hm',hs'⟩
 cases e with
 |normal=>
  obtain⟨s0,xs,hl,h1,h2⟩:=hq
  obtain⟨F2,μ2,hs2⟩:=hl _ F' μ' a' w' hs'
  exact⟨F2,μ2,s0,⟨xs,h1,h2⟩,hm',hs2⟩
 |ret=>
  obtain⟨s0,xs,hl,h1,h2⟩:=hq
  obtain⟨F2,μ2,hs2⟩:=hl _ F' μ' a' w' hs'
  exact⟨F2,μ2,s0,⟨xs,h1,h2⟩,hm',hs2⟩
 |_=>exact hq.elim
end Go.Ab
namespace Go.Ab
open Go.RowKit
def dO (ps:List (Nat×Nat)) (L:Nat):Nat:=match lk ps L with
 |some M=>M
 |none=>L
theorem bBi {L:Nat}:dO [] L=L:=rfl
theorem bBj {k v L:Nat} {r:List (Nat×Nat)}:dO ((k,v)::r) L=if k=L then v else dO r L:=by
 unfold dO;simp only[lk];by_cases h:k=L
 ·rw[if_pos h,if_pos h]
 ·rw[if_neg h,if_neg h]
theorem bH {P:Program} [Glob P] {s:ASt} {k:ASt->Prop} {g:FuncId} {as:List AV} {d:Nat} (ps qs:List (Nat×Nat)) (B:Nat) (oc:aF) (ac:List AV) {r0:AV} {o0:aF} (hf:Fits (dO ps) (dO qs) B oc s.o) (hac:AV.labsL (dL oc) ac=true) (has:as=ac.map (AV.ren (dO ps)))
 (hc:MCall P g ac oc (fun r o'=>r=r0/\o'=o0)) (hd:d<s.n) (hrest:oO (dO ps) (dO qs) oc o0 s.o=true) (hk:k (nA (dO ps) (dO qs) B oc s d r0 o0)):cC P (.c g as) (some d) k s:=
 aC8 (dO ps) (dO qs) B oc ac hf hac has hc hd fun r o' h=>by obtain⟨rfl,rfl⟩:=h;exact⟨hrest,hk⟩
theorem bBk {P:Program} [Glob P] {s:ASt} {k:ASt->Prop} {g:FuncId} {as:List AV} {d:Nat} (ks:List Nat) (ps qs:List (Nat×Nat)) (B:Nat) (oc:aF) (ac:List AV) {r0:AV} {o0:aF} (hf:Fits (dO ps) (dO qs) B oc (killOs ks s.o)) (hac:AV.labsL (dL oc) ac=true) (has:as=ac.map (AV.ren (dO ps)))
 (hc:MCall P g ac oc (fun r o'=>r=r0/\o'=o0)) (hd:d<s.n) (hrest:oO (dO ps) (dO qs) oc o0 (killOs ks s.o)=true) (hk:k (nA (dO ps) (dO qs) B oc {s with o:=killOs ks s.o} d r0 o0)):cC P (.c g as) (some d) k s:=
 ⟨hd,.inr (.inr (.inr ⟨ks,dO ps,dO qs,B,oc,ac,_,hf,hac,has,hc,fun r o' h=>by obtain⟨rfl,rfl⟩:=h;exact⟨hrest,hk⟩⟩))⟩
theorem bBl {o:aF}:killOs [] o=o:=rfl
theorem bBm {T:Nat} {r:List Nat} {o:aF}:killOs (T::r) o=killOs r (killO T o):=rfl
attribute [go_sem] bBl bBm
def sN (q:Nat->Bool):List (Nat×AV)->List (Nat×AV)
 | []=> []
 |p::r=>(p.1,if p.2.labs q=true then p.2 else .dead)::sN q r
theorem aEi (q:Nat->Bool): ∀t:List (Nat×AV),t.map (fun p=>(p.1,if p.2.labs q=true then p.2 else .dead))=sN q t
 | []=>rfl
 |p::r=>by simp only[List.map_cons,sN,aEi q r]
theorem bBn {q:Nat->Bool}:sN q []= []:=rfl
theorem bBo {q:Nat->Bool} {p:Nat×AV} {r:List (Nat×AV)}:sN q (p::r)=(p.1,if p.2.labs q=true then p.2 else .dead)::sN q r:=rfl
def sO (σ:Nat->Nat) (q:Nat->Bool):aF->aF
 | []=> []
 |p::r=>(σ p.1,{cW σ p.2 with pin:=q p.1})::sO σ q r
theorem bBp {σ:Nat->Nat} {q:Nat->Bool}:sO σ q []= []:=rfl
theorem bBq {σ:Nat->Nat} {q:Nat->Bool} {p:Nat×AObj} {r:aF}:sO σ q (p::r)=(σ p.1,{cW σ p.2 with pin:=q p.1})::sO σ q r:=rfl
theorem aEj (σ:Nat->Nat) (q:Nat->Bool): ∀o:aF,iT σ (fun L _=>q L) o=sO σ q o
 | []=>rfl
 |p::r=>by simp only[iT,List.map_cons,sO]at*;rw[<-aEj σ q r];rfl
theorem bBr {σ τ:Nat->Nat} {B:Nat} {oc:aF} {s:ASt} {d:Nat} {r:AV} {o':aF}:nA σ τ B oc s d r o'=
 ⟨s.n,(d,r.ren (fN σ B oc o'))::sN (pV σ τ oc o') s.t,sO (fN σ B oc o') (fun L=>kI oc o' L&&iU s.o (σ L)) o'++iV σ oc s.o⟩:=by
 unfold nA pW
 rw[aEi,aEj]
theorem bBs {σ:Nat->Nat} {oc:aF}:iV σ oc []= []:=rfl
theorem bBt {σ:Nat->Nat} {oc:aF} {p:Nat×AObj} {r:aF}:iV σ oc (p::r)=if jN σ oc p.1=true then iV σ oc r else p::iV σ oc r:=by
 unfold iV;rw[List.filter_cons];cases jN σ oc p.1<;>simp
theorem bBu {σ:Nat->Nat} {M:Nat}:jN σ [] M=false:=rfl
theorem bBv {σ:Nat->Nat} {p:Nat×AObj} {oc:aF} {M:Nat}:jN σ (p::oc) M=(decide (σ p.1=M)||jN σ oc M):=by
 unfold jN;rw[List.any_cons];rfl
theorem bBw {L:Nat}:dL [] L=false:=rfl
theorem bBx {p:Nat×AObj} {o:aF} {L:Nat}:dL (p::o) L=(decide (p.1=L)||dL o L):=by
 unfold dL;obtain⟨k,x⟩:=p;simp only[lk];by_cases h:k=L
 ·simp[h]
 ·simp[h]
theorem bBy {L:Nat}:iU [] L=false:=rfl
theorem bBz {p:Nat×AObj} {o:aF} {L:Nat}:iU (p::o) L=if p.1=L then p.2.pin else iU o L:=by
 unfold iU;obtain⟨k,x⟩:=p;simp only[lk];by_cases h:k=L
 ·rw[if_pos h,if_pos h]
 ·rw[if_neg h,if_neg h]
theorem bB0 {oc o':aF} {L:Nat}:kI oc o' L=(dL oc L&&iU o' L):=rfl
theorem bB1 {σ τ:Nat->Nat} {oc o':aF} {M:Nat}:pV σ τ oc o' M=(!jN σ oc M||kI oc o' (τ M)):=rfl
theorem bB2 {σ:Nat->Nat} {B:Nat} {oc o':aF} {L:Nat}:fN σ B oc o' L=if kI oc o' L=true then σ L else L+B:=rfl
theorem bB3 {σ τ:Nat->Nat} {oc o' s:aF}:oO σ τ oc o' s=(iV σ oc s).all fun p=>p.2.arr||AV.labsL (pV σ τ oc o') p.2.xs:=rfl
theorem bB4 {σ:Nat->Nat} {fz pin:Bool} {es kd:Nat} {xs:List AV}:cW σ ⟨true,fz,pin,es,xs,kd⟩=⟨true,fz,pin,es,xs,kd⟩:=rfl
theorem bB5 {σ:Nat->Nat} {fz pin:Bool} {es kd:Nat} {xs:List AV}:cW σ ⟨false,fz,pin,es,xs,kd⟩=⟨false,fz,pin,es,xs.map (AV.ren σ),kd⟩:=rfl
theorem bB6 {σ:Nat->Nat} {x y:AObj}:K2 σ x (some y)=(y.kd=x.kd/\y.arr=x.arr/\y.fz=x.fz/\y.es=x.es/\y.xs=(cW σ x).xs):=rfl
theorem bB7 {B:Nat}:mA B []=true:=rfl
theorem bB8 {B:Nat} {p:Nat×AObj} {o:aF}:mA B (p::o)=(decide (p.1<B)&&mA B o):=rfl
attribute [go_sem] bBi bBj bBn bBo bBp bBq bBr bBs bBt bBu bBv bBw bBx bBy bBz bB0 bB1 bB2 bB3 bB4 bB5 bB6 bB7 bB8
 AV.ren AV.renL AV.labs AV.labsL List.all_cons List.all_nil List.forall_mem_cons
def C0 (q:Option (List AV)) (z y:Option St):Option St:=match q with
 |some []=>z
 |_=>y
def Q4 (a:Option (TypeId×Nat×Nat)) (b:Bool) (d:Nat) (s:ASt):Option St:=match a,b with
 |some _,true=>some ⟨decide (d<s.n),s.put d (.sc (.slice none 0 0))⟩
 |_,_=>none
theorem bB9 {P:Program} [Glob P] {st xt:TypeId} {b:AV} {d:Nat} {s:ASt}:oI P st xt (.sc (.slice none 0 0)) b d s=C0 (gV s.o b) (Q4 (bM P st) (fJ P xt) d s) (pT P st xt (.list false true []) b d s):=by
 unfold oI C0 Q4
 cases gV s.o b with
 |none=>rfl
 |some l=>cases l<;>rfl
theorem bCa {z y:Option St}:C0 (some []) z y=z:=rfl
theorem bCb {a:AV} {l:List AV} {z y:Option St}:C0 (some (a::l)) z y=y:=rfl
theorem bCc {q:TypeId×Nat×Nat} {d:Nat} {s:ASt}:Q4 (some q) true d s=some ⟨decide (d<s.n),s.put d (.sc (.slice none 0 0))⟩:=rfl
attribute [go_sem] bB9 bCa bCb bCc
def C2 (n L:Nat) (x:Option AObj):Option Sv:=match x with
 |some x=>if x.arr=true then some ⟨decide (n≠0),.ptr L 0 0⟩else none
 |none=>none
def xI (z:Option Sv) (o:aF):Option AV->Option Sv
 |some (.ref L 0 n)=>C2 n L (lk o L)
 |_=>z
theorem bCd {z:Option Sv} {o:aF} {L n:Nat}:xI z o (some (.ref L 0 n))=C2 n L (lk o L):=rfl
theorem bCe {z:Option Sv} {o:aF} {v:Value}:xI z o (some (.sc v))=z:=rfl
theorem bCf {n L:Nat} {fz pin:Bool} {es kd:Nat} {xs:List AV}:C2 n L (some ⟨true,fz,pin,es,xs,kd⟩)=some ⟨decide (n≠0),.ptr L 0 0⟩:=rfl
theorem bCg {P:Program} [Glob P] {d:Nat} {x:Operand} {ts:Array TypeId} {ty:TypeId} {pos:String} {af g} {s:ASt}:aX P ⟨some d,.call ⟨.builtin .unsafeSliceData,#[x],ts⟩,ty,pos,af,g⟩ s=
 dG (xI (eQ P ⟨some d,.call ⟨.builtin .unsafeSliceData,#[x],ts⟩,ty,pos,af,g⟩ (cF P s.t)) s.o (cF P s.t x)):=by
 have e:aX P ⟨some d,.call ⟨.builtin .unsafeSliceData,#[x],ts⟩,ty,pos,af,g⟩ s=dG (match cF P s.t x with
  |some (.ref L lo n)=>rY L lo n s.o
  |_=>eQ P ⟨some d,.call ⟨.builtin .unsafeSliceData,#[x],ts⟩,ty,pos,af,g⟩ (cF P s.t)):=rfl
 rw[e]
 cases hx:cF P s.t x with
 |none=>rfl
 |some a=>
  cases a with
  |ref L lo n=>
   cases lo with
   |zero=>
    simp only[xI,C2,rY]
    cases lk s.o L with
    |none=>rfl
    |some x=>simp
   |succ lo=>
    have:rY L (lo+1) n s.o=none:=by
     unfold rY
     cases lk s.o L with
     |none=>rfl
     |some x=>simp
    simp only[xI,this]
    unfold eQ
    rw[if_neg]
    rintro⟨_,h⟩
    have:=h x (by simp[Op.operands,Call.operands])
    rw[hx]at this
    simp[dV,lT]at this
  |_=>rfl
attribute [go_sem] bCg bCd bCe bCf
theorem aEk: ∀l:List UInt8,bytesOf (l.map gJ)=some l
 | []=>rfl
 |c::l=>by
  have h:=c.toNat_lt
  simp only[List.map_cons,gJ,bytesOf,aEk l]
  rw[if_pos (by constructor<;>omega)]
  simp
theorem bCh {P:Program} [Glob P] {pt:TypeId} {L d:Nat} {s:ASt} {l:List UInt8} {pin:Bool} {kd:Nat}:wK P pt L d (l.length:Int) s (some ⟨true,false,pin,1,l.map gJ,kd⟩)=
 if K7 P pt kd=true then some ⟨decide (d<s.n/\l≠ []),(s.renew0 L L (cN 1 [])).put d (.sc (.string ⟨l.toArray⟩))⟩else none:=by
 simp only[wK,aEk]
 simp
attribute [go_sem] bCh
theorem bCi {n:Nat} {t:List (Nat×AV)} {o:aF} {L T:Nat} {x:AObj}:ASt.renew0 ⟨n,t,o⟩ L T x=⟨n,fI L (fI T t),(T,x)::killO L (killO T (eJ o L))⟩:=rfl
attribute [go_sem] bCi
theorem bCj {P:Program} [Glob P] {t:TypeId}:mR P t (.sc (.slice none 0 0))=sK (bM P t) 0:=rfl
attribute [go_sem] bCj
theorem bCk:cL=140737488355328:=rfl
attribute [go_sem] bCk
theorem bCl {n:Nat} {as:List AV} {o:aF}:nE n as o=⟨n,(as.zipIdx 0).map fun p=>(p.2,p.1),o⟩:=rfl
theorem Fits.mk' {σ τ:Nat->Nat} {B:Nat} {oc s:aF} (h1:mA B s=true) (h2: ∀p∈oc,τ (σ p.1)=p.1/\p.2.pin=true/\K2 σ p.2 (lk s (σ p.1))/\(p.2.arr||AV.labsL (dL oc) p.2.xs)=true):Fits σ τ B oc s:=⟨h1,h2⟩
theorem cV {P:Program} [Glob P] {rs:List ResultVar} {R:AV->aF->Prop} {s:ASt} (s0:ASt) (xs:List AV) (hl:Le s0 s) (h1:fM P s0 rs=some xs) (h2:R (gZ xs) s0.o):B9 P rs R .ret s:=⟨s0,xs,hl,h1,h2⟩
theorem sP {P:Program} [Glob P] {rs:List ResultVar} {R:AV->aF->Prop} {s:ASt} (s0:ASt) (xs:List AV) (hl:Le s0 s) (h1:fM P s0 rs=some xs) (h2:R (gZ xs) s0.o):B9 P rs R .normal s:=⟨s0,xs,hl,h1,h2⟩
theorem Le.renSub {s0 s:ASt} (ps qs:List (Nat×Nat)) (h1: ∀p∈s.o,dO qs (dO ps p.1)=p.1) (h2: ∀p∈s.o,p.2.pin=true->dO ps p.1=p.1) (hl:Le s0 (uQ (dO ps) s)):Le s0 s:=hl.trans (Le.ren _ _ h1 h2)
def sQ (σ:Nat->Nat):List (Nat×AV)->List (Nat×AV)
 | []=> []
 |p::r=>(p.1,p.2.ren σ)::sQ σ r
theorem bCm {σ:Nat->Nat}:sQ σ []= []:=rfl
theorem bCn {σ:Nat->Nat} {p:Nat×AV} {r:List (Nat×AV)}:sQ σ (p::r)=(p.1,p.2.ren σ)::sQ σ r:=rfl
def sR (σ:Nat->Nat):aF->aF
 | []=> []
 |p::r=>(σ p.1,{cW σ p.2 with pin:=p.2.pin})::sR σ r
theorem bCo {σ:Nat->Nat}:sR σ []= []:=rfl
theorem bCp {σ:Nat->Nat} {p:Nat×AObj} {r:aF}:sR σ (p::r)=(σ p.1,{cW σ p.2 with pin:=p.2.pin})::sR σ r:=rfl
theorem bCq {σ:Nat->Nat} {n:Nat} {t:List (Nat×AV)} {o:aF}:uQ σ ⟨n,t,o⟩=⟨n,sQ σ t,sR σ o⟩:=by
 have h1: ∀t:List (Nat×AV),t.map (fun p=>(p.1,p.2.ren σ))=sQ σ t:=fun t=>by
  induction t with
  |nil=>rfl
  |cons p r ih=>simp only[List.map_cons,sQ,ih]
 have h2: ∀o:aF,iT σ (fun _ b=>b) o=sR σ o:=fun o=>by
  induction o with
  |nil=>rfl
  |cons p r ih=>simp only[iT,List.map_cons,sR]at*;rw[ih]
 simp only[uQ,h1,h2]
attribute [go_sem] bCm bCn bCo bCp bCq bCl
theorem zHg {P:Program} [Glob P] {Q:Exit->ASt->Prop} {K:ASt->Prop} {c:Code} {s:ASt} (k:cE P c Q s) (h:Hide K (cE P c Q):=by assumption):K s:=Hide.go h k
theorem zAo {a b:Prop} (hb:b) (ha:a:=by omega):a/\b:=⟨ha,hb⟩
theorem zDr {P:Program} [Glob P] {id:Nat} {ops:Array Oper} {Q:Exit->ASt->Prop} {s:ASt} (m:Nat) (hm:P.follows .mixedOrders=true) (h:kK P ops m ops.toList (Q .normal) s) (hok:kM ops m=true:=by decide+kernel):cE P (.region id ops true) Q s:=aC9 m hm hok h
theorem zT:(∀i:Decidable True,@decide True i=true)/\(∀i:Decidable False,@decide False i=false)/\((¬False)=True):=⟨fun _=>by simp,fun _=>by simp,by simp⟩
end Go.Ab
