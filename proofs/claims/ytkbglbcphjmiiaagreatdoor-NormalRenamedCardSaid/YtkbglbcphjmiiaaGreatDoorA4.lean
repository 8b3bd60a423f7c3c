import Derived.Test.YtkbglbcphjmiiaaGreatDoorA3
import Derived.ProofKit
import Derived.OpenShut
import Derived.ReadAgain
import Derived.ChangeStays
import Derived.ChangeSame
import Derived.SizedLaws
import Derived.ChangeReads
set_option linter.unusedSimpArgs false
set_option linter.unusedVariables false
set_option linter.unusedSectionVars false
namespace Go.Ab
open Go.RowKit
section
variable {P : Program} [Glob P] {Q : Exit → ASt → Prop} {s : ASt} {k : ASt → Prop}
theorem aNc:cN P .skip Q s=Q .normal s:=rfl
theorem aNd {id:Nat} {ops:Array Oper}:cN P (.region id ops false) Q s=mT P ops ops.toList (Q .normal) s:=by simp[cN]
theorem aNe {a b:Code}:cN P (.seq a b) Q s=cN P a (nU (cN P b Q) Q) s:=rfl
def oS (P:Program) [Glob P] (v:Option AV) (x y:Code) (Q:Exit→ASt→Prop) (s:ASt):Prop:=
 match v with
 |some (.sc (.bool b))=>(b=true→cN P x Q s)∧(b=false→cN P y Q s)
 |_=>False
theorem aNf {c:Operand} {x y:Code}:cN P (.cond c x y) Q s=oS P (ev s.t c) x y Q s:=rfl
theorem aNg {id:Nat} {b:Code}:cN P (.block id b) Q s=cN P b (sC id Q) s:=rfl
theorem aNh {id:Nat}:cN P (.exit id) Q s=Q (.exit id) s:=rfl
theorem aNi:cN P .ret Q s=Q .ret s:=rfl
theorem aNj {K:ASt→Prop}:nU K Q .normal s=K s:=rfl
theorem aNk {K:ASt→Prop}:nU K Q .ret s=Q .ret s:=rfl
theorem aNl {K:ASt→Prop} {id:Nat}:nU K Q (.exit id) s=Q (.exit id) s:=rfl
theorem aNm {id:Nat}:sC id Q .normal s=Q .normal s:=rfl
theorem aNn {id:Nat}:sC id Q .ret s=Q .ret s:=rfl
theorem aNo {id id':Nat}:sC id Q (.exit id') s=if id'=id then Q .normal s else Q (.exit id') s:=rfl
theorem aNp {x y:Code}:oS P (some (.sc (.bool true))) x y Q s=cN P x Q s:=by simp[oS]
theorem aNq {x y:Code}:oS P (some (.sc (.bool false))) x y Q s=cN P y Q s:=by simp[oS]
theorem aNr {b:Bool} {x y:Code} (h1:b=true→cN P x Q s) (h2:b=false→cN P y Q s):oS P (some (.sc (.bool b))) x y Q s:=⟨h1,h2⟩
theorem aNs {p:Prop} [Decidable p] {x y:Code} (h1:p→cN P x Q s) (h2: ¬p→cN P y Q s):oS P (some (.sc (.bool (decide p)))) x y Q s:=
 ⟨fun h=>h1 (of_decide_eq_true h),fun h=>h2 (of_decide_eq_false h)⟩
theorem aNt {p:Prop} [Decidable p] {x y:Code} (h1: ¬p→cN P x Q s) (h2:p→cN P y Q s):oS P (some (.sc (.bool (!decide p)))) x y Q s:=
 ⟨fun h=>h1 (by simpa using h),fun h=>h2 (by simpa using h)⟩
def E2 (P:Program) [Glob P] (rs:List ResultVar) (fs:List Nat) (R:AV→Prop) (s:ASt):Prop:=match pO P rs fs s with
 |some r=>R r
 |none=>False
theorem aT {rs:List ResultVar} {R:AV→Prop} (fs:List Nat) (h:E2 P rs fs R s):aC5 P rs R .ret s:=by
 unfold E2 at h
 split at h
 ·rename_i r hr;exact⟨fs,r,hr,h⟩
 ·exact h.elim
theorem aNu {ops:Array Oper}:mT P ops [] k s=k s:=rfl
theorem aNv {ops:Array Oper} {o:Oper} {r:List Oper}:mT P ops (o::r) k s=gK P (fX ops o.guard s) o (mT P ops r k) s:=rfl
theorem aNw {ops:Array Oper}:fX ops none s= .run:=rfl
theorem aNx {o:Oper}:gK P .skip o k s=rX o.dst k s:=rfl
theorem aNy {o:Oper}:fG P .skip o k s=rY o.dst k s:=rfl
theorem aNz {d:Nat}:D4 (some d) k s=(d<s.n∧k (s.put d .dead)):=rfl
theorem aN0 {o:Oper}:gK P .run o k s=bZ P o k s:=rfl
theorem aN1 {o:Oper}:gK P (.test true true) o k s=bZ P o k s:=by simp[gK]
theorem aN2 {o:Oper}:gK P (.test false false) o k s=bZ P o k s:=by simp[gK]
theorem aN3 {o:Oper}:gK P (.test true false) o k s=rX o.dst k s:=by simp[gK]
theorem aN4 {o:Oper}:gK P (.test false true) o k s=rX o.dst k s:=by simp[gK]
theorem Q3 {b want:Bool} {o:Oper} (h1:b=true→gK P (.test true want) o k s) (h2:b=false→gK P (.test false want) o k s):gK P (.test b want) o k s:=by
 cases b
 ·exact h2 rfl
 ·exact h1 rfl
theorem aN5 {p:Prop} [Decidable p] {want:Bool} {o:Oper} (h1:p→gK P (.test true want) o k s) (h2: ¬p→gK P (.test false want) o k s):gK P (.test (decide p) want) o k s:=
 Q3 (fun h=>h1 (of_decide_eq_true h)) (fun h=>h2 (of_decide_eq_false h))
theorem aN6 {p:Prop} [Decidable p] {want:Bool} {o:Oper} (h1: ¬p→gK P (.test true want) o k s) (h2:p→gK P (.test false want) o k s):gK P (.test (!decide p) want) o k s:=
 Q3 (fun h=>h1 (by simpa using h)) (fun h=>h2 (by simpa using h))
theorem aN7 {d:Nat}:rX (some d) k s=(d<s.n∧k (s.put d (.tup []))):=rfl
theorem aN8 {n:Bool} {a:AV} {d:Nat}:cI P (.v ⟨n,a⟩) (some d) k s=(n∧d<s.n∧k (s.put d a)):=rfl
theorem aN9 {n:Bool} {s':ASt} {d:Option Nat}:cI P (.h ⟨n,s'⟩) d k s=(n∧k s'):=by cases d<;>rfl
theorem aOa {d:Option Nat}:cI P .no d k s=False:=by cases d<;>rfl
theorem vF {g:FuncId} {as bs:List AV} {d:Nat} {R:AV→Prop} (fs:List Nat) (s1:ASt) (hf:lD fs s=some s1) (hl:jD s1.o as=some bs) (hc:ACall P g bs R) (hd:d<s.n) (hk: ∀r,R r→k (nN s1 d r)):
 cI P (.c g as) (some d) k s:=⟨hd,.inl ⟨fs,s1,bs,R,hf,hl,hc,hk⟩⟩
theorem aC8 {g:FuncId} {as:List AV} {d:Nat} (σ τ:Nat→Nat) (B:Nat) (oc:aF) (ac:List AV) {R:AV→aF→Prop} (hf:Fits σ τ B oc s.o) (hac:AV.labsL (dY oc) ac=true) (has:as=ac.map (AV.ren σ)) (hc:MCall P g ac oc R) (hd:d<s.n)
 (hk: ∀r o',R r o'→qR σ τ oc o' s.o=true∧k (oO σ τ B oc s d r o')):cI P (.c g as) (some d) k s:=⟨hd,.inr (.inr (.inr ⟨[],σ,τ,B,oc,ac,R,hf,hac,has,hc,hk⟩))⟩
theorem aOb {g:FuncId} {a:AV} {d:Nat} (h: ∀x w,(callFunc g #[x]).run P w= .ok (.value x) w) (hd:d<s.n) (hk:k (s.put d a)):cI P (.c g [a]) (some d) k s:=⟨hd,.inr (.inr (.inl ⟨a,XCall.same h,hk⟩))⟩
theorem aP {g:FuncId} {as bs:List AV} {d:Nat} {r:AV} (hl:jD s.o as=some bs) (hc:ACall P g bs (fun x=>x=r)) (hd:d<s.n) (hk:k (nN s d r)):
 cI P (.c g as) (some d) k s:=vF [] s rfl hl hc hd fun _ h=>h▸hk
theorem aC9 {id:Nat} {ops:Array Oper} (m:Nat) (hm:P.follows .mixedOrders=true) (hok:lF ops m=true) (h:lE P ops m ops.toList (Q .normal) s):cN P (.region id ops true) Q s:=⟨s,Le.refl s,hm,.inl ⟨m,hok,h⟩⟩
theorem aOc {ops:Array Oper} {l:List Oper}:lE P ops 0 l k s=oQ P ((ops.toList.take (ops.size - l.length)).filter fJ) (mT P ops l k) s:=rfl
theorem aOd:oQ P [] k s=k s:=rfl
theorem aOe {d:Option Nat} {op:Op} {ty:TypeId} {pos af g}:fJ ⟨d,op,ty,pos,af,g⟩=match op,d,g with
 | .alloc _,some _,none=>true
 |_,_,_=>false:=rfl
theorem aOf {t:TypeId} {d:Nat} {ty:TypeId} {pos af g} {r:List Oper}:oQ P (⟨some d,.alloc t,ty,pos,af,g⟩::r) k s=match aS P t with
 |some z=>z.plain=true∧d<s.n∧oQ P r k ((s.adopt d (iF z)).put d (.ptr d 0 0))
 |none=>False:=rfl
theorem aOg {ops:Array Oper} {m:Nat} {o:Oper} {r:List Oper}:lE P ops (m+1) (o::r) k s=fG P (fX ops o.guard s) o (lE P ops m r k) s:=rfl
theorem aOh {o:Oper}:fG P .run o k s=rZ P o k s:=rfl
theorem aOi {o:Oper}:fG P (.test true true) o k s=rZ P o k s:=by simp[fG]
theorem aOj {o:Oper}:fG P (.test false false) o k s=rZ P o k s:=by simp[fG]
theorem aOk {o:Oper}:fG P (.test true false) o k s=rY o.dst k s:=by simp[fG]
theorem aOl {o:Oper}:fG P (.test false true) o k s=rY o.dst k s:=by simp[fG]
theorem aDa {b want:Bool} {o:Oper} (h1:b=true→fG P (.test true want) o k s) (h2:b=false→fG P (.test false want) o k s):fG P (.test b want) o k s:=by
 cases b
 ·exact h2 rfl
 ·exact h1 rfl
theorem aOm {p:Prop} [Decidable p] {want:Bool} {o:Oper} (h1:p→fG P (.test true want) o k s) (h2: ¬p→fG P (.test false want) o k s):fG P (.test (decide p) want) o k s:=
 aDa (fun h=>h1 (of_decide_eq_true h)) (fun h=>h2 (of_decide_eq_false h))
theorem aOn {p:Prop} [Decidable p] {want:Bool} {o:Oper} (h1: ¬p→fG P (.test true want) o k s) (h2:p→fG P (.test false want) o k s):fG P (.test (!decide p) want) o k s:=
 aDa (fun h=>h1 (by simpa using h)) (fun h=>h2 (by simpa using h))
theorem aOo {d:Nat}:rY (some d) k s=(d<s.n∧k (s.put d (.tup []))):=rfl
theorem aOp {o:Oper}:rZ P o k s=match fJ o with
 |true=>D4 o.dst k s
 |false=>vB P (bF P o s) o.dst k s:=rfl
theorem aOq {n:Bool} {a:AV} {d:Nat}:vB P (.v ⟨n,a⟩) (some d) k s=(n∧d<s.n∧k (s.put d a)):=rfl
theorem aOr {d:Option Nat}:vB P .no d k s=False:=by cases d<;>rfl
theorem cP {g:FuncId} {as bs:List AV} {d:Nat} {r:AV} (hl:jD s.o as=some bs) (hc:ACall P g bs (fun x=>x=r)) (hf:yD r=true) (hd:d<s.n) (hk:k (s.put d r)):
 vB P (.c g as) (some d) k s:=⟨hd,bs,r,hl,hc,hf,hk⟩
theorem aOs {n:Nat} {t:List (Nat×AV)} {o:aF} {d:Nat} {a:AV}:ASt.put ⟨n,t,o⟩ d a=⟨n,(d,a)::t,o⟩:=rfl
theorem aOt {n:Nat} {t:List (Nat×AV)} {o:aF} {d:Nat} {x:AObj} {r:AV}:ASt.fresh ⟨n,t,o⟩ d x r=⟨n,(d,r)::fV d t,(d,x)::killO d o⟩:=rfl
theorem aOu {n:Nat} {t:List (Nat×AV)} {o:aF} {L T d:Nat} {x:AObj} {r:AV}:ASt.renew ⟨n,t,o⟩ L T d x r=⟨n,(d,r)::fV L (fV T t),(T,x)::killO L (killO T (fF o L))⟩:=rfl
theorem aOv {n:Nat} {t:List (Nat×AV)} {o:aF} {T:Nat} {x:AObj}:ASt.adopt ⟨n,t,o⟩ T x=⟨n,fV T (fV T t),(T,x)::killO T (killO T (fF o T))⟩:=rfl
theorem aOw {α:Type} {i:Nat}:lk ([]:List (Nat×α)) i=none:=rfl
theorem aOx {α:Type} {k i:Nat} {a:α} {r:List (Nat×α)}:lk ((k,a)::r) i=if k=i then some a else lk r i:=rfl
theorem aOy {L:Nat}:fV L []= []:=rfl
theorem aOz {L i:Nat} {a:AV} {r:List (Nat×AV)}:fV L ((i,a)::r)=(i,kill1 L a)::fV L r:=rfl
theorem aO0 {L:Nat}:killO L []= []:=rfl
theorem aO1 {L i:Nat} {x:AObj} {r:aF}:killO L ((i,x)::r)=(i,dH L x)::killO L r:=rfl
theorem aO2 {kd:Nat} {L es:Nat} {fz pin:Bool} {xs:List AV}:dH L ⟨true,fz,pin,es,xs,kd⟩=⟨true,fz,pin,es,xs,kd⟩:=rfl
theorem aO3 {kd:Nat} {L es:Nat} {fz pin:Bool} {xs:List AV}:dH L ⟨false,fz,pin,es,xs,kd⟩=⟨false,fz,pin,es,xs.map (kill1 L),kd⟩:=rfl
theorem aO4 {L:Nat}:fF [] L= []:=rfl
theorem aO5 {L i:Nat} {x:AObj} {r:aF}:fF ((i,x)::r) L=if i=L then fF r L else(i,x)::fF r L:=by
 simp only[fF,List.filter_cons]
 by_cases h:i=L<;>simp[h]
theorem aDb {L:Nat} {v:Value}:kl L (.sc v)= .sc v:=by simp[kl,AV.has]
theorem aDc {L:Nat} {l f:Bool} {xs:List AV}:kl L (.list l f xs)= .list l f xs:=by simp[kl,AV.has]
theorem aDd {L i o:Nat} {l:Bool} {xs:List AV}:kl L (.iptr l xs i o)= .iptr l xs i o:=by simp[kl,AV.has]
theorem aDe {L L' a b:Nat}:kl L (.ref L' a b)=if L=L' then .dead else .ref L' a b:=by simp[kl,AV.has]
theorem aDf {L L' a b:Nat}:kl L (.ptr L' a b)=if L=L' then .dead else .ptr L' a b:=by simp[kl,AV.has]
theorem aDg {L L' a b c d:Nat}:kl L (.aref L' a b c d)=if L=L' then .dead else .aref L' a b c d:=by simp[kl,AV.has]
theorem aDh {L L':Nat}:kl L (.mp L')=if L=L' then .dead else .mp L':=by simp[kl,AV.has]
theorem aO6 {L L':Nat}:kill1 L (.mp L')=if L=L' then .dead else .mp L':=aDh
theorem aDi {L:Nat}:kl L .dead= .dead:=by simp[kl]
theorem aDj {L:Nat} {g:FuncId} {cs:List AV}:kl L (.clo g cs)=if AV.hasL L cs=true then .dead else .clo g cs:=rfl
theorem aDk {L:Nat} {cs:List AV}:kl L (.tup cs)=if AV.hasL L cs=true then .dead else .tup cs:=rfl
theorem aDl {L:Nat} {v:Value}:kill1 L (.sc v)= .sc v:=aDb
theorem aDm {L:Nat} {l f:Bool} {xs:List AV}:kill1 L (.list l f xs)= .list l f xs:=aDc
theorem aO7 {L i o:Nat} {l:Bool} {xs:List AV}:kill1 L (.iptr l xs i o)= .iptr l xs i o:=aDd
theorem aDn {L L' a b:Nat}:kill1 L (.ref L' a b)=if L=L' then .dead else .ref L' a b:=aDe
theorem aDo {L L' a b:Nat}:kill1 L (.ptr L' a b)=if L=L' then .dead else .ptr L' a b:=aDf
theorem aO8 {L L' a b c d:Nat}:kill1 L (.aref L' a b c d)=if L=L' then .dead else .aref L' a b c d:=aDg
theorem aDp {L:Nat}:kill1 L .dead= .dead:=aDi
theorem aO9 {L:Nat} {g:FuncId} {cs:List AV}:kill1 L (.clo g cs)=if AV.hasL L cs=true then .dead else .clo g cs:=aDj
theorem aPa {L:Nat} {cs:List AV}:kill1 L (.tup cs)=if AV.hasL L cs=true then .dead else .tup cs:=aDk
theorem aPb {L:Nat} {cs:List AV}:kill1 L (.agg cs)= .agg (cs.map (kl L)):=rfl
theorem aPc {t:List (Nat×AV)} {i:Nat}:ev t (.tmp i)=lk t i:=rfl
theorem aPd {t:List (Nat×AV)} {v:Value}:ev t (.const v)=iQ v:=rfl
theorem aPe {t:List (Nat×AV)} {f:FuncId}:ev t (.func f)=some (.clo f []):=rfl
theorem aPf {P:Program} [Glob P] {t:List (Nat×AV)} {i:Nat}:bX P t (.tmp i)=lk t i:=rfl
theorem aPg {P:Program} [Glob P] {t:List (Nat×AV)} {v:Value}:bX P t (.const v)=iQ v:=rfl
theorem aPh {P:Program} [Glob P] {t:List (Nat×AV)} {f:FuncId}:bX P t (.func f)=some (.clo f []):=rfl
theorem aPi {P:Program} [Glob P] {t:List (Nat×AV)} {g:Nat}:bX P t (.global g)=Glob.tab P g:=rfl
theorem aPj {k:IntKind} {n:Int}:iQ (.int k n)=some (nt k n):=rfl
theorem aPk {b:Bool}:iQ (.bool b)=some (bl b):=rfl
theorem aPl {b:ByteArray}:iQ (.string b)=some (.sc (.string b)):=rfl
theorem aPm:iQ (.slice none 0 0)=some (.list false true []):=rfl
theorem aPn:iQ (.pointer none)=some (.sc (.pointer none)):=rfl
theorem aPo:iQ (.map none)=some (.sc (.map none)):=rfl
theorem aPp:iQ .nilFunc=some (.sc .nilFunc):=rfl
theorem aPq:iQ .nilIface=some (.sc .nilIface):=rfl
theorem aPr {k:IntKind} {n:Int}:nt k n= .sc (.int k n):=rfl
theorem aPs {b:Bool}:bl b= .sc (.bool b):=rfl
theorem aPt {r:Sv}:dE (some r)= .v r:=rfl
theorem aPu:dE none= .no:=rfl
theorem aPv {r:St}:iH (some r)= .h r:=rfl
theorem aPw:iH none= .no:=rfl
section ops
variable {d : Nat} {ty : TypeId} {pos : String} {af : Array Edge} {g : Option (Nat × Bool)}
theorem aPx {x:Operand}:bF P ⟨some d,.move x,ty,pos,af,g⟩ s=dE ((bX P s.t x).map fun a=>⟨true,a⟩):=rfl
theorem aPy {x:Operand}:bF P ⟨some d,.assign x,ty,pos,af,g⟩ s=dE ((bX P s.t x).map fun a=>⟨true,a⟩):=rfl
theorem aPz {c a b:Operand}:bF P ⟨some d,.pick c a b,ty,pos,af,g⟩ s=dE (match bX P s.t c with
 |some (.sc (.bool c))=>(if c=true then bX P s.t a else bX P s.t b).map fun a=>⟨true,a⟩
 |_=>none):=rfl
theorem aP0 {t:TypeId} {a:Operand}:bF P ⟨some d,.load t a,ty,pos,af,g⟩ s=dE (match bX P s.t a with
 |some p=>mN P t p s.o
 |none=>none):=rfl
theorem aDq {op:BinOp} {t yt:TypeId} {x y:Operand}:bF P ⟨some d,.binOp op t x y yt,ty,pos,af,g⟩ s=dE (match bX P s.t x,bX P s.t y with
 |some a,some b=>match iZ P op t a b with
  |some r=>some r
  |none=>match gE P op t a y with
   |some r=>some r
   |none=>match dO P op t a b with
    |some r=>some r
    |none=>dR P ⟨some d,.binOp op t x y yt,ty,pos,af,g⟩ (bX P s.t)
 |_,_=>none):=rfl
theorem aP1 {op:BinOp} {t:TypeId} {a:AV} {i:Nat}:gE P op t a (.tmp i)=none:=by simp[gE,mP]
theorem aP2 {op:BinOp} {t:TypeId} {a:AV} {k:IntKind} {n:Int}:gE P op t a (.const (.int k n))=none:=by simp[gE,mP]
theorem aP3 {op:BinOp} {t:TypeId} {a:AV} {b:Bool}:gE P op t a (.const (.bool b))=none:=by simp[gE,mP]
theorem aP4 {op:BinOp} {t:TypeId} {a:AV} {b:ByteArray}:gE P op t a (.const (.string b))=none:=by simp[gE,mP]
theorem aP5 {op:BinOp} {t:TypeId} {a:AV} {b:Array Value}:gE P op t a (.const (.agg b))=none:=by simp[gE,mP]
attribute [go_sem] aP1 aP2 aP3 aP4 aP5
theorem aP6 {op:UnOp} {t:TypeId} {x:Operand}:bF P ⟨some d,.unOp op t x,ty,pos,af,g⟩ s=dE (match bX P s.t x with
 |some a=>wY op a
 |none=>none):=rfl
theorem aP7 {t u:TypeId} {x:Operand}:bF P ⟨some d,.convert t u x,ty,pos,af,g⟩ s=dE (match bX P s.t x with
 |some a=>if(P.underlying t).isSome=true then match rO P u a with
  |some r=>some r
  |none=>dR P ⟨some d,.convert t u x,ty,pos,af,g⟩ (bX P s.t)else none
 |none=>none):=rfl
theorem aP8 {t:TypeId} {x:Operand} {f:Nat}:bF P ⟨some d,.fieldAddr t x f,ty,pos,af,g⟩ s=dE (match bX P s.t x with
 |some p=>sX P t f p
 |none=>none):=rfl
theorem aP9 {t:TypeId} {x:Operand} {f:Nat}:bF P ⟨some d,.field t x f,ty,pos,af,g⟩ s=dE (match bX P s.t x with
 |some p=>wW P t p f
 |none=>none):=rfl
theorem aQa {t:TypeId} {x i:Operand}:bF P ⟨some d,.indexAddr t x i,ty,pos,af,g⟩ s=dE (match bX P s.t x,bX P s.t i with
 |some a,some b=>oK P t a b s.o
 |_,_=>none):=rfl
theorem aQb {t:TypeId} {x i:Operand}:bF P ⟨some d,.index t x i,ty,pos,af,g⟩ s=dE (match bX P s.t x,bX P s.t i with
 |some a,some b=>uS P t a b
 |_,_=>none):=rfl
theorem aQc {t:TypeId} {x:Operand} {lo hi:Option Operand}:bF P ⟨some d,.slice t x lo hi none,ty,pos,af,g⟩ s=dE (match bX P s.t x,lo.map (bX P s.t),hi.map (bX P s.t)with
 |some _,some none,_=>none
 |some _,_,some none=>none
 |some a,l,h=>iR P t a (l.bind id) (h.bind id) s.o
 |none,_,_=>none):=rfl
theorem aQd {x:Operand} {i:Nat}:bF P ⟨some d,.extract x i,ty,pos,af,g⟩ s=dE (match bX P s.t x with
 |some (.tup vs)=>(vs[i]?).map fun a=>⟨true,a⟩
 |_=>none):=rfl
theorem aQe {t:TypeId} {parts:Array (Nat×Operand)}:bF P ⟨some d,.build t parts,ty,pos,af,g⟩ s=dE (wX P t (nK (bX P s.t) parts.toList)):=rfl
theorem aQf {f:FuncId} {first caps:Array Operand}:bF P ⟨some d,.makeFunc (.func f) first caps,ty,pos,af,g⟩ s=dE (if first.size=0 then(mO (bX P s.t) caps.toList).map fun cs=>⟨true,.clo f cs⟩else none):=rfl
theorem aQg {x:Operand}:bF P ⟨some d,.nilCheck x,ty,pos,af,g⟩ s=dE (match bX P s.t x with
 |some (.ptr L i o)=>some ⟨true,.ptr L i o⟩
 |some (.iptr l xs i o)=>some ⟨true,.iptr l xs i o⟩
 |_=>none):=rfl
theorem aQh {xs:Array Operand} {ts:Array TypeId}:bF P ⟨some d,.call ⟨.builtin .len,xs,ts⟩,ty,pos,af,g⟩ s=dE (match xs.toList,ts.toList with
 | [x],[t]=>match bX P s.t x with
  |some a=>nJ P t a
  |none=>none
 |_,_=>none):=rfl
theorem aQi {xs:Array Operand} {ts:Array TypeId}:bF P ⟨some d,.call ⟨.builtin .cap,xs,ts⟩,ty,pos,af,g⟩ s=dE (match xs.toList,ts.toList with
 | [x],[t]=>match bX P s.t x with
  |some a=>wV P t a
  |none=>none
 |_,_=>none):=rfl
theorem aQj {xs:Array Operand} {ts:Array TypeId}:bF P ⟨some d,.call ⟨.builtin .min,xs,ts⟩,ty,pos,af,g⟩ s=dE (dR P ⟨some d,.call ⟨.builtin .min,xs,ts⟩,ty,pos,af,g⟩ (bX P s.t)):=rfl
theorem aQk {xs:Array Operand} {ts:Array TypeId}:bF P ⟨some d,.call ⟨.builtin .max,xs,ts⟩,ty,pos,af,g⟩ s=dE (dR P ⟨some d,.call ⟨.builtin .max,xs,ts⟩,ty,pos,af,g⟩ (bX P s.t)):=rfl
theorem aQl {t:TypeId}:bF P ⟨some d,.alloc t,ty,pos,af,g⟩ s=iH (xD P t d s):=rfl
theorem aQm {t:TypeId} {x:Operand}:bF P ⟨some d,.box t x,ty,pos,af,g⟩ s=(match ev s.t x with
 |some a=>iH (xE a d s)
 |none=> .no):=rfl
theorem aQn {t:TypeId} {p x:Operand}:bF P ⟨none,.store t p x,ty,pos,af,g⟩ s=(match ev s.t p,ev s.t x with
 |some a,some b=>iH (uW P t a b s)
 |_,_=> .no):=rfl
theorem aQo {t:TypeId} {len:Nat} {parts:Array (Nat×Operand)}:bF P ⟨some d,.buildSlice t len parts,ty,pos,af,g⟩ s=iH (xI P t len (nK (ev s.t) parts.toList) d s):=rfl
theorem aQp {xs:Array Operand} {ts:Array TypeId}:bF P ⟨some d,.call ⟨.builtin .append,xs,ts⟩,ty,pos,af,g⟩ s=(match xs.toList,ts.toList with
 | [x,y],[st,xt]=>match ev s.t x,ev s.t y with
  |some a,some b=>iH (pH P st xt a b d s)
  |_,_=> .no
 |_,_=> .no):=rfl
theorem aQq {f:Operand} {xs:Array Operand} {ts:Array TypeId}:bF P ⟨some d,.call ⟨.value f,xs,ts⟩,ty,pos,af,g⟩ s=(match ev s.t f,mO (ev s.t) xs.toList with
 |some (.clo g caps),some as=> .c g (as++caps)
 |some (.yl L),some as=> .y (.yl L::as)
 |_,_=> .no):=rfl
end ops
theorem aQr {n:Int} (h1: -9223372036854775808≤n) (h2:n≤9223372036854775807):IntKind.i64.wrap n=n:=IntWalk.i64_in n ⟨h1,h2⟩
theorem aQs {n:Int} (h1:0≤n) (h2:n≤18446744073709551615):IntKind.u64.wrap n=n:=IntWalk.u64_in n ⟨h1,h2⟩
theorem aQt {n:Int} (h1:0≤n) (h2:n≤255):IntKind.u8.wrap n=n:=IntWalk.u8_in n ⟨h1,h2⟩
theorem aQu {n:Int} (h1: -2147483648≤n) (h2:n≤2147483647):IntKind.i32.wrap n=n:=IntWalk.i32_in n ⟨h1,h2⟩
theorem aQv {n:Int} (h1:0≤n) (h2:n≤4294967295):IntKind.u32.wrap n=n:=IntWalk.u32_in n ⟨h1,h2⟩
theorem aQw {a b:Int} (h:0≤a):a.tdiv b=a / b:=Int.tdiv_eq_ediv_of_nonneg h
theorem aQx {a b:Int} (h:0≤a):a.tmod b=a % b:=Int.tmod_eq_emod_of_nonneg h
theorem aQy {ρ:Operand→Option AV}:mO ρ []=some []:=rfl
theorem aQz {ρ:Operand→Option AV} {x:Operand} {r:List Operand}:mO ρ (x::r)=(match ρ x with
 |some a=>match mO ρ r with
  |some as=>some (a::as)
  |none=>none
 |none=>none):=by
 simp only[mO,List.mapM_cons]
 cases ρ x with
 |none=>rfl
 |some a=>
  simp
  cases List.mapM ρ r<;>rfl
theorem aQ0 {ρ:Operand→Option AV}:nK ρ []=some []:=rfl
theorem aQ1 {ρ:Operand→Option AV} {i:Nat} {x:Operand} {r:List (Nat×Operand)}:nK ρ ((i,x)::r)=(match ρ x with
 |some a=>match nK ρ r with
  |some as=>some ((i,a)::as)
  |none=>none
 |none=>none):=by
 simp only[nK,List.mapM_cons]
 cases ρ x with
 |none=>rfl
 |some a=>
  simp
  cases List.mapM (fun p:Nat×Operand=>Option.map (fun a=>(p.1,a)) (ρ p.2)) r<;>rfl
theorem aQ2 {cs:List AV}:(AV.agg cs).cells=cs:=rfl
theorem aQ3 {v:Value}:(AV.sc v).cells= [.sc v]:=rfl
theorem aQ4 {l f:Bool} {xs:List AV}:(AV.list l f xs).cells= [.list l f xs]:=rfl
theorem aQ5 {l:Bool} {xs:List AV} {i o:Nat}:(AV.iptr l xs i o).cells= [.iptr l xs i o]:=rfl
theorem aQ6 {a b c:Nat}:(AV.ref a b c).cells= [.ref a b c]:=rfl
theorem aQ7 {a b c:Nat}:(AV.ptr a b c).cells= [.ptr a b c]:=rfl
theorem aQ8 {g:FuncId} {cs:List AV}:(AV.clo g cs).cells= [.clo g cs]:=rfl
theorem aQ9 {cs:List AV}:(AV.agg cs).isAgg=true:=rfl
theorem aRa {v:Value}:(AV.sc v).isAgg=false:=rfl
theorem aRb {l f:Bool} {xs:List AV}:(AV.list l f xs).isAgg=false:=rfl
theorem aRc {l:Bool} {xs:List AV} {i o:Nat}:(AV.iptr l xs i o).isAgg=false:=rfl
theorem aRd {a b c:Nat}:(AV.ref a b c).isAgg=false:=rfl
theorem aRe {a b c:Nat}:(AV.ptr a b c).isAgg=false:=rfl
theorem aRf {g:FuncId} {cs:List AV}:(AV.clo g cs).isAgg=false:=rfl
theorem aRg {cs:List AV}:(AV.agg cs).plain=true:=rfl
theorem aRh {v:Value}:(AV.sc v).plain=true:=rfl
theorem aRi {l f:Bool} {xs:List AV}:(AV.list l f xs).plain=true:=rfl
theorem aRj {l:Bool} {xs:List AV} {i o:Nat}:(AV.iptr l xs i o).plain=true:=rfl
theorem aRk {a b c:Nat}:(AV.ref a b c).plain=true:=rfl
theorem aRl {a b c:Nat}:(AV.ptr a b c).plain=true:=rfl
theorem aRm {g:FuncId} {cs:List AV}:(AV.clo g cs).plain=true:=rfl
theorem aRn {cs:List AV}:(AV.agg cs).pure=AV.pureL cs:=by simp[AV.pure]
theorem aRo {v:Value}:(AV.sc v).pure=true:=by simp[AV.pure]
theorem aRp {l f:Bool} {xs:List AV}:(AV.list l f xs).pure= !l:=by simp[AV.pure]
theorem aRq {l:Bool} {xs:List AV} {i o:Nat}:(AV.iptr l xs i o).pure= !l:=by simp[AV.pure]
theorem aRr {a b c:Nat}:(AV.ref a b c).pure=false:=by simp[AV.pure]
theorem aRs {a b c:Nat}:(AV.ptr a b c).pure=false:=by simp[AV.pure]
theorem aRt:AV.dead.pure=false:=by simp[AV.pure]
theorem aRu {g:FuncId} {cs:List AV}:(AV.clo g cs).pure=AV.pureL cs:=by simp[AV.pure]
theorem aRv:AV.pureL []=true:=rfl
theorem aRw {a:AV} {r:List AV}:AV.pureL (a::r)=(a.pure&&AV.pureL r):=by simp[AV.pureL]
theorem aRx {L:Nat} {cs:List AV}:(AV.agg cs).has L=AV.hasL L cs:=by simp[AV.has]
theorem aRy {L:Nat} {v:Value}:(AV.sc v).has L=false:=rfl
theorem aRz {L:Nat} {l f:Bool} {xs:List AV}:(AV.list l f xs).has L=false:=rfl
theorem aR0 {L:Nat} {l:Bool} {xs:List AV} {i o:Nat}:(AV.iptr l xs i o).has L=false:=rfl
theorem aR1 {L a b c:Nat}:(AV.ref a b c).has L=(L==a):=rfl
theorem aR2 {L a b c:Nat}:(AV.ptr a b c).has L=(L==a):=rfl
theorem aR3 {L a b c d e:Nat}:(AV.aref a b c d e).has L=(L==a):=rfl
theorem aR4 {L:Nat} {g:FuncId} {cs:List AV}:(AV.clo g cs).has L=AV.hasL L cs:=rfl
theorem aR5 {L:Nat}:AV.dead.has L=false:=rfl
theorem aR6 {L:Nat}:AV.hasL L []=false:=rfl
theorem aR7 {L:Nat} {a:AV} {r:List AV}:AV.hasL L (a::r)=(a.has L||AV.hasL L r):=rfl
theorem aR8 {op:BinOp} {t:TypeId} {k k':IntKind} {u v:Int}:iZ P op t (.sc (.int k u)) (.sc (.int k' v))=if k=k' then pF op k u v else if op= .shr then pF .shr k u v else none:=rfl
theorem aR9 {op:BinOp} {t:TypeId} {u v:ByteArray}:iZ P op t (.sc (.string u)) (.sc (.string v))=sW op u v:=rfl
theorem aSa {t:TypeId} {u v:Bool}:iZ P .eql t (.sc (.bool u)) (.sc (.bool v))=if uR P t=true then some ⟨true,bl (u==v)⟩else none:=rfl
theorem aSb {t:TypeId} {u v:Bool}:iZ P .neq t (.sc (.bool u)) (.sc (.bool v))=if uR P t=true then some ⟨true,bl (!(u==v))⟩else none:=rfl
theorem aSc {op:BinOp} {t:TypeId} {a:AV} {cs:List AV}:iZ P op t a (.agg cs)=none:=by
 cases a<;>first|rfl|(rename_i v;cases v<;>rfl)
def Q4 (d:Option (Bool×Nat)) (e:Option (AV×Nat)):Option Sv:=
 match d,e with
 |some (ag,size),some (y,o)=>(jN y ag size o).map fun a=>⟨true,a⟩
 |_,_=>none
theorem aSd {t:TypeId} {p:AV} {ob:aF}:mN P t p ob=Q4 (aU P t) (kZ ob p):=by
 unfold mN Q4
 cases aU P t with
 |none=>rfl
 |some q=>obtain⟨a,b⟩:=q;cases kZ ob p<;>rfl
theorem aSe {ag:Bool} {size o:Nat} {y:AV}:Q4 (some (ag,size)) (some (y,o))=(jN y ag size o).map fun a=>⟨true,a⟩:=rfl
theorem aSf {y:AV} {size o:Nat}:jN y true size o=if o+size≤y.cells.length then some (if o=0∧size=y.cells.length∧y.isAgg=true then y else .agg ((y.cells.drop o).take size))else none:=rfl
theorem aSg {y:AV} {size o:Nat}:jN y false size o=y.cells[o]?:=rfl
def Q5 (x:Option AObj) (i o:Nat):Option (AV×Nat):=
 match x with
 |some x=>(x.xs[i]?).map fun y=>(y,o)
 |none=>none
theorem aSh {ob:aF} {L i o:Nat}:kZ ob (.ptr L i o)=Q5 (lk ob L) i o:=by simp only[kZ,Q5];cases lk ob L<;>rfl
theorem aSi {x:AObj} {i o:Nat}:Q5 (some x) i o=(x.xs[i]?).map fun y=>(y,o):=rfl
theorem aSj {ob:aF} {l:Bool} {xs:List AV} {i o:Nat}:kZ ob (.iptr l xs i o)=(xs[i]?).map fun y=>(y,o):=rfl
def Q6 (d:Option (Nat×TypeId×Nat)) (p:AV):Option Sv:=
 match d with
 |some (off,_,n)=>match p with
  | .iptr l xs i o=>some ⟨decide (n≠0),.iptr l xs i (o+off)⟩
  | .ptr L i o=>some ⟨decide (n≠0),.ptr L i (o+off)⟩
  |_=>none
 |none=>none
theorem aSk {t:TypeId} {f:Nat} {p:AV}:sX P t f p=Q6 (cM P t f) p:=rfl
theorem aSl {off n:Nat} {ft:TypeId} {l:Bool} {xs:List AV} {i o:Nat}:Q6 (some (off,ft,n)) (.iptr l xs i o)=some ⟨decide (n≠0),.iptr l xs i (o+off)⟩:=rfl
theorem aSm {off n:Nat} {ft:TypeId} {L i o:Nat}:Q6 (some (off,ft,n)) (.ptr L i o)=some ⟨decide (n≠0),.ptr L i (o+off)⟩:=rfl
theorem aSn {t:TypeId} {s:ByteArray}:nJ P t (.sc (.string s))=if lR P t=true then some ⟨true,nt .i64 s.size⟩else none:=rfl
def tJ (d:Option (TypeId×Nat×Nat)) (n:Nat):Option Sv:=match d with
 |some _=>some ⟨true,nt .i64 n⟩
 |none=>none
theorem aSo {q:TypeId×Nat×Nat} {n:Nat}:tJ (some q) n=some ⟨true,nt .i64 n⟩:=rfl
theorem aSp {t:TypeId} {l f:Bool} {xs:List AV}:nJ P t (.list l f xs)=tJ (bV P t) xs.length:=rfl
theorem aSq {t:TypeId} {L lo n:Nat}:nJ P t (.ref L lo n)=tJ (bV P t) n:=rfl
theorem aSr {t:TypeId} {L i o es n:Nat}:nJ P t (.aref L i o es n)=tJ (bV P t) n:=rfl
def aDr (d:Option (TypeId×Nat×Nat)) (l:Bool) (xs:List AV) (i:Int):Option Sv:=match d with
 |some (_,es,_)=>some ⟨decide (0≤i∧i<xs.length∧ ∀y,xs[i.toNat]?=some y→y.cells.length=es),.iptr l xs i.toNat 0⟩
 |none=>none
theorem aSs {t:TypeId} {l f:Bool} {xs:List AV} {k:IntKind} {i:Int} {ob:aF}:oK P t (.list l f xs) (.sc (.int k i)) ob=aDr (bV P t) l xs i:=rfl
theorem aSt {e:TypeId} {es b:Nat} {l:Bool} {xs:List AV} {i:Int}:aDr (some (e,es,b)) l xs i=some ⟨decide (0≤i∧i<xs.length∧ ∀y,xs[i.toNat]?=some y→y.cells.length=es),.iptr l xs i.toNat 0⟩:=rfl
def Q7 (d:Option (TypeId×Nat×Nat)) (x:Option AObj) (L lo n:Nat) (i:Int):Option Sv:=match d,x with
 |some (_,es,_),some x=>some ⟨decide (x.es=es∧0≤i∧i<n),.ptr L (lo+i.toNat) 0⟩
 |_,_=>none
theorem aSu {t:TypeId} {L lo n:Nat} {k:IntKind} {i:Int} {ob:aF}:oK P t (.ref L lo n) (.sc (.int k i)) ob=Q7 (bV P t) (lk ob L) L lo n i:=by
 simp only[oK,Q7]
 cases bV P t<;>cases lk ob L<;>rfl
theorem aSv {e:TypeId} {es b:Nat} {x:AObj} {L lo n:Nat} {i:Int}:Q7 (some (e,es,b)) (some x) L lo n i=some ⟨decide (x.es=es∧0≤i∧i<n),.ptr L (lo+i.toNat) 0⟩:=rfl
def aDs (d:Option (TypeId×Nat×Nat)) (L k o es' n:Nat) (i:Int):Option Sv:=match d with
 |some (_,es,_)=>some ⟨decide (es'=es∧0≤i∧i<n),.ptr L k (o+i.toNat*es)⟩
 |none=>none
theorem aSw {t:TypeId} {L k o es n:Nat} {kk:IntKind} {i:Int} {ob:aF}:oK P t (.aref L k o es n) (.sc (.int kk i)) ob=aDs (bV P t) L k o es n i:=rfl
theorem aSx {e:TypeId} {es b:Nat} {L k o es' n:Nat} {i:Int}:aDs (some (e,es,b)) L k o es' n i=some ⟨decide (es'=es∧0≤i∧i<n),.ptr L k (o+i.toNat*es)⟩:=rfl
def aDt (d:Option (Nat×TypeId×Nat)) (L k o:Nat) (i:Int):Option Sv:=match d with
 |some (n,_,es)=>some ⟨decide (0≤i∧i<n),.ptr L k (o+i.toNat*es)⟩
 |none=>none
theorem aSy {t:TypeId} {L k o:Nat} {kk:IntKind} {i:Int} {ob:aF}:oK P t (.ptr L k o) (.sc (.int kk i)) ob=aDt (mM P t) L k o i:=rfl
theorem aSz {e:TypeId} {n es L k o:Nat} {i:Int}:aDt (some (n,e,es)) L k o i=some ⟨decide (0≤i∧i<n),.ptr L k (o+i.toNat*es)⟩:=rfl
def aDu (d:Option (Nat×TypeId×Nat)) (l:Bool) (xs:List AV) (k o:Nat) (i:Int):Option Sv:=match d with
 |some (n,_,es)=>some ⟨decide (0≤i∧i<n),.iptr l xs k (o+i.toNat*es)⟩
 |none=>none
theorem aS0 {t:TypeId} {l:Bool} {xs:List AV} {k o:Nat} {kk:IntKind} {i:Int} {ob:aF}:oK P t (.iptr l xs k o) (.sc (.int kk i)) ob=aDu (mM P t) l xs k o i:=rfl
theorem aS1 {e:TypeId} {n es k o:Nat} {l:Bool} {xs:List AV} {i:Int}:aDu (some (n,e,es)) l xs k o i=some ⟨decide (0≤i∧i<n),.iptr l xs k (o+i.toNat*es)⟩:=rfl
theorem aS2 {t:TypeId} {s:ByteArray} {k:IntKind} {i:Int}:uS P t (.sc (.string s)) (.sc (.int k i))=if lR P t=true then some ⟨decide (0≤i∧i<s.size),nt .u8 (s.data.toList.getD i.toNat 0).toNat⟩else none:=rfl
def aDv (d:Option (Nat×TypeId×Nat)) (P:Program) [Glob P] (cs:List AV):Option Sv:=match d with
 |some (off,ft,_)=>(qK P ft cs off).map fun a=>⟨true,a⟩
 |none=>none
theorem aS3 {t:TypeId} {cs:List AV} {f:Nat}:wW P t (.agg cs) f=aDv (cM P t f) P cs:=rfl
theorem aS4 {off n:Nat} {ft:TypeId} {cs:List AV}:aDv (some (off,ft,n)) P cs=(qK P ft cs off).map fun a=>⟨true,a⟩:=rfl
def Q8 (d:Option (Bool×Nat)) (cs:List AV) (off:Nat):Option AV:=match d with
 |some (true,n)=>some (.agg ((cs.drop off).take n))
 |some (false,_)=>cs[off]?
 |none=>none
theorem aS5 {t:TypeId} {cs:List AV} {off:Nat}:qK P t cs off=Q8 (aU P t) cs off:=rfl
theorem aS6 {n off:Nat} {cs:List AV}:Q8 (some (true,n)) cs off=some (.agg ((cs.drop off).take n)):=rfl
theorem aS7 {n off:Nat} {cs:List AV}:Q8 (some (false,n)) cs off=cs[off]?:=rfl
def aDw (z:Option AV) (k d:Nat) (s:ASt):Option St:=match z with
 |some z=>if z.plain=true∧z.has d=false then some ⟨decide (d<s.n),s.fresh d (boxK z k) (.ptr d 0 0)⟩else none
 |none=>none
theorem aS8 {t:TypeId} {d:Nat}:xD P t d s=aDw (zbS (aV P t) (aS P t) (A6 P t)) (aV P t) d s:=rfl
theorem zbS_zero {z r:Option AV}:zbS 0 z r=z:=rfl
theorem zbS_succ {n:Nat} {z r:Option AV}:zbS (n+1) z r=r:=rfl
theorem aS9 {a:AV} {k:Nat}:boxK a k=⟨false,false,false,a.cells.length,[a],k⟩:=rfl
theorem aTa {z:AV} {k d:Nat}:aDw (some z) k d s=if z.plain=true∧z.has d=false then some ⟨decide (d<s.n),s.fresh d (boxK z k) (.ptr d 0 0)⟩else none:=rfl
theorem aTb {b:AV} {d:Nat}:xE b d s=if b.plain=true∧b.has d=false then some ⟨decide (d<s.n),s.fresh d (iF b) (.ptr d 0 0)⟩else none:=rfl
theorem aTc {a:AV}:iF a=⟨false,false,false,a.cells.length,[a],0⟩:=rfl
theorem aTd {es:Nat} {xs:List AV}:cR es xs=⟨true,false,false,es,xs,0⟩:=rfl
def vG (x:Option AObj) (d:Option (Bool×Nat)) (L i o:Nat) (a:AV) (s:ASt):Option St:=match x,d with
 |some x,some (_,size)=>match x.xs[i]? with
  |some y=>if x.fz=false∧a.plain=true∧a.cells.length=size∧o+size≤y.cells.length then
   if x.arr=true then match share s a with
    |some (s1,b)=>match lk s1.o L with
     |some x1=>if x1.fz=false∧b.pure=true∧b.cells.length=size∧b.plain=true then some ⟨true,{s1 with o:=cY s1.o L {x1 with xs:=x1.xs.set i (kE y b o)}}⟩else none
     |none=>none
    |none=>none
   else some ⟨true,{s with o:=cY s.o L {x with xs:=x.xs.set i (kE y a o)}}⟩
   else none
  |none=>none
 |_,_=>none
theorem aTe {t:TypeId} {L i o:Nat} {a:AV}:uW P t (.ptr L i o) a s=vG (lk s.o L) (aU P t) L i o a s:=by
 simp only[uW,vG];cases lk s.o L<;>cases aU P t<;>rfl
def Q9 (y:Option AV) (fz pin:Bool) (es:Nat) (xs:List AV) (kd size L i o:Nat) (a:AV) (s:ASt):Option St:=match y with
 |some y=>if fz=false∧a.plain=true∧a.cells.length=size∧o+size≤y.cells.length then some ⟨true,{s with o:=cY s.o L ⟨false,fz,pin,es,xs.set i (kE y a o),kd⟩}⟩else none
 |none=>none
theorem aTf {kd:Nat} {fz pin ag:Bool} {es size L i o:Nat} {xs:List AV} {a:AV}:vG (some ⟨false,fz,pin,es,xs,kd⟩) (some (ag,size)) L i o a s=Q9 (xs[i]?) fz pin es xs kd size L i o a s:=by
 simp only[vG,Q9]
 cases xs[i]?<;>rfl
theorem aTg {kd:Nat} {y:AV} {fz pin:Bool} {es size L i o:Nat} {xs:List AV} {a:AV}:Q9 (some y) fz pin es xs kd size L i o a s=if fz=false∧a.plain=true∧a.cells.length=size∧o+size≤y.cells.length then some ⟨true,{s with o:=cY s.o L ⟨false,fz,pin,es,xs.set i (kE y a o),kd⟩}⟩else none:=rfl
def E3 (y:Option AV) (b:Option (ASt×AV)) (fz:Bool) (size L i o:Nat) (a:AV):Option St:=match y,b with
 |some y,some (s1,b)=>if fz=false∧a.plain=true∧a.cells.length=size∧o+size≤y.cells.length then match lk s1.o L with
  |some x1=>if x1.fz=false∧b.pure=true∧b.cells.length=size∧b.plain=true then some ⟨true,{s1 with o:=cY s1.o L {x1 with xs:=x1.xs.set i (kE y b o)}}⟩else none
  |none=>none
  else none
 |_,_=>none
theorem aTh {kd:Nat} {fz pin ag:Bool} {es size L i o:Nat} {xs:List AV} {a:AV}:vG (some ⟨true,fz,pin,es,xs,kd⟩) (some (ag,size)) L i o a s=E3 (xs[i]?) (share s a) fz size L i o a:=by
 simp only[vG,E3]
 cases xs[i]? with
 |none=>cases share s a<;>rfl
 |some y=>
  cases share s a with
  |none=>simp
  |some q=>rfl
def R0 (x1:Option AObj) (s1:ASt) (b y:AV) (size L i o:Nat):Option St:=match x1 with
 |some x1=>if x1.fz=false∧b.pure=true∧b.cells.length=size∧b.plain=true then some ⟨true,{s1 with o:=cY s1.o L {x1 with xs:=x1.xs.set i (kE y b o)}}⟩else none
 |none=>none
theorem aTi {y b a:AV} {s1:ASt} {fz:Bool} {size L i o:Nat}:E3 (some y) (some (s1,b)) fz size L i o a=if fz=false∧a.plain=true∧a.cells.length=size∧o+size≤y.cells.length then R0 (lk s1.o L) s1 b y size L i o else none:=by
 simp only[E3,R0]
theorem aTj {kd:Nat} {s1:ASt} {b y:AV} {size L i o:Nat} {arr fz pin:Bool} {es:Nat} {xs:List AV}:R0 (some ⟨arr,fz,pin,es,xs,kd⟩) s1 b y size L i o=
 if fz=false∧b.pure=true∧b.cells.length=size∧b.plain=true then some ⟨true,{s1 with o:=cY s1.o L ⟨arr,fz,pin,es,xs.set i (kE y b o),kd⟩}⟩else none:=rfl
theorem aTk {o:aF} {L:Nat} {x:AObj}:cY o L x=(L,x)::o:=rfl
theorem aTl {y a:AV} {o:Nat}:kE y a o=if o=0∧a.cells.length=y.cells.length∧a.isAgg=y.isAgg then a else .agg (splice y.cells a.cells o):=rfl
theorem aTm {α:Type} {cs ds:List α} {off:Nat}:splice cs ds off=cs.take off++ds++cs.drop (off+ds.length):=rfl
def aDx (d:Option (List AV×List (Nat×Nat))) (ps:Option (List (Nat×AV))):Option Sv:=match d,ps with
 |some (z,pl),some ps=>(pG (pl[·]?) z ps).map fun cs=>⟨true,.agg cs⟩
 |_,_=>none
theorem aTn {t:TypeId} {ps:Option (List (Nat×AV))}:wX P t ps=aDx (eY P t) ps:=rfl
def aDy (pl:List (Nat×Nat)) (p:Option (Nat×Nat)) (cs:List AV) (a:AV) (r:List (Nat×AV)):Option (List AV):=match p with
 |some (off,size)=>if a.plain=true∧a.cells.length=size∧off+size≤cs.length then pG (pl[·]?) (splice cs a.cells off) r else none
 |none=>none
def E4 (pl:List (Nat×Nat)) (cs:List AV) (ps:List (Nat×AV)):Option (List AV):=pG (pl[·]?) cs ps
theorem aTo {z:List AV} {pl:List (Nat×Nat)} {ps:List (Nat×AV)}:aDx (some (z,pl)) (some ps)=(E4 pl z ps).map fun cs=>⟨true,.agg cs⟩:=rfl
theorem aTp {pl:List (Nat×Nat)} {cs:List AV}:E4 pl cs []=some cs:=rfl
theorem aTq {pl:List (Nat×Nat)} {cs:List AV} {i:Nat} {a:AV} {r:List (Nat×AV)}:E4 pl cs ((i,a)::r)=aDy pl (pl[i]?) cs a r:=rfl
theorem aTr {pl:List (Nat×Nat)} {off size:Nat} {cs:List AV} {a:AV} {r:List (Nat×AV)}:aDy pl (some (off,size)) cs a r=if a.plain=true∧a.cells.length=size∧off+size≤cs.length then E4 pl (splice cs a.cells off) r else none:=rfl
def R1 (d:Option (TypeId×Nat×Nat)) (l h:Option Int) (len iY:Bool) (xs:List AV):Option Sv:=match d,l,h with
 |some (_,es,_),some l,some h=>some ⟨decide (0≤l∧l≤h∧h≤xs.length∧ ∀y∈xs,y.cells.length=es),.list len iY ((xs.drop l.toNat).take (h.toNat - l.toNat))⟩
 |_,_,_=>none
theorem aTs {t:TypeId} {len iY:Bool} {xs:List AV} {lo hi:Option AV} {ob:aF}:iR P t (.list len iY xs) lo hi ob=R1 (bV P t) (bd lo 0) (bd hi xs.length) len (iY&&hi.isNone) xs:=by
 simp only[iR,R1]
 cases bV P t<;>cases bd lo 0<;>cases bd hi xs.length<;>rfl
theorem aTt {e:TypeId} {es b:Nat} {l h:Int} {len iY:Bool} {xs:List AV}:R1 (some (e,es,b)) (some l) (some h) len iY xs=some ⟨decide (0≤l∧l≤h∧h≤xs.length∧ ∀y∈xs,y.cells.length=es),.list len iY ((xs.drop l.toNat).take (h.toNat - l.toNat))⟩:=rfl
def R2 (d:Option (TypeId×Nat×Nat)) (x:Option AObj) (l h:Option Int) (L b n:Nat):Option Sv:=match d,x,l,h with
 |some (_,es,_),some x,some l,some h=>some ⟨decide (x.es=es∧0≤l∧l≤h∧h≤n),.ref L (b+l.toNat) (h.toNat - l.toNat)⟩
 |_,_,_,_=>none
theorem aTu {t:TypeId} {L b n:Nat} {lo hi:Option AV} {ob:aF}:iR P t (.ref L b n) lo hi ob=R2 (bV P t) (lk ob L) (bd lo 0) (bd hi n) L b n:=by
 simp only[iR,R2]
 cases bV P t<;>cases lk ob L<;>cases bd lo 0<;>cases bd hi n<;>rfl
theorem aTv {e:TypeId} {es bb:Nat} {x:AObj} {l h:Int} {L b n:Nat}:R2 (some (e,es,bb)) (some x) (some l) (some h) L b n=some ⟨decide (x.es=es∧0≤l∧l≤h∧h≤n),.ref L (b+l.toNat) (h.toNat - l.toNat)⟩:=rfl
def R3 (c:Bool) (l h:Option Int) (s:ByteArray):Option Sv:=match c,l,h with
 |true,some l,some h=>some ⟨decide (0≤l∧l≤h∧h≤s.size),.sc (.string (s.extract l.toNat h.toNat))⟩
 |_,_,_=>none
theorem aTw {t:TypeId} {s:ByteArray} {lo hi:Option AV} {ob:aF}:iR P t (.sc (.string s)) lo hi ob=R3 (lR P t) (bd lo 0) (bd hi s.size) s:=by
 simp only[iR,R3]
 cases lR P t<;>cases bd lo 0<;>cases bd hi s.size<;>rfl
theorem aTx {l h:Int} {s:ByteArray}:R3 true (some l) (some h) s=some ⟨decide (0≤l∧l≤h∧h≤s.size),.sc (.string (s.extract l.toNat h.toNat))⟩:=rfl
def R4 (d:Option (Nat×TypeId×Nat)) (l:Option Int) (hi:Option AV) (L i o:Nat):Option Sv:=match d,l with
 |some (n,_,es),some l=>match bd hi n with
  |some h=>some ⟨decide (0≤l∧l≤h∧h≤n),.aref L i (o+l.toNat*es) es (h.toNat - l.toNat)⟩
  |none=>none
 |_,_=>none
theorem aTy {t:TypeId} {L i o:Nat} {lo hi:Option AV} {ob:aF}:iR P t (.ptr L i o) lo hi ob=R4 (mM P t) (bd lo 0) hi L i o:=by
 simp only[iR,R4]
 cases mM P t<;>cases bd lo 0<;>rfl
def aDz (h:Option Int) (n es:Nat) (l:Int) (L i o:Nat):Option Sv:=match h with
 |some h=>some ⟨decide (0≤l∧l≤h∧h≤n),.aref L i (o+l.toNat*es) es (h.toNat - l.toNat)⟩
 |none=>none
theorem aTz {e:TypeId} {n es:Nat} {l:Int} {hi:Option AV} {L i o:Nat}:R4 (some (n,e,es)) (some l) hi L i o=aDz (bd hi n) n es l L i o:=rfl
theorem aT0 {n es:Nat} {l h:Int} {L i o:Nat}:aDz (some h) n es l L i o=some ⟨decide (0≤l∧l≤h∧h≤n),.aref L i (o+l.toNat*es) es (h.toNat - l.toNat)⟩:=rfl
theorem aT1 {d:Int}:bd none d=some d:=rfl
theorem aT2 {k:IntKind} {i d:Int}:bd (some (.sc (.int k i))) d=some i:=rfl
def vH (a:Option AV) (l h:Option (Option AV)) (P:Program) [Glob P] (t:TypeId) (ob:aF):Option Sv:=match a,l,h with
 |some _,some none,_=>none
 |some _,_,some none=>none
 |some a,l,h=>iR P t a (l.bind id) (h.bind id) ob
 |none,_,_=>none
theorem aT3 {a:AV} {t:TypeId} {ob:aF}:vH (some a) none none P t ob=iR P t a none none ob:=rfl
theorem aT4 {a l:AV} {t:TypeId} {ob:aF}:vH (some a) (some (some l)) none P t ob=iR P t a (some l) none ob:=rfl
theorem aT5 {a h:AV} {t:TypeId} {ob:aF}:vH (some a) none (some (some h)) P t ob=iR P t a none (some h) ob:=rfl
theorem aT6 {a l h:AV} {t:TypeId} {ob:aF}:vH (some a) (some (some l)) (some (some h)) P t ob=iR P t a (some l) (some h) ob:=rfl
theorem aT7 {d:Nat} {ty:TypeId} {pos:String} {af:Array Edge} {g:Option (Nat×Bool)} {t:TypeId} {x:Operand} {lo hi:Option Operand}:
 bF P ⟨some d,.slice t x lo hi none,ty,pos,af,g⟩ s=dE (vH (bX P s.t x) (lo.map (bX P s.t)) (hi.map (bX P s.t)) P t s.o):=by simp only[aQc,vH]
def aD0 (d:Option (TypeId×Nat×Nat)) (z:TypeId→Option Value) (ps:Option (List (Nat×AV))) (len dd:Nat) (s:ASt):Option St:=match d,ps with
 |some (e,es,_),some ps=>match z e with
  |some _=>if ps.map (·.1)=List.range len then match mQ s (ps.map (·.2))with
   |some (s1,bs)=>some ⟨decide (dd<s1.n∧len*es≤2^24∧len≤dC∧ ∀b∈bs,b.pure=true∧b.cells.length=es),s1.fresh dd (cR es bs) (.ref dd 0 len)⟩
   |none=>none
   else none
  |none=>none
 |_,_=>none
theorem aT8 {t:TypeId} {len d:Nat} {ps:Option (List (Nat×AV))}:xI P t len ps d s=aD0 (bV P t) (dN P) ps len d s:=rfl
def R5 (z:Option Value) (es:Nat) (ps:List (Nat×AV)) (len dd:Nat) (s:ASt):Option St:=match z with
 |some _=>if ps.map (·.1)=List.range len then match mQ s (ps.map (·.2))with
  |some (s1,bs)=>some ⟨decide (dd<s1.n∧len*es≤2^24∧len≤dC∧ ∀b∈bs,b.pure=true∧b.cells.length=es),s1.fresh dd (cR es bs) (.ref dd 0 len)⟩
  |none=>none
  else none
 |none=>none
theorem aT9 {e:TypeId} {es b:Nat} {z:TypeId→Option Value} {ps:List (Nat×AV)} {len d:Nat}:aD0 (some (e,es,b)) z (some ps) len d s=R5 (z e) es ps len d s:=rfl
def R6 (x:Option (ASt×List AV)) (es len dd:Nat):Option St:=match x with
 |some (s1,bs)=>some ⟨decide (dd<s1.n∧len*es≤2^24∧len≤dC∧ ∀b∈bs,b.pure=true∧b.cells.length=es),s1.fresh dd (cR es bs) (.ref dd 0 len)⟩
 |none=>none
theorem aUa {v:Value} {es:Nat} {ps:List (Nat×AV)} {len d:Nat}:R5 (some v) es ps len d s=if ps.map (·.1)=List.range len then R6 (mQ s (ps.map (·.2))) es len d else none:=by
 simp only[R5,R6]
theorem aUb {s1:ASt} {bs:List AV} {es len d:Nat}:R6 (some (s1,bs)) es len d=some ⟨decide (d<s1.n∧len*es≤2^24∧len≤dC∧ ∀b∈bs,b.pure=true∧b.cells.length=es),s1.fresh d (cR es bs) (.ref d 0 len)⟩:=rfl
def pP (x:Option (ASt×AV)) (r:List AV) (f:ASt→List AV→Option (ASt×List AV)):Option (ASt×List AV):=match x with
 |some (s1,b)=>match f s1 r with
  |some (s2,bs)=>some (s2,b::bs)
  |none=>none
 |none=>none
def aD1 (b:AV) (x:Option (ASt×List AV)):Option (ASt×List AV):=match x with
 |some (s2,bs)=>some (s2,b::bs)
 |none=>none
theorem aUc {s1:ASt} {b:AV} {r:List AV} {f:ASt→List AV→Option (ASt×List AV)}:pP (some (s1,b)) r f=aD1 b (f s1 r):=rfl
theorem aUd {s2:ASt} {b:AV} {bs:List AV}:aD1 b (some (s2,bs))=some (s2,b::bs):=rfl
theorem aUe:mQ s []=some (s,[]):=rfl
theorem aUf {a:AV} {r:List AV}:mQ s (a::r)=pP (share s a) r mQ:=by first|rfl|(simp only[mQ,pP];done)|(simp only[mQ,pP];repeat' split)<;>simp_all
theorem aUg:kD s []=some (s,[]):=rfl
theorem aUh {a:AV} {r:List AV}:kD s (a::r)=pP (jB s a) r kD:=by first|rfl|(simp only[kD,pP];done)|(simp only[kD,pP];repeat' split)<;>simp_all
def R7 (x:Option (ASt×List AV)):Option (ASt×AV):=match x with
 |some (s1,ds)=>some (s1,.agg ds)
 |none=>none
theorem aUi {s1:ASt} {ds:List AV}:R7 (some (s1,ds))=some (s1,.agg ds):=rfl
theorem aUj {cs:List AV}:share s (.agg cs)=R7 (kD s cs):=rfl
theorem aUk {v:Value}:share s (.sc v)=some (s,.sc v):=by simp[share,jB,AV.pure]
theorem aUl {f:Bool} {xs:List AV}:share s (.list false f xs)=some (s,.list false f xs):=by simp[share,jB,AV.pure]
theorem aUm {L lo n:Nat}:share s (.ref L lo n)=jB s (.ref L lo n):=rfl
theorem aUn {v:Value}:jB s (.sc v)=some (s,.sc v):=by simp[jB,AV.pure]
theorem aUo {f:Bool} {xs:List AV}:jB s (.list false f xs)=some (s,.list false f xs):=by simp[jB,AV.pure]
def R8 (x:Option AObj) (s:ASt) (L lo n:Nat):Option (ASt×AV):=match x with
 |some x=>if x.arr=true∧x.pin=false then some (s.frz L x,.list false false (bY x.xs lo n))else none
 |none=>none
theorem aUp {L lo n:Nat}:jB s (.ref L lo n)=R8 (lk s.o L) s L lo n:=by
 simp only[jB,R8];cases lk s.o L<;>rfl
theorem aUq {kd:Nat} {fz:Bool} {es L lo n:Nat} {xs:List AV}:R8 (some ⟨true,fz,false,es,xs,kd⟩) s L lo n=some ({s with o:=(L,⟨true,true,false,es,xs,kd⟩)::s.o},.list false false (bY xs lo n)):=rfl
theorem tK {α:Type} {xs:List α}:bY xs 0 xs.length=xs:=by simp[bY]
theorem aUr {α:Type} {xs:List α} {lo n:Nat}:bY xs lo n=if lo=0∧n=xs.length then xs else(xs.drop lo).take n:=rfl
def vI (d:Option (TypeId×Nat×Nat)) (d2:Bool) (ys:Option (List AV)) (z:TypeId→Option Value) (kk:TypeId→Nat) (a:AV) (dd:Nat) (s:ASt):Option St:=match d,d2,ys with
 |some (e,es,bytes),true,some ys=>match z e with
  |some _=>match a with
   | .list _ true xs=>some ⟨decide (dd<s.n∧(∀zv,z e=some zv→zv.cells.size=es)∧(∀y∈ys,y.cells.length=es)∧(∀y∈xs,y.cells.length=es)∧bytes≠0∧(2*(xs.length+ys.length)+200)*bytes≤2^48∧(xs= []∨ys≠ [])),
    s.renew dd dd dd (gZ es (xs++ys) (kk e)) (.ref dd 0 (xs++ys).length)⟩
   | .ref L lo n=>match lk s.o L with
    |some x=>if x.arr=true∧x.fz=false∧lo=0 then
     some ⟨decide (dd<s.n∧(∀zv,z e=some zv→zv.cells.size=es)∧(∀y∈ys,y.cells.length=es)∧x.es=es∧bytes≠0∧(2*(n+ys.length)+200)*bytes≤2^48∧n≤x.xs.length),
      s.renew L (if x.pin=true then dd else L) dd (gZ es (bY x.xs 0 n++ys) (if x.kd=kk e then kk e else 0)) (.ref (if x.pin=true then dd else L) 0 (n+ys.length))⟩else none
    |none=>none
   |_=>none
  |none=>none
 |_,_,_=>none
theorem aUs {st xt:TypeId} {a b:AV} {d:Nat}:qN P st xt a b d s=vI (bV P st) (fQ P xt) (iG s.o b) (dN P) (dX P) a d s:=by
 simp only[qN,vI];cases bV P st<;>cases fQ P xt<;>cases iG s.o b<;>rfl
def aUt (x:Option AObj) (L n es bytes k dd:Nat) (ys:List AV) (s:ASt):Option St:=match x with
 |some x=>if x.arr=true∧x.fz=false then some ⟨decide (dd<s.n∧(∀y∈ys,y.cells.length=es)∧x.es=es∧(2*(n+ys.length)+200)*bytes≤2^48∧n≤x.xs.length),
  s.renew L (if x.pin=true then dd else L) dd (gZ es (bY x.xs 0 n++ys) (if x.kd=k then k else 0)) (.ref (if x.pin=true then dd else L) 0 (n+ys.length))⟩else none
 |none=>none
theorem aUu {kd k:Nat} {L n es es' bytes d:Nat} {xs ys:List AV} {pin:Bool}:aUt (some ⟨true,false,pin,es',xs,kd⟩) L n es bytes k d ys s=some ⟨decide (d<s.n∧(∀y∈ys,y.cells.length=es)∧es'=es∧(2*(n+ys.length)+200)*bytes≤2^48∧n≤xs.length),
 s.renew L (if pin=true then d else L) d (gZ es (bY xs 0 n++ys) (if kd=k then k else 0)) (.ref (if pin=true then d else L) 0 (n+ys.length))⟩:=rfl
theorem aUv {es k:Nat} {xs:List AV}:gZ es xs k=⟨true,false,false,es,xs,k⟩:=rfl
theorem aUw {o:aF} {l f:Bool} {ys:List AV}:iG o (.list l f ys)=some ys:=rfl
theorem aUx {o:aF} {L lo n:Nat}:iG o (.ref L lo n)=jC o (.ref L lo n):=rfl
theorem aUy {o:aF} {b:ByteArray}:iG o (.sc (.string b))=some (b.data.toList.map eC):=rfl
def E5 (x:Option AObj) (lo n:Nat):Option (List AV):=match x with
 |some x=>if x.arr=true then some (bY x.xs lo n)else none
 |none=>none
theorem aUz {o:aF} {l f:Bool} {ys:List AV}:jC o (.list l f ys)=some ys:=rfl
theorem aU0 {o:aF} {L lo n:Nat}:jC o (.ref L lo n)=E5 (lk o L) lo n:=by first|rfl|(simp only[jC,E5];done)|(simp only[jC,E5];repeat' split)<;>simp_all
theorem aU1 {kd:Nat} {fz pin:Bool} {es lo n:Nat} {xs:List AV}:E5 (some ⟨true,fz,pin,es,xs,kd⟩) lo n=some (bY xs lo n):=rfl
def yJ (b:Option AV) (x:Option (List AV)):Option (List AV):=match b,x with
 |some b,some bs=>some (b::bs)
 |_,_=>none
theorem aU2 {b:AV} {bs:List AV}:yJ (some b) (some bs)=some (b::bs):=rfl
theorem aU3 {o:aF}:jD o []=some []:=rfl
theorem aU4 {o:aF} {a:AV} {r:List AV}:jD o (a::r)=yJ (lS o a) (jD o r):=by
 simp only[jD,yJ]
 cases lS o a with
 |none=>rfl
 |some b=>cases jD o r<;>rfl
theorem aU5 {o:aF}:lA o []=some []:=rfl
theorem aU6 {o:aF} {a:AV} {r:List AV}:lA o (a::r)=yJ (hH o a) (lA o r):=by
 simp only[lA,yJ]
 cases hH o a with
 |none=>rfl
 |some b=>cases lA o r<;>rfl
theorem aU7 {o:aF} {cs:List AV}:lS o (.agg cs)=(lA o cs).map .agg:=rfl
theorem aU8 {o:aF} {g:FuncId} {cs:List AV}:lS o (.clo g cs)=(lA o cs).map (.clo g):=rfl
theorem aU9 {o:aF} {v:Value}:lS o (.sc v)=some (.sc v):=rfl
theorem aVa {o:aF} {l f:Bool} {xs:List AV}:lS o (.list l f xs)=some (.list l f xs):=rfl
theorem aVb {o:aF} {l:Bool} {xs:List AV} {i k:Nat}:lS o (.iptr l xs i k)=some (.iptr l xs i k):=rfl
theorem aVc {o:aF}:lS o .dead=some .dead:=rfl
theorem aVd {o:aF} {v:Value}:hH o (.sc v)=some (.sc v):=rfl
theorem aVe {o:aF} {l f:Bool} {xs:List AV}:hH o (.list l f xs)=some (.list l f xs):=rfl
theorem aVf {o:aF} {l:Bool} {xs:List AV} {i k:Nat}:hH o (.iptr l xs i k)=some (.iptr l xs i k):=rfl
theorem aVg {o:aF}:hH o .dead=some .dead:=rfl
theorem aVh {o:aF} {L lo n:Nat}:lS o (.ref L lo n)=hH o (.ref L lo n):=rfl
theorem aVi {o:aF} {L i k:Nat}:lS o (.ptr L i k)=hH o (.ptr L i k):=rfl
theorem aVj {o:aF} {L i k es n:Nat}:lS o (.aref L i k es n)=hH o (.aref L i k es n):=rfl
def E6 (x:Option AObj) (lo n:Nat):Option AV:=match x with
 |some x=>if x.arr=true then some (.list (!x.fz) false (bY x.xs lo n))else none
 |none=>none
theorem aVk {o:aF} {L lo n:Nat}:hH o (.ref L lo n)=E6 (lk o L) lo n:=by first|rfl|(simp only[hH,E6];done)|(simp only[hH,E6];repeat' split)<;>simp_all
theorem aVl {kd:Nat} {fz pin:Bool} {es lo n:Nat} {xs:List AV}:E6 (some ⟨true,fz,pin,es,xs,kd⟩) lo n=some (.list (!fz) false (bY xs lo n)):=rfl
def E7 (x:Option AObj) (i k:Nat):Option AV:=match x with
 |some x=>if x.arr=true∨AV.pureL x.xs=true then some (.iptr true x.xs i k)else none
 |none=>none
theorem aVm {o:aF} {L i k:Nat}:hH o (.ptr L i k)=E7 (lk o L) i k:=by first|rfl|(simp only[hH,E7];done)|(simp only[hH,E7];repeat' split)<;>simp_all
theorem aVn {kd:Nat} {arr fz pin:Bool} {es i k:Nat} {xs:List AV}:E7 (some ⟨arr,fz,pin,es,xs,kd⟩) i k=if arr=true∨AV.pureL xs=true then some (.iptr true xs i k)else none:=rfl
def E8 (y:Option AV) (k es n:Nat):Option AV:=match y with
 |some y=>if y.pure=true∧k+n*es≤y.cells.length∧n≤1048576∧y.isAgg=true then some (.list true false ((List.range n).map fun j=>pI y.cells (k+j*es) es))else none
 |none=>none
def R9 (x:Option AObj) (i k es n:Nat):Option AV:=match x with
 |some x=>E8 (x.xs[i]?) k es n
 |none=>none
theorem aVo {o:aF} {L i k es n:Nat}:hH o (.aref L i k es n)=R9 (lk o L) i k es n:=by
 simp only[hH,R9]
 cases lk o L with
 |none=>rfl
 |some x=>simp only[E8];cases x.xs[i]?<;>rfl
theorem aVp {x:AObj} {i k es n:Nat}:R9 (some x) i k es n=E8 (x.xs[i]?) k es n:=rfl
theorem aVq {y:AV} {k es n:Nat}:E8 (some y) k es n=if y.pure=true∧k+n*es≤y.cells.length∧n≤1048576∧y.isAgg=true then some (.list true false ((List.range n).map fun j=>pI y.cells (k+j*es) es))else none:=rfl
theorem aVr {cs:List AV} {off es:Nat}:pI cs off es=if es=1 then cs.getD off .dead else .agg ((cs.drop off).take es):=rfl
theorem aVs {d es:Nat} {xs:List AV}:nN s d (.own es xs)=s.renew d d d (cR es xs) (.ref d 0 xs.length):=rfl
theorem aVt {d:Nat} {v:Value}:nN s d (.sc v)=s.put d (.sc v):=rfl
theorem aVu {d:Nat} {cs:List AV}:nN s d (.agg cs)=s.put d (.agg cs):=rfl
theorem aVv {d:Nat} {l f:Bool} {xs:List AV}:nN s d (.list l f xs)=s.put d (.list l f xs):=rfl
theorem aVw {d:Nat} {g:FuncId} {cs:List AV}:nN s d (.clo g cs)=s.put d (.clo g cs):=rfl
def aD2 (d:Nat) (x:ASt×List AV):ASt:=x.1.put d (.tup x.2)
theorem aVx {d:Nat} {rs:List AV}:nN s d (.tup rs)=aD2 d (eJ s.n d 0 s rs):=rfl
theorem aVy {d:Nat} {s1:ASt} {cs:List AV}:aD2 d (s1,cs)=s1.put d (.tup cs):=rfl
def yK (b:AV) (x:ASt×List AV):ASt×List AV:=(x.1,b::x.2)
theorem aVz {b:AV} {s1:ASt} {cs:List AV}:yK b (s1,cs)=(s1,b::cs):=rfl
theorem aV0 {n d i:Nat}:eJ n d i s []=(s,[]):=rfl
theorem aV1 {n d i es:Nat} {xs rs:List AV}:eJ n d i s (.own es xs::rs)=yK (.ref (n*(i+1)+d) 0 xs.length) (eJ n d (i+1) (s.adopt (n*(i+1)+d) (cR es xs)) rs):=rfl
theorem aV2 {n d i:Nat} {v:Value} {rs:List AV}:eJ n d i s (.sc v::rs)=yK (.sc v) (eJ n d (i+1) s rs):=rfl
theorem aV3 {n d i:Nat} {cs:List AV} {rs:List AV}:eJ n d i s (.agg cs::rs)=yK (.agg cs) (eJ n d (i+1) s rs):=rfl
theorem aV4 {n d i:Nat} {l f:Bool} {xs rs:List AV}:eJ n d i s (.list l f xs::rs)=yK (.list l f xs) (eJ n d (i+1) s rs):=rfl
theorem aV5 {n:Nat} {as:List AV}:qV n as=⟨n,(as.zipIdx 0).map fun p=>(p.2,p.1),[]⟩:=rfl
def vJ (a:Option AV) (r:Option (List AV)):Option (List AV):=match a,r with
 |some a,some as=>some (a::as)
 |_,_=>none
theorem aV6 {a:AV} {r:List AV}:vJ (some a) (some r)=some (a::r):=rfl
theorem aV7:gF P s []=some []:=rfl
theorem aV8 {r:ResultVar} {rs:List ResultVar}:gF P s (r::rs)=vJ (qU P s r) (gF P s rs):=by
 simp only[gF,vJ];cases qU P s r<;>cases gF P s rs<;>rfl
theorem aV9 {t:Nat}:qU P s (.tmp t)=lk s.t t:=rfl
def E9 (p:Option AV) (t:TypeId) (P:Program) [Glob P] (o:aF):Option AV:=match p with
 |some (.ptr L i k)=>(mN P t (.ptr L i k) o).map (·.val)
 |_=>none
theorem aWa {a:Nat} {t:TypeId}:qU P s (.cell a t)=E9 (lk s.t a) t P s.o:=by first|rfl|(simp only[qU,E9];done)|(simp only[qU,E9];repeat' split)<;>simp_all
theorem aWb {L i k:Nat} {t:TypeId} {o:aF}:E9 (some (.ptr L i k)) t P o=(mN P t (.ptr L i k) o).map (·.val):=rfl
theorem aWc:lD [] s=some s:=rfl
def F3 (x:Option AObj) (L:Nat) (r:List Nat) (s:ASt):Option ASt:=match x with
 |some x=>if x.arr=true then lD r (s.frz L x)else none
 |none=>none
theorem aWd {L:Nat} {r:List Nat}:lD (L::r) s=F3 (lk s.o L) L r s:=by first|rfl|(simp only[lD,F3];done)|(simp only[lD,F3];repeat' split)<;>simp_all
theorem aWe {kd:Nat} {fz pin:Bool} {es L:Nat} {xs:List AV} {r:List Nat}:F3 (some ⟨true,fz,pin,es,xs,kd⟩) L r s=lD r {s with o:=(L,⟨true,true,pin,es,xs,kd⟩)::s.o}:=rfl
def F4 (x:Option (ASt×List AV)):Option AV:=match x with
 |some (s2,ys)=>if nV (fY ys)=true then(mV s2.o ys).map gG else none
 |none=>none
theorem aWf {s2:ASt} {ys:List AV}:F4 (some (s2,ys))=if nV (fY ys)=true then(mV s2.o ys).map gG else none:=rfl
def S0 (xs:Option (List AV)) (s1:Option ASt):Option AV:=match xs,s1 with
 |some xs,some s1=>F4 (mU s1 xs)
 |_,_=>none
theorem aWg {rs:List ResultVar} {fs:List Nat}:pO P rs fs s=S0 (gF P s rs) (lD fs s):=by
 simp only[pO,S0]
 cases gF P s rs with
 |none=>rfl
 |some xs=>cases lD fs s with
  |none=>rfl
  |some s1=>simp only[F4];cases mU s1 xs<;>rfl
theorem aWh {xs:List AV} {s1:ASt}:S0 (some xs) (some s1)=F4 (mU s1 xs):=rfl
theorem aWi:mU s []=some (s,[]):=rfl
theorem aWj {a:AV} {r:List AV}:mU s (a::r)=pP (oR s a) r mU:=by first|rfl|(simp only[mU,pP];done)|(simp only[mU,pP];repeat' split)<;>simp_all
theorem aWk {L lo n:Nat}:oR s (.ref L lo n)=some (s,.ref L lo n):=rfl
theorem aWl {v:Value}:oR s (.sc v)=some (s,.sc v):=by simp[oR,share,jB,AV.pure]
theorem aWm {cs:List AV}:oR s (.agg cs)=R7 (kD s cs):=rfl
theorem aWn {f:Bool} {xs:List AV}:oR s (.list false f xs)=some (s,.list false f xs):=by simp[oR,share,jB,AV.pure]
theorem aWo {g:FuncId} {cs:List AV}:oR s (.clo g cs)=if AV.pureL cs=true then some (s,.clo g cs)else none:=rfl
theorem aWp {o:aF}:mV o []=some []:=rfl
theorem aWq {o:aF} {a:AV} {r:List AV}:mV o (a::r)=vJ (lG o a) (mV o r):=by first|rfl|(simp only[mV,vJ];done)|(simp only[mV,vJ];repeat' split)<;>simp_all
theorem aWr {o:aF} {v:Value}:lG o (.sc v)=some (.sc v):=by simp[lG,AV.pure]
theorem aWs {o:aF} {cs:List AV}:lG o (.agg cs)=if AV.pureL cs=true then some (.agg cs)else none:=rfl
theorem aWt {o:aF} {g:FuncId} {cs:List AV}:lG o (.clo g cs)=if AV.pureL cs=true then some (.clo g cs)else none:=rfl
theorem aWu {o:aF} {f:Bool} {xs:List AV}:lG o (.list false f xs)=some (.list false f xs):=by simp[lG,AV.pure]
def vK (x:Option AObj) (lo n:Nat):Option AV:=match x with
 |some x=>if x.arr=true then(if x.fz=true then some (.list false false (bY x.xs lo n))else if x.pin=false∧lo=0∧n=x.xs.length then some (.own x.es x.xs)else none)else none
 |none=>none
theorem aWv {o:aF} {L lo n:Nat}:lG o (.ref L lo n)=vK (lk o L) lo n:=by first|rfl|(simp only[lG,vK];done)|(simp only[lG,vK];repeat' split)<;>simp_all
theorem aWw {kd:Nat} {pin:Bool} {es lo n:Nat} {xs:List AV}:vK (some ⟨true,true,pin,es,xs,kd⟩) lo n=some (.list false false (bY xs lo n)):=rfl
theorem aWx {kd:Nat} {es lo n:Nat} {xs:List AV}:vK (some ⟨true,false,false,es,xs,kd⟩) lo n=if lo=0∧n=xs.length then some (.own es xs)else none:=by simp[vK]
theorem aWy:fY []= []:=rfl
theorem aWz {L lo n:Nat} {r:List AV}:fY (.ref L lo n::r)=L::fY r:=rfl
theorem aW0 {v:Value} {r:List AV}:fY (.sc v::r)=fY r:=rfl
theorem aW1 {cs:List AV} {r:List AV}:fY (.agg cs::r)=fY r:=rfl
theorem aW2 {l f:Bool} {xs r:List AV}:fY (.list l f xs::r)=fY r:=rfl
theorem aW3 {g:FuncId} {cs:List AV} {r:List AV}:fY (.clo g cs::r)=fY r:=rfl
theorem aW4:nV []=true:=rfl
theorem aW5 {a:Nat} {r:List Nat}:nV (a::r)=(!r.contains a&&nV r):=rfl
theorem aW6 {r:AV}:gG [r]=r:=rfl
theorem aW7:gG []= .tup []:=rfl
theorem aW8 {a b:AV} {r:List AV}:gG (a::b::r)= .tup (a::b::r):=rfl
def S1 (x:Option AV) (R:AV→Prop):Prop:=match x with
 |some r=>R r
 |none=>False
theorem aW9 {rs:List ResultVar} {fs:List Nat} {R:AV→Prop}:E2 P rs fs R s=S1 (pO P rs fs s) R:=by simp only[E2,S1]
theorem aXa {r:AV} {R:AV→Prop}:S1 (some r) R=R r:=rfl
def yL (x:Option AV) (want:Bool):GV:=match x with
 |some (.sc (.bool b))=> .test b want
 |some (.tup [])=> .skip
 |_=> .bad
theorem aXb {want:Bool}:yL (some (.tup [])) want= .skip:=rfl
theorem aXc {ops:Array Oper} {j:Nat} {want:Bool}:fX ops (some (j,want)) s=yL ((mS ops j).bind (lk s.t)) want:=by first|rfl|(simp only[fX,yL];done)|(simp only[fX,yL];repeat' split)<;>simp_all
theorem aXd {b want:Bool}:yL (some (.sc (.bool b))) want= .test b want:=rfl
theorem aXe {ops:Array Oper} {j:Nat}:mS ops j=(ops[j]?).bind (·.dst):=rfl
end
attribute [go_sem ↓] aNc aNd aNe aNf aNg aNh aNi aNj aNk aNl aNm aNn aNo aNu aNv aN0 aN1 aN2 aN3 aN4 aOc aOd aOf aOe List.filter_cons List.filter_nil aOg aOh aOi aOj aOk aOl aOp
attribute [go_sem] aXb aNx aNy aNz aOo aOq aOr
attribute [go_sem] aNp aNq aNw aXc aXd aXe aN7 aN8 aN9 aOa aOs aOt aOu aOv aOw aOx aOy aOz aO0 aO1 aO2 aO3 aO4 aO5
 aDb aDc aDd aDe aDf aDg aDi aDj aDk aDl aDm aO7 aDn aDo aO8 aDp aO9 aPa aPb aDh aO6
 aPc aPd aPe aPf aPg aPh aPi aPj aPk aPl aPm aPn aPo aPp aPq aPr aPs aPt aPu aPv aPw
attribute [go_sem] aPx aPy aPz aP0 aDq aP6 aP7 aP8 aP9 aQa aQb aQd aQe aQf aQg aQh aQi aQl aQm aQn aQo aQp aQq
attribute [go_sem] aQr aQs aQt aQu aQv aQw aQx aQy aQz aQ0 aQ1
attribute [go_sem] aQ2 aQ3 aQ4 aQ5 aQ6 aQ7 aQ8 aQ9 aRa aRb aRc aRd aRe aRf aRg aRh aRi aRj aRk aRl aRm
 aRn aRo aRp aRq aRr aRs aRt aRu aRv aRw aRx aRy aRz aR0 aR1 aR2 aR3 aR4 aR5 aR6 aR7
attribute [go_sem] aR8 aR9 aSa aSb aSc pF sW wY rO aSd aSe aSf aSg aSh aSi aSj aSk aSl aSm aSn aSo aSp aSq aSr
 aSs aSt aSu aSv aSw aSx aSy aSz aS0 aS1 aS3 aS4 aS5 aS6 aS7 aS8 aTa aTb aTc aS9 zbS_zero zbS_succ aTd aUv aUw aUx aUy
 aTe aTf aTg aTh aTi aTj aTk aTl aTm aTn aTo aTp aTq aTr
attribute [go_sem] aTs aTt aTu aTv aTw aTx aTy aTz aT0 aT1 aT2 aT8 aT9 aUa aUb
 aUc aUd aUe aUf aUg aUh aUi aUj aUk aUl aUm aUn aUo aUp aUq tK aUr aUs aUu aUz aU0 aU1
 aU2 aU3 aU4 aU5 aU6 aU7 aU8 aU9 aVa aVb aVc aVd aVe aVf aVg aVh aVi aVj aVk aVl aVm aVn aVo aVp aVq aVr
attribute [go_sem] aVs aVt aVu aVv aVw aVx aVy aVz aV0 aV1 aV2 aV3 aV4 aV5 aV6 aV7 aV8 aV9 aWa aWb aWc aWd aWe aWf aWg aWh
 aWi aWj aWk aWl aWm aWn aWo aWp aWq aWr aWs aWt aWu aWv aWw aWx aWy aWz aW0 aW1 aW2 aW3 aW4 aW5 aW6 aW7 aW8 aW9 aXa
 aT7 aT3 aT4 aT5 aT6
attribute [go_sem] List.getElem?_cons_zero List.getElem?_cons_succ List.getElem?_nil List.map_cons List.map_nil List.length_cons List.length_nil List.take_zero List.take_succ_cons List.take_nil List.drop_zero List.drop_succ_cons List.drop_nil List.cons_append List.nil_append List.append_nil
 List.set_cons_zero List.set_cons_succ List.zipIdx_cons List.zipIdx_nil Option.map_some Option.map_none Option.bind_some Option.bind_none List.getElem?_toArray Nat.zero_add Nat.add_zero Int.toNat_natCast Int.toNat_zero List.contains_nil
 Bool.not_true Bool.not_false and_true true_and and_false false_and and_self or_true true_or or_false false_or if_true if_false ite_true ite_false ne_eq not_true_eq_false not_false_eq_true Bool.false_eq_true Bool.true_and Bool.and_true Bool.false_and Bool.and_false Bool.or_false Bool.false_or Bool.or_true Bool.true_or eq_self implies_true decide_true decide_false
section
variable {P : Program} [Glob P] {Q : Exit → ASt → Prop} {s : ASt} {k : ASt → Prop}
section asteps
variable {dd : Option Nat} {d : Nat} {ty : TypeId} {pos : String} {af : Array Edge} {g : Option (Nat × Bool)}
theorem aXf {x:Operand}:bZ P ⟨dd,.move x,ty,pos,af,g⟩ k s=cI P (bF P ⟨dd,.move x,ty,pos,af,g⟩ s) dd k s:=rfl
theorem aXg {x:Operand}:bZ P ⟨dd,.assign x,ty,pos,af,g⟩ k s=cI P (bF P ⟨dd,.assign x,ty,pos,af,g⟩ s) dd k s:=rfl
theorem aXh {c x y:Operand}:bZ P ⟨dd,.pick c x y,ty,pos,af,g⟩ k s=cI P (bF P ⟨dd,.pick c x y,ty,pos,af,g⟩ s) dd k s:=rfl
theorem aXi {t:TypeId}:bZ P ⟨dd,.alloc t,ty,pos,af,g⟩ k s=cI P (bF P ⟨dd,.alloc t,ty,pos,af,g⟩ s) dd k s:=rfl
theorem aXj {t:TypeId} {x:Operand}:bZ P ⟨dd,.box t x,ty,pos,af,g⟩ k s=cI P (bF P ⟨dd,.box t x,ty,pos,af,g⟩ s) dd k s:=rfl
theorem aXk {t:TypeId} {ps:Array (Nat×Operand)}:bZ P ⟨dd,.build t ps,ty,pos,af,g⟩ k s=cI P (bF P ⟨dd,.build t ps,ty,pos,af,g⟩ s) dd k s:=rfl
theorem aXl {t:TypeId} {l:Nat} {ps:Array (Nat×Operand)}:bZ P ⟨dd,.buildSlice t l ps,ty,pos,af,g⟩ k s=cI P (bF P ⟨dd,.buildSlice t l ps,ty,pos,af,g⟩ s) dd k s:=rfl
theorem aXm {t:TypeId} {x:Operand}:bZ P ⟨dd,.load t x,ty,pos,af,g⟩ k s=cI P (bF P ⟨dd,.load t x,ty,pos,af,g⟩ s) dd k s:=rfl
theorem aXn {t:TypeId} {x y:Operand}:bZ P ⟨dd,.store t x y,ty,pos,af,g⟩ k s=cI P (bF P ⟨dd,.store t x y,ty,pos,af,g⟩ s) dd k s:=rfl
theorem aXo {x:Operand}:bZ P ⟨dd,.nilCheck x,ty,pos,af,g⟩ k s=cI P (bF P ⟨dd,.nilCheck x,ty,pos,af,g⟩ s) dd k s:=rfl
theorem aXp {u:UnOp} {t:TypeId} {x:Operand}:bZ P ⟨dd,.unOp u t x,ty,pos,af,g⟩ k s=cI P (bF P ⟨dd,.unOp u t x,ty,pos,af,g⟩ s) dd k s:=rfl
theorem aXq {t:TypeId} {x:Operand} {i:Nat}:bZ P ⟨dd,.fieldAddr t x i,ty,pos,af,g⟩ k s=cI P (bF P ⟨dd,.fieldAddr t x i,ty,pos,af,g⟩ s) dd k s:=rfl
theorem aXr {t:TypeId} {x:Operand} {i:Nat}:bZ P ⟨dd,.field t x i,ty,pos,af,g⟩ k s=cI P (bF P ⟨dd,.field t x i,ty,pos,af,g⟩ s) dd k s:=rfl
theorem aXs {t:TypeId} {x y:Operand}:bZ P ⟨dd,.indexAddr t x y,ty,pos,af,g⟩ k s=cI P (bF P ⟨dd,.indexAddr t x y,ty,pos,af,g⟩ s) dd k s:=rfl
theorem aXt {t:TypeId} {x y:Operand}:bZ P ⟨dd,.index t x y,ty,pos,af,g⟩ k s=cI P (bF P ⟨dd,.index t x y,ty,pos,af,g⟩ s) dd k s:=rfl
theorem aXu {t:TypeId} {x:Operand} {l h:Option Operand}:bZ P ⟨dd,.slice t x l h none,ty,pos,af,g⟩ k s=cI P (bF P ⟨dd,.slice t x l h none,ty,pos,af,g⟩ s) dd k s:=by
 cases l<;>cases h<;>rfl
theorem aXv {x:Operand} {i:Nat}:bZ P ⟨dd,.extract x i,ty,pos,af,g⟩ k s=cI P (bF P ⟨dd,.extract x i,ty,pos,af,g⟩ s) dd k s:=rfl
theorem aXw {fn:Fn} {a c:Array Operand}:bZ P ⟨dd,.makeFunc fn a c,ty,pos,af,g⟩ k s=cI P (bF P ⟨dd,.makeFunc fn a c,ty,pos,af,g⟩ s) dd k s:=rfl
theorem aXx {t:TypeId} {x:Operand}:bZ P ⟨dd,.makeMap t (some x),ty,pos,af,g⟩ k s=cI P (bF P ⟨dd,.makeMap t (some x),ty,pos,af,g⟩ s) dd k s:=rfl
theorem aXy {t:TypeId} {x:Operand}:bZ P ⟨dd,.makeInterface t x,ty,pos,af,g⟩ k s=cI P (bF P ⟨dd,.makeInterface t x,ty,pos,af,g⟩ s) dd k s:=rfl
theorem aXz {x:Operand} {xs:Array Operand} {ts:Array TypeId}:bZ P ⟨dd,.call ⟨.value x,xs,ts⟩,ty,pos,af,g⟩ k s=cI P (bF P ⟨dd,.call ⟨.value x,xs,ts⟩,ty,pos,af,g⟩ s) dd k s:=rfl
theorem aX0 {xs:Array Operand} {ts:Array TypeId}:bZ P ⟨dd,.call ⟨.builtin .len,xs,ts⟩,ty,pos,af,g⟩ k s=cI P (bF P ⟨dd,.call ⟨.builtin .len,xs,ts⟩,ty,pos,af,g⟩ s) dd k s:=rfl
theorem aX1 {xs:Array Operand} {ts:Array TypeId}:bZ P ⟨dd,.call ⟨.builtin .min,xs,ts⟩,ty,pos,af,g⟩ k s=cI P (bF P ⟨dd,.call ⟨.builtin .min,xs,ts⟩,ty,pos,af,g⟩ s) dd k s:=rfl
theorem aX2 {xs:Array Operand} {ts:Array TypeId}:bZ P ⟨dd,.call ⟨.builtin .max,xs,ts⟩,ty,pos,af,g⟩ k s=cI P (bF P ⟨dd,.call ⟨.builtin .max,xs,ts⟩,ty,pos,af,g⟩ s) dd k s:=rfl
theorem aX3 {xs:Array Operand} {ts:Array TypeId}:bZ P ⟨dd,.call ⟨.builtin .unsafeSliceData,xs,ts⟩,ty,pos,af,g⟩ k s=cI P (bF P ⟨dd,.call ⟨.builtin .unsafeSliceData,xs,ts⟩,ty,pos,af,g⟩ s) dd k s:=rfl
theorem aX4 {xs:Array Operand} {ts:Array TypeId}:bZ P ⟨dd,.call ⟨.builtin .cap,xs,ts⟩,ty,pos,af,g⟩ k s=cI P (bF P ⟨dd,.call ⟨.builtin .cap,xs,ts⟩,ty,pos,af,g⟩ s) dd k s:=rfl
theorem aX5 {xs:Array Operand} {ts:Array TypeId}:bZ P ⟨dd,.call ⟨.builtin .delete,xs,ts⟩,ty,pos,af,g⟩ k s=cI P (bF P ⟨dd,.call ⟨.builtin .delete,xs,ts⟩,ty,pos,af,g⟩ s) dd k s:=rfl
theorem aX6 {t yt:TypeId} {x y:Operand}:bZ P ⟨dd,.binOp .add t x y yt,ty,pos,af,g⟩ k s=cI P (bF P ⟨dd,.binOp .add t x y yt,ty,pos,af,g⟩ s) dd k s:=rfl
theorem aX7 {t yt:TypeId} {x y:Operand}:bZ P ⟨dd,.binOp .sub t x y yt,ty,pos,af,g⟩ k s=cI P (bF P ⟨dd,.binOp .sub t x y yt,ty,pos,af,g⟩ s) dd k s:=rfl
theorem aX8 {t yt:TypeId} {x y:Operand}:bZ P ⟨dd,.binOp .mul t x y yt,ty,pos,af,g⟩ k s=cI P (bF P ⟨dd,.binOp .mul t x y yt,ty,pos,af,g⟩ s) dd k s:=rfl
theorem aX9 {t yt:TypeId} {x y:Operand}:bZ P ⟨dd,.binOp .quo t x y yt,ty,pos,af,g⟩ k s=cI P (bF P ⟨dd,.binOp .quo t x y yt,ty,pos,af,g⟩ s) dd k s:=rfl
theorem aYa {t yt:TypeId} {x y:Operand}:bZ P ⟨dd,.binOp .rem t x y yt,ty,pos,af,g⟩ k s=cI P (bF P ⟨dd,.binOp .rem t x y yt,ty,pos,af,g⟩ s) dd k s:=rfl
theorem aYb {t yt:TypeId} {x y:Operand}:bZ P ⟨dd,.binOp .and t x y yt,ty,pos,af,g⟩ k s=cI P (bF P ⟨dd,.binOp .and t x y yt,ty,pos,af,g⟩ s) dd k s:=rfl
theorem aYc {t yt:TypeId} {x y:Operand}:bZ P ⟨dd,.binOp .or t x y yt,ty,pos,af,g⟩ k s=cI P (bF P ⟨dd,.binOp .or t x y yt,ty,pos,af,g⟩ s) dd k s:=rfl
theorem aYd {t yt:TypeId} {x y:Operand}:bZ P ⟨dd,.binOp .xor t x y yt,ty,pos,af,g⟩ k s=cI P (bF P ⟨dd,.binOp .xor t x y yt,ty,pos,af,g⟩ s) dd k s:=rfl
theorem aYe {t yt:TypeId} {x y:Operand}:bZ P ⟨dd,.binOp .shl t x y yt,ty,pos,af,g⟩ k s=cI P (bF P ⟨dd,.binOp .shl t x y yt,ty,pos,af,g⟩ s) dd k s:=rfl
theorem aYf {t yt:TypeId} {x y:Operand}:bZ P ⟨dd,.binOp .shr t x y yt,ty,pos,af,g⟩ k s=cI P (bF P ⟨dd,.binOp .shr t x y yt,ty,pos,af,g⟩ s) dd k s:=rfl
theorem aYg {t yt:TypeId} {x y:Operand}:bZ P ⟨dd,.binOp .andNot t x y yt,ty,pos,af,g⟩ k s=cI P (bF P ⟨dd,.binOp .andNot t x y yt,ty,pos,af,g⟩ s) dd k s:=rfl
theorem aYh {t yt:TypeId} {x y:Operand}:bZ P ⟨dd,.binOp .eql t x y yt,ty,pos,af,g⟩ k s=xX (kH P t y (ev s.t x)) P (bF P ⟨dd,.binOp .eql t x y yt,ty,pos,af,g⟩ s) dd k s:=rfl
theorem aYi {r:Res}:xX false P r dd k s=cI P r dd k s:=rfl
theorem aYj {r:Res} {d:Nat}:xX true P r (some d) k s=(d<s.n∧nbP fun b=>k (s.put d (bl b))):=rfl
theorem aYk {t:TypeId} {y:Operand}:kH P t y none=false:=rfl
theorem aYl {t:TypeId} {y:Operand} {v:Value}:kH P t y (some (.sc v))=false:=rfl
theorem aYm {t:TypeId} {y:Operand} {v:List AV}:kH P t y (some (.agg v))=false:=rfl
theorem aYn {t:TypeId} {y:Operand} {L lo n:Nat}:kH P t y (some (.ref L lo n))=false:=rfl
theorem aYo {t:TypeId} {y:Operand} {L lo n:Nat}:kH P t y (some (.ptr L lo n))=false:=rfl
theorem aYp {t:TypeId} {y:Operand} {l:Bool} {xs:List AV} {i o:Nat}:kH P t y (some (.iptr l xs i o))=false:=rfl
theorem aYq {t:TypeId} {y:Operand} {f:FuncId} {v:List AV}:kH P t y (some (.clo f v))=false:=rfl
theorem aYr {t:TypeId} {y:Operand} {L:Nat}:kH P t y (some (.mp L))=false:=rfl
theorem aYs {t:TypeId} {y:Operand} {l f:Bool} {x:AV} {xs:List AV}:kH P t y (some (.list l f (x::xs)))=false:=rfl
theorem aYt {t:TypeId} {l f:Bool}:kH P t (.const (.slice none 0 0)) (some (.list l f []))=decide (bH P t=1):=by
 unfold kH
 rw[decide_eq_decide]
 exact⟨fun h=>h.2,fun h=>⟨rfl,h⟩⟩
theorem aYu {t:TypeId} {i:Nat} {a:Option AV}:kH P t (.tmp i) a=false:=by
 unfold kH;split
 ·simp[mP]
 ·rfl
theorem aYv {t yt:TypeId} {x y:Operand}:bZ P ⟨dd,.binOp .lss t x y yt,ty,pos,af,g⟩ k s=cI P (bF P ⟨dd,.binOp .lss t x y yt,ty,pos,af,g⟩ s) dd k s:=rfl
theorem aYw {t yt:TypeId} {x y:Operand}:bZ P ⟨dd,.binOp .leq t x y yt,ty,pos,af,g⟩ k s=cI P (bF P ⟨dd,.binOp .leq t x y yt,ty,pos,af,g⟩ s) dd k s:=rfl
theorem aYx {t yt:TypeId} {x y:Operand}:bZ P ⟨dd,.binOp .gtr t x y yt,ty,pos,af,g⟩ k s=cI P (bF P ⟨dd,.binOp .gtr t x y yt,ty,pos,af,g⟩ s) dd k s:=rfl
theorem aYy {t yt:TypeId} {x y:Operand}:bZ P ⟨dd,.binOp .geq t x y yt,ty,pos,af,g⟩ k s=cI P (bF P ⟨dd,.binOp .geq t x y yt,ty,pos,af,g⟩ s) dd k s:=rfl
def gR (r:Option St) (k:ASt→Prop) (z:Prop):Prop:=match r with
 |some r=>r.need∧k r.st
 |none=>z
theorem aYz {n:Bool} {st:ASt} {z:Prop}:gR (some ⟨n,st⟩) k z=(n∧k st):=rfl
theorem aY0 {z:Prop}:gR none k z=z:=rfl
def vL (v:Option AV) (d:Nat) (s:ASt):Option St:=match v with
 |some v=>some ⟨decide (d<s.n),s.put d v⟩
 |none=>none
theorem aY1 {v:AV}:vL (some v) d s=some ⟨decide (d<s.n),s.put d v⟩:=rfl
theorem aY2:vL none d s=none:=rfl
def F5 (b:Bool) (d:Nat) (s:ASt):Option St:=match b with
 |true=>some ⟨decide (d<s.n),s.put d (bl false)⟩
 |false=>none
theorem aY3:F5 true d s=some ⟨decide (d<s.n),s.put d (bl false)⟩:=rfl
theorem aY4:F5 false d s=none:=rfl
theorem aY5 {a b:TypeId} {x:Operand}:bZ P ⟨some d,.convert a b x,ty,pos,af,g⟩ k s=gR (vL (qS P a b s.o (ev s.t x)) d s) k (cI P (bF P ⟨some d,.convert a b x,ty,pos,af,g⟩ s) (some d) k s):=by
 simp only[bZ,lV,gR,vL];cases qS P a b s.o (ev s.t x)<;>rfl
theorem aY6 {t yt:TypeId} {x y:Operand}:bZ P ⟨some d,.binOp .neq t x y yt,ty,pos,af,g⟩ k s=gR (F5 (nS P t (ev s.t x) (ev s.t y)) d s) k (cI P (bF P ⟨some d,.binOp .neq t x y yt,ty,pos,af,g⟩ s) (some d) k s):=by
 simp only[bZ,lV,gR,F5];cases nS P t (ev s.t x) (ev s.t y)<;>rfl
theorem aY7 {x y:Operand} {pt it:TypeId}:bZ P ⟨some d,.call ⟨.builtin .unsafeString,#[x,y],#[pt,it]⟩,ty,pos,af,g⟩ k s=gR (xU P pt d s (ev s.t x) (ev s.t y)) k (cI P (bF P ⟨some d,.call ⟨.builtin .unsafeString,#[x,y],#[pt,it]⟩,ty,pos,af,g⟩ s) (some d) k s):=by
 simp only[bZ,lV,gR];rfl
theorem aY8 {t:TypeId}:bZ P ⟨some d,.makeMap t none,ty,pos,af,g⟩ k s=(decide (d<s.n)=true∧k (s.renew d d d uZ (.mp d))):=rfl
theorem aY9 {t:TypeId} {x y:Operand} {b:Bool}:bZ P ⟨some d,.lookup t x y b,ty,pos,af,g⟩ k s=gR (D0 P t b d s (ev s.t x) (ev s.t y)) k (cI P (bF P ⟨some d,.lookup t x y b,ty,pos,af,g⟩ s) (some d) k s):=by
 simp only[bZ,lV,gR];rfl
theorem aZa {t:TypeId} {x y z:Operand}:bZ P ⟨none,.mapUpdate t x y z,ty,pos,af,g⟩ k s=gR (xW P t s (ev s.t x) (ev s.t y) (ev s.t z)) k (cI P (bF P ⟨none,.mapUpdate t x y z,ty,pos,af,g⟩ s) none k s):=by
 simp only[bZ,lV,gR];rfl
theorem aZb {t:TypeId} {b:Bool} {L:Nat} {v:Value}:D0 P t b d s (some (.mp L)) (some (.sc v))=xV P t b d v s (lk s.o L):=rfl
def vM (z:Option AV) (ok:Bool) (m:Option (Option (Nat×AV))):Option AV:=match z,m with
 |some z,some none=>some (if ok=true then .tup [z,bl false]else z)
 |some _,some (some (_,v))=>some (if ok=true then .tup [v,bl true]else v)
 |_,_=>none
theorem aZc {z:AV} {ok:Bool}:vM (some z) ok (some none)=some (if ok=true then .tup [z,bl false]else z):=rfl
theorem aZd {z v:AV} {ok:Bool} {i:Nat}:vM (some z) ok (some (some (i,v)))=some (if ok=true then .tup [v,bl true]else v):=rfl
theorem aZe {t:TypeId} {b:Bool} {v:Value} {ar fz pin:Bool} {es kd:Nat} {xs:List AV}:xV P t b d v s (some ⟨ar,fz,pin,es,xs,kd⟩)=if iS P t v=true then vL (vM (tC P t) b (jG v xs 0)) d s else none:=by
 simp only[xV,vL]
 have e:xN P t v b xs=vM (tC P t) b (jG v xs 0):=by
  unfold xN vM
  cases tC P t with
  |none=>rfl
  |some z=>cases jG v xs 0 with
   |none=>rfl
   |some q=>cases q<;>rfl
 rw[e]
 cases vM (tC P t) b (jG v xs 0)<;>rfl
def S2 (r:Option ASt):Option St:=match r with
 |some r=>some ⟨true,r⟩
 |none=>none
theorem aZf {r:ASt}:S2 (some r)=some ⟨true,r⟩:=rfl
def S3 (P:Program) [Glob P] (t:TypeId) (L:Nat) (v:Value) (r:Option (ASt×AV)):Option ASt:=match r with
 |some (s1,v1)=>match lk s1.o L with
  |some x=>if iS P t v=true∧x.kd=1∧x.fz=false∧v1.pure=true then match nQ v v1 x.xs with
   |some ys=>if ys.length≤dC then some {s1 with o:=cY s1.o L {x with xs:=ys}} else none
   |none=>none
   else none
  |none=>none
 |none=>none
def S4 (P:Program) [Glob P] (t:TypeId) (L:Nat) (v:Value) (s1:ASt) (v1:AV) (x:Option AObj):Option ASt:=match x with
 |some x=>if iS P t v=true∧x.kd=1∧x.fz=false∧v1.pure=true then match nQ v v1 x.xs with
  |some ys=>if ys.length≤dC then some {s1 with o:=cY s1.o L {x with xs:=ys}} else none
  |none=>none
  else none
 |none=>none
def S5 (L:Nat) (s1:ASt) (x:AObj) (ys:Option (List AV)):Option ASt:=match ys with
 |some ys=>if ys.length≤dC then some {s1 with o:=cY s1.o L {x with xs:=ys}} else none
 |none=>none
theorem aZg {t:TypeId} {L:Nat} {v:Value} {b:AV}:xW P t s (some (.mp L)) (some (.sc v)) (some b)=S2 (S3 P t L v (share s b)):=by
 simp only[xW,S2,B9,S3]
 cases share s b with
 |none=>rfl
 |some q=>
  obtain⟨s1,v1⟩:=q
  simp only
  cases lk s1.o L with
  |none=>rfl
  |some x=>
   simp only
   split
   ·cases nQ v v1 x.xs with
    |none=>rfl
    |some ys=>simp only;split<;>rfl
   ·rfl
theorem aZh {t:TypeId} {L:Nat} {v:Value} {s1:ASt} {v1:AV}:S3 P t L v (some (s1,v1))=S4 P t L v s1 v1 (lk s1.o L):=rfl
theorem aZi {t:TypeId} {L:Nat} {v:Value} {s1:ASt} {v1:AV} {ar pin:Bool} {es:Nat} {xs:List AV}:S4 P t L v s1 v1 (some ⟨ar,false,pin,es,xs,1⟩)=if iS P t v=true∧v1.pure=true then S5 L s1 ⟨ar,false,pin,es,xs,1⟩ (nQ v v1 xs)else none:=by
 simp only[S4,S5,true_and]
theorem aZj {L:Nat} {s1:ASt} {x:AObj} {ys:List AV}:S5 L s1 x (some ys)=if ys.length≤dC then some {s1 with o:=cY s1.o L {x with xs:=ys}} else none:=rfl
theorem aZk:uZ=⟨true,false,false,0,[],1⟩:=rfl
theorem aZl {t:TypeId} {x y:Operand}:bZ P ⟨some d,.makeSlice t x y,ty,pos,af,g⟩ k s=gR (rV P t d s (ev s.t x) (ev s.t y)) k (cI P (bF P ⟨some d,.makeSlice t x y,ty,pos,af,g⟩ s) (some d) k s):=by
 simp only[bZ,lV,gR];rfl
def tL (P:Program) [Glob P] (d:Nat) (s:ASt) (l c:Int) (e es b:Nat) (z:Option AV):Option St:=match z with
 |some z=>if z.pure=true∧z.cells.length=es then some ⟨decide (d<s.n∧0≤l∧l≤c∧(b:Int)*c≤281474976710656∧c≤140737488355328),s.fresh d (cR es (List.replicate l.toNat z)) (.ref d 0 l.toNat)⟩else none
 |none=>none
def S6 (P:Program) [Glob P] (d:Nat) (s:ASt) (l c:Int):Option (TypeId×Nat×Nat)→Option St
 |some (e,es,b)=>tL P d s l c e es b (aS P e)
 |none=>none
theorem aZm {l c:Int} {e es b:Nat}:S6 P d s l c (some (e,es,b))=tL P d s l c e es b (aS P e):=rfl
theorem aZn {l c:Int} {e es b:Nat} {z:AV}:tL P d s l c e es b (some z)=if z.pure=true∧z.cells.length=es then some ⟨decide (d<s.n∧0≤l∧l≤c∧(b:Int)*c≤281474976710656∧c≤140737488355328),s.fresh d (cR es (List.replicate l.toNat z)) (.ref d 0 l.toNat)⟩else none:=rfl
theorem aZo {t:TypeId} {kl kc:IntKind} {l c:Int}:rV P t d s (some (.sc (.int kl l))) (some (.sc (.int kc c)))=S6 P d s l c (bV P t):=by
 simp only[rV]
 cases bV P t with
 |none=>rfl
 |some q=>obtain⟨e,es,b⟩:=q;simp only[S6,tL];cases aS P e<;>rfl
theorem aZp {x:Operand} {t:TypeId}:bZ P ⟨none,.call ⟨.builtin .clear,#[x],#[t]⟩,ty,pos,af,g⟩ k s=gR (vA P t s (ev s.t x)) k (cI P (bF P ⟨none,.call ⟨.builtin .clear,#[x],#[t]⟩,ty,pos,af,g⟩ s) none k s):=by
 simp only[bZ,lV,gR];rfl
def F6 (s:ASt) (L lo n es:Nat):Option AV→Option AObj→Option St
 |some z,some x=>if x.arr=true∧x.fz=false∧x.kd≠1∧z.pure=true∧z.cells.length=es then
  some ⟨decide (x.es=es∧lo+n≤x.xs.length),{s with o:=cY s.o L {x with xs:=splice x.xs (List.replicate n z) lo}}⟩else none
 |_,_=>none
def S7 (P:Program) [Glob P] (s:ASt) (L lo n:Nat):Option (TypeId×Nat×Nat)→Option St
 |some (e,es,_)=>F6 s L lo n es (aS P e) (lk s.o L)
 |none=>none
theorem aZq {x y:Operand} {st xt:TypeId}:bZ P ⟨some d,.call ⟨.builtin .append,#[x,y],#[st,xt]⟩,ty,pos,af,g⟩ k s=gR (rW P st xt d s (ev s.t x) (ev s.t y)) k (cI P (bF P ⟨some d,.call ⟨.builtin .append,#[x,y],#[st,xt]⟩,ty,pos,af,g⟩ s) (some d) k s):=by
 simp only[bZ,lV,gR];rfl
theorem aZr {t:TypeId} {x l h m:Operand}:bZ P ⟨some d,.slice t x (some l) (some h) (some m),ty,pos,af,g⟩ k s=gR (D1 P t d s (ev s.t x) (ev s.t l) (ev s.t h) (ev s.t m)) k (cI P (bF P ⟨some d,.slice t x (some l) (some h) (some m),ty,pos,af,g⟩ s) (some d) k s):=by
 simp only[bZ,lV,gR];rfl
theorem aZs {st xt:TypeId} {l f:Bool} {xs:List AV} {b:Option AV}:rW P st xt d s (some (.list l f xs)) b=none:=rfl
theorem aZt {st xt:TypeId} {L lo n:Nat} {b:Option AV}:rW P st xt d s (some (.ref L lo n)) b=none:=rfl
theorem aZu {st xt:TypeId} {v:Value} {b:Option AV}:rW P st xt d s (some (.sc v)) b=none:=rfl
theorem aZv {st xt:TypeId} {L lo n c:Nat} {v:Value}:rW P st xt d s (some (.rc L lo n c)) (some (.sc v))=none:=rfl
def apC (d:Nat) (s:ASt) (L lo n c:Nat):Option (TypeId×Nat×Nat)→Bool→Option (List AV)→Option AObj→Option St
 |some (_,es,_),true,some ys,some x=>if x.arr=true∧x.fz=false∧x.kd≠1 then
  some ⟨decide (d<s.n∧(∀y∈ys,y.cells.length=es)∧x.es=es∧n+ys.length≤x.xs.length∧lo=0∧n+ys.length≤c),{s with o:=cY s.o L {x with xs:=splice x.xs ys n}}.put d (.rc L 0 (n+ys.length) c)⟩else none
 |_,_,_,_=>none
theorem aZw {st xt:TypeId} {L lo n c L' lo' n' c':Nat}:rW P st xt d s (some (.rc L lo n c)) (some (.rc L' lo' n' c'))=apC d s L lo n c (bV P st) (fQ P xt) (iG s.o (.rc L' lo' n' c')) (lk s.o L):=rfl
theorem aZx {L lo n c e es bt:Nat} {ys:List AV} {x:AObj}:apC d s L lo n c (some (e,es,bt)) true (some ys) (some x)=if x.arr=true∧x.fz=false∧x.kd≠1 then
 some ⟨decide (d<s.n∧(∀y∈ys,y.cells.length=es)∧x.es=es∧n+ys.length≤x.xs.length∧lo=0∧n+ys.length≤c),{s with o:=cY s.o L {x with xs:=splice x.xs ys n}}.put d (.rc L 0 (n+ys.length) c)⟩else none:=rfl
theorem aZy {t:TypeId} {L lo n:Nat}:vA P t s (some (.ref L lo n))=pK P t s (some (.ref L lo n)):=rfl
def clC (n:Nat) (z:Option St):Option AObj→Option St
 |some x=>if n≤x.xs.length then z else none
 |none=>none
theorem aZz {t:TypeId} {L lo n c:Nat}:vA P t s (some (.rc L lo n c))=clC (lo+n) (pK P t s (some (.ref L lo n))) (lk s.o L):=rfl
theorem aZ0 {n:Nat} {z:Option St} {x:AObj} (h:n≤x.xs.length):clC n z (some x)=z:=if_pos h
def s3 (d:Nat) (s:ASt) (b c:Nat) (l h m:Int):Option (TypeId×Nat×Nat)→Option St
 |some _=>some ⟨decide (d<s.n∧0≤l∧l≤h∧h≤m∧(b:Int)+m≤c),s.put d .dead⟩
 |none=>none
theorem aZ1 {t:TypeId} {L b n c:Nat} {k1 k2 k3:IntKind} {l h m:Int}:D1 P t d s (some (.rc L b n c)) (some (.sc (.int k1 l))) (some (.sc (.int k2 h))) (some (.sc (.int k3 m)))=s3 d s b c l h m (bV P t):=rfl
theorem aZ2 {b c:Nat} {l h m:Int} {q:TypeId×Nat×Nat}:s3 d s b c l h m (some q)=some ⟨decide (d<s.n∧0≤l∧l≤h∧h≤m∧(b:Int)+m≤c),s.put d .dead⟩:=rfl
theorem aZ3 {t:TypeId} {L lo n:Nat}:pK P t s (some (.ref L lo n))=S7 P s L lo n (bV P t):=by
 simp only[pK]
 cases bV P t with
 |none=>rfl
 |some q=>obtain⟨e,es,b⟩:=q;simp only[S7,F6];cases aS P e<;>cases lk s.o L<;>rfl
theorem aZ4 {L lo n:Nat} {e es b:Nat}:S7 P s L lo n (some (e,es,b))=F6 s L lo n es (aS P e) (lk s.o L):=rfl
theorem aZ5 {L lo n es:Nat} {z:AV} {x:AObj}:F6 s L lo n es (some z) (some x)=if x.arr=true∧x.fz=false∧x.kd≠1∧z.pure=true∧z.cells.length=es then
 some ⟨decide (x.es=es∧lo+n≤x.xs.length),{s with o:=cY s.o L {x with xs:=splice x.xs (List.replicate n z) lo}}⟩else none:=rfl
theorem aZ6 {x y:Operand} {pt it:TypeId}:bZ P ⟨some d,.call ⟨.builtin .copy,#[x,y],#[pt,it]⟩,ty,pos,af,g⟩ k s=gR (tE P pt d s (ev s.t x) (ev s.t y)) k (cI P (bF P ⟨some d,.call ⟨.builtin .copy,#[x,y],#[pt,it]⟩,ty,pos,af,g⟩ s) (some d) k s):=by
 simp only[bZ,lV,gR];rfl
def F8 (d:Nat) (s:ASt) (L lo n:Nat) (es:Nat) (ys:List AV):Option AObj→Option St
 |some x=>if x.arr=true∧x.fz=false∧x.kd≠1 then
  some ⟨decide (d<s.n∧(∀y∈ys,y.cells.length=es)∧x.es=es∧ys.length≤n∧(ys≠ []∨lo=0)∧lo+n≤x.xs.length),{s with o:=cY s.o L {x with xs:=splice x.xs ys lo}}.put d (nt .i64 ys.length)⟩
  else none
 |none=>none
def S8 (d:Nat) (s:ASt) (L lo n:Nat) (t:Option (TypeId×Nat×Nat)) (r:Option (List AV)):Option St:=match t,r with
 |some (_,es,_),some ys=>F8 d s L lo n es ys (lk s.o L)
 |_,_=>none
theorem aZ7 {t:TypeId} {L lo n:Nat} {b:AV}:tE P t d s (some (.ref L lo n)) (some b)=S8 d s L lo n (bV P t) (iG s.o b):=by
 simp only[tE,xO,S8]
 cases bV P t with
 |none=>rfl
 |some q=>
  obtain⟨e,es,b'⟩:=q
  cases iG s.o b with
  |none=>rfl
  |some ys=>simp only;cases lk s.o L<;>rfl
theorem aZ8 {L lo n e es b:Nat} {ys:List AV}:S8 d s L lo n (some (e,es,b)) (some ys)=F8 d s L lo n es ys (lk s.o L):=rfl
theorem aZ9 {L lo n es kd:Nat} {ys xs:List AV} {pin:Bool} {e:Nat}:F8 d s L lo n es ys (some ⟨true,false,pin,e,xs,kd⟩)=if kd≠1 then
 some ⟨decide (d<s.n∧(∀y∈ys,y.cells.length=es)∧e=es∧ys.length≤n∧(ys≠ []∨lo=0)∧lo+n≤xs.length),{s with o:=cY s.o L ⟨true,false,pin,e,splice xs ys lo,kd⟩}.put d (nt .i64 ys.length)⟩else none:=by
 simp only[F8,true_and]
theorem bAa {a b:TypeId} {o:aF} {v:Value}:qS P a b o (some (.sc v))=none:=rfl
theorem bAb {a b:TypeId} {o:aF} {l f:Bool} {xs:List AV}:qS P a b o (some (.list l f xs))=none:=rfl
theorem bAc {a b:TypeId} {o:aF} {L lo n:Nat}:qS P a b o (some (.ref L lo n))=xS P a b (jC o (.ref L lo n)):=rfl
def aD5:Option (List UInt8)→Option AV
 |some l=>some (.sc (.string ⟨l.toArray⟩))
 |none=>none
theorem bAd {l:List UInt8}:aD5 (some l)=some (.sc (.string ⟨l.toArray⟩)):=rfl
theorem bAe {a b:TypeId} {ys:List AV}:xS P a b (some ys)=if xR P a b=true then aD5 (bytesOf ys)else none:=by
 simp only[xS];cases bytesOf ys<;>rfl
theorem bAf:bytesOf []=some []:=rfl
theorem bAg {n:Int} {r:List AV}:bytesOf (.sc (.int .u8 n)::r)=if 0≤n∧n<256 then(bytesOf r).map (UInt8.ofNat n.toNat:: ·)else none:=rfl
theorem bAh {n:Int} {r:List AV}:bytesOf (nt .u8 n::r)=if 0≤n∧n<256 then(bytesOf r).map (UInt8.ofNat n.toNat:: ·)else none:=rfl
attribute [go_sem] xR bAd bAe bAf bAg bAh
theorem bAi {a b:TypeId} {o:aF} {cs:List AV}:qS P a b o (some (.agg cs))=none:=rfl
theorem bAj {a b:TypeId} {o:aF} {L:Nat}:qS P a b o (some (.ptr L 0 0))=xQ P a b L (lk o L):=rfl
theorem bAk {a b:TypeId} {L:Nat} {fz pin:Bool} {es e:Nat} {xs:List AV}:xQ P a b L (some ⟨false,fz,pin,es+1,xs,e+2⟩)=if xP P a b e (es+1)=true then some (.ptr L 0 0)else none:=by
 simp[xQ]
theorem bAl {t:TypeId} {v:Value} {y:Option AV}:nS P t (some (.sc v)) y=false:=rfl
theorem bAm {t:TypeId} {l f:Bool} {xs:List AV} {y:Option AV}:nS P t (some (.list l f xs)) y=false:=rfl
theorem bAn {t:TypeId} {cs:List AV} {y:Option AV}:nS P t (some (.agg cs)) y=false:=rfl
theorem bAo {t:TypeId} {L lo n:Nat} {y:Option AV}:nS P t (some (.ref L lo n)) y=false:=rfl
theorem bAp {t:TypeId} {f:FuncId} {cs:List AV} {y:Option AV}:nS P t (some (.clo f cs)) y=false:=rfl
theorem bAq {t:TypeId} {l:Bool} {xs:List AV} {i o:Nat} {y:Option AV}:nS P t (some (.iptr l xs i o)) y=false:=rfl
theorem bAr {t:TypeId} {L i o:Nat} {v:Value}:nS P t (some (.ptr L i o)) (some (.sc v))=false:=rfl
theorem bAs {t:TypeId} {L i o L' i' o':Nat}:nS P t (some (.ptr L i o)) (some (.ptr L' i' o'))=(decide (L=L'∧i=i'∧o=o')&&C8 P t):=rfl
theorem bAt {pt:TypeId} {v:Value} {y:Option AV}:xU P pt d s (some (.sc v)) y=none:=rfl
theorem bAu {pt:TypeId} {L:Nat} {m:Int}:xU P pt d s (some (.ptr L 0 0)) (some (.sc (.int .i64 m)))=xT P pt L d m s (lk s.o L):=rfl
theorem bAv {st xt:TypeId} {l f:Bool} {xs:List AV} {b:AV}:pH P st xt (.list l f xs) b d s=qN P st xt (.list l f xs) b d s:=rfl
theorem bAw {st xt:TypeId} {L lo n:Nat} {b:AV}:pH P st xt (.ref L lo n) b d s=qN P st xt (.ref L lo n) b d s:=rfl
attribute [go_sem] aYi aYj aYk aYl aYm aYn aYo aYp aYq aYr aYs aYt aYu
attribute [go_sem] aZr aZs aZt aZu aZv aZw aZx aZy aZz aZ0 aZ1 aZ2
attribute [go_sem] aXf aXg aXh aXi aXj aXk aXl aXm aXn aXo aXp aXq aXr aXs aXt aXu aXv aXw aY8 aXx aZb aZc aZd aZe aZf aZg aZh aZi aZj aZk aZl aZm aZn aZo aXy aY9 aZa aXz aX0 aZq aX1 aX2 aX3 aZ6 aZ7 aZ8 aZ9 aX4 aZp aZ3 aZ4 aZ5 aX5 aX6 aX7 aX8 aX9 aYa aYb aYc aYd aYe aYf aYg aYh aYv aYw aYx aYy aYz aY0 aY1 aY2 aY3 aY4 aY5 aY6 aY7 bAa bAb bAc bAi bAj bAk bAl bAm bAn bAo bAp bAq bAr bAs bAt bAu bAv bAw
end asteps
end
end Go.Ab
namespace Go.Ab
open Go.RowKit
mutual
def AV.okIn (o:aF):AV→Bool
 | .agg cs=>AV.okInL o cs
 | .tup cs=>AV.okInL o cs
 | .clo _ cs=>AV.okInL o cs
 | .ref L _ _=>(lk o L).isSome
 | .ptr L _ _=>(lk o L).isSome
 | .aref L _ _ _ _=>(lk o L).isSome
 | .mp L=>(lk o L).isSome
 | .yl L=>(lk o L).isSome
 | .rc L _ _ _=>(lk o L).isSome
 |_=>true
def AV.okInL (o:aF):List AV→Bool
 | []=>true
 |a::r=>a.okIn o&&AV.okInL o r
end
mutual
theorem aD6 {o:aF} {L:Nat}: ∀{a:AV},a.okIn o=true→a.has L=true→(lk o L).isSome=true
 | .agg cs,h,hh=>by simp only[AV.okIn]at h;simp only[AV.has]at hh;exact yM h hh
 | .tup cs,h,hh=>by simp only[AV.okIn]at h;simp only[AV.has]at hh;exact yM h hh
 | .clo g cs,h,hh=>by simp only[AV.okIn]at h;simp only[AV.has]at hh;exact yM h hh
 | .ref L' _ _,h,hh=>by simp[AV.has]at hh;subst hh;simpa[AV.okIn]using h
 | .ptr L' _ _,h,hh=>by simp[AV.has]at hh;subst hh;simpa[AV.okIn]using h
 | .aref L' _ _ _ _,h,hh=>by simp[AV.has]at hh;subst hh;simpa[AV.okIn]using h
 | .mp L',h,hh=>by simp[AV.has]at hh;subst hh;simpa[AV.okIn]using h
 | .yl L',h,hh=>by simp[AV.has]at hh;subst hh;simpa[AV.okIn]using h
 | .rc L' _ _ _,h,hh=>by simp[AV.has]at hh;subst hh;simpa[AV.okIn]using h
 | .lh _,_,hh=>by simp[AV.has]at hh
 | .sc _,_,hh=>by simp[AV.has]at hh
 | .list _ _ _,_,hh=>by simp[AV.has]at hh
 | .iptr _ _ _ _,_,hh=>by simp[AV.has]at hh
 | .own _ _,_,hh=>by simp[AV.has]at hh
 | .dead,_,hh=>by simp[AV.has]at hh
theorem yM {o:aF} {L:Nat}: ∀{cs:List AV},AV.okInL o cs=true→AV.hasL L cs=true→(lk o L).isSome=true
 | [],_,hh=>by simp[AV.hasL]at hh
 |c::cs,h,hh=>by
  simp only[AV.okInL,Bool.and_eq_true]at h
  simp only[AV.hasL,Bool.or_eq_true]at hh
  rcases hh with hh|hh
  ·exact aD6 h.1 hh
  ·exact yM h.2 hh
end
theorem pQ {α:Type}: ∀{l:List (Nat×α)} {i:Nat} {a:α},lk l i=some a→(i,a)∈l
 | [],i,a,h=>by simp[lk]at h
 |(k,b)::l,i,a,h=>by
  simp only[lk]at h
  by_cases hk:k=i
  ·subst hk;rw[if_pos rfl]at h;obtain rfl:=Option.some.inj h;simp
  ·rw[if_neg hk]at h;simp[pQ h]
def tM (o:aF) (x:AObj):Bool:=x.arr||AV.okInL o x.xs
theorem Le.sub {s0 s:ASt} (hn:s0.n=s.n) (ht: ∀p∈s0.t,lk s.t p.1=some p.2) (ho: ∀p∈s0.o,lk s.o p.1=some p.2) (hr: ∀p∈s0.t,p.2.okIn s0.o=true) (hb: ∀p∈s0.o,tM s0.o p.2=true):Le s0 s:=by
 intro C F μ a w hs
 have hlo: ∀L x,lk s0.o L=some x→lk s.o L=some x:=fun L x hx=>ho _ (pQ hx)
 have hloc: ∀L,(lk s0.o L).isSome=true→aG s0.o μ L=aG s.o μ L:=fun L hL=>by
  obtain⟨x,hx⟩:=Option.isSome_iff_exists.1 hL
  simp[aG,hx,hlo L x hx]
 refine⟨F,μ,⟨hs.sw.facts,hs.sw.sub,hs.sw.lentc,hs.sw.grow,hs.sw.newf,hs.sw.fr,fun L x hx=>?_,fun L x L' x' b c c' hx hx'=>hs.sw.dist L x L' x' b c c' (hlo L x hx) (hlo L' x' hx'),
  fun L x b c hx=>hs.sw.excl L x b c (hlo L x hx),fun L x b c hx=>hs.sw.mine L x b c (hlo L x hx),fun L x x0 h0 hx=>hs.sw.keep L x x0 h0 (hlo L x hx)⟩,hs.defers,by rw[hn];exact hs.n,fun i x hx=>?_⟩
 ·have:=hs.sw.obj L x (hlo L x hx)
  cases hm:μ L with
  |none=>rw[hm]at this;exact this
  |some p=>
   obtain⟨b,cap⟩:=p
   rw[hm]at this
   cases harr:x.arr with
   |true=>
    rcases this with⟨c,e,q1,q2,q3,q4,q5,q6,q7⟩|this|⟨_,k2,_⟩
    rotate_left
    ·exact .inr (.inl this)
    ·rw[harr]at k2;cases k2
    refine .inl ⟨c,e,q1,q2,q3,q4,q5,fun i y j a hy hj=>?_,q7⟩
    obtain⟨v,g1,g2,g3,g4⟩:=q6 i y j a hy hj
    rw[harr]at g3
    exact⟨v,g1,g2,by rw[harr];exact g3,g4⟩
   |false=>
    refine this.congr rfl (FLe.refl _) fun L' hL'=>hloc L' ?_
    have:=hb _ (pQ hx)
    simp[tM,harr]at this
    exact yM this hL'
 ·have hx':=ht _ (pQ hx)
  exact(hs.slot i x hx').congr (FLe.refl _) fun L hL=>hloc L (aD6 (hr _ (pQ hx)) hL)
theorem Le.nil {s:ASt} {i T es:Nat} {l:Bool} (h:lk s.t i=some (.list l true [])):Le {n:=s.n,t:=(i,.ref T 0 0)::fV T (fV T s.t),o:=(T,cR es [])::killO T (killO T (fF s.o T))} s:=by
 intro C F μ a w hs
 have h1:=hs.renew0 (L:=T) (T:=T) (x:=cR es []) (p:=none) rfl rfl rfl (Fr.refl _ _) (by rfl) (fun b c hbc=>by cases hbc)
 refine⟨F,cC μ T none,h1.sw,h1.defers,h1.n,fun j x hx=>?_⟩
 simp only[lk]at hx
 by_cases hij:i=j
 ·subst hij
  rw[if_pos rfl]at hx
  obtain rfl:=Option.some.inj hx
  have hv:=hs.slot i _ h
  generalize a.tmps.getD i undef=v at hv
  have hl:aG ((T,cR es [])::killO T (killO T (fF s.o T))) (cC μ T none) T=some ⟨none,es,0,false⟩:=by simp[aG,lk,cC,cR,cH]
  cases hv with
  |nil=>exact .refNil hl
  |list g1 g2 g3 g4=>
   have:=g4 rfl
   simp at this
   subst this
   exact .refNil hl
 ·rw[if_neg hij]at hx
  exact h1.slot j x hx
theorem Le.move {s:ASt} {i T T' lo n:Nat} {x:AObj} (h:lk s.t i=some (.ref T lo n)) (hk:x.kd≠1) (hx:lk s.o T=some x) (ha:x.arr=true) (hz:x.fz=false):
 Le {n:=s.n,t:=(i,.ref T' lo n)::fV T (fV T' s.t),o:=(T',{x with pin:=false})::killO T (killO T' (fF s.o T))} s:=by
 intro C F μ a w hs
 have ho:=hs.sw.obj T x hx
 have h1:=hs.renew0 (L:=T) (T:=T') (x:= {x with pin:=false}) (p:=μ T) hz rfl ha (Fr.refl _ _) (by
  cases hm:μ T with
  |none=>rw[hm]at ho;exact ho
  |some q=>
   obtain⟨b,cap⟩:=q
   rw[hm]at ho
   obtain⟨c,e,q1,q2,q3,q4,q5,q6,q7⟩:=ObjAt.std ho hk
   refine .inl ⟨c,e,q1,q2,q3,q4,q5,fun i y j a hy hj=>?_,q7⟩
   obtain⟨v,g1,g2,g3,g4⟩:=q6 i y j a hy hj
   rw[ha]at g3
   exact⟨v,g1,g2,by show RV (oF x.arr F) (oL x.arr cB) a v;rw[ha];exact g3,g4⟩) (fun b c hbc=> .inr ⟨x,c,hx,hz,hbc⟩)
 refine⟨F,cC μ T' (μ T),h1.sw,h1.defers,h1.n,fun j y hy=>?_⟩
 simp only[lk]at hy
 by_cases hij:i=j
 ·subst hij
  rw[if_pos rfl]at hy
  obtain rfl:=Option.some.inj hy
  have hv:=hs.slot i _ h
  generalize a.tmps.getD i undef=v at hv
  have hl0:aG s.o μ T=some ⟨μ T,x.es,x.xs.length,false⟩:=by simp[aG,hx,nF hk]
  have hl:aG ((T',{x with pin:=false})::killO T (killO T' (fF s.o T))) (cC μ T' (μ T)) T'=some ⟨μ T,x.es,x.xs.length,false⟩:=by simp[aG,lk,cC,cH,hk]
  rcases aC3 hv hl0 with⟨hm,rfl,rfl,q,rfl⟩|⟨b,cap,o,c,hm,rfl,g1,g2,g3,g4⟩
  ·simp only at hm
   exact .refNil (hl.trans (by rw[hm]))
  ·simp only at hm
   exact .ref (hl.trans (by rw[hm])) g1 g2 g3 g4
 ·rw[if_neg hij]at hy
  exact h1.slot j y hy
theorem AWp.bound {P c Q} [Glob P] {s:ASt} {i:Nat} {l f:Bool} {xs:List AV} (h:lk s.t i=some (.list l f xs)) (k:xs.length≤dC→AWp none P c Q s):AWp none P c Q s:=by
 intro C _ F μ a w hm hs
 refine k ?_ C F μ a w hm hs
 have hv:=hs.slot i _ h
 generalize a.tmps.getD i undef=v at hv
 cases hv with
 |nil=>simp
 |list g1 g2 g3=>exact g3
theorem ACall.bound {P f} [Glob P] {args:List AV} {R:AV→Prop} {i:Nat} {l fl:Bool} {xs:List AV} (h:args[i]?=some (.list l fl xs)) (hc: ∀cargs w,(callFunc f cargs).run P w= .ok (.enter f cargs) w) (k:xs.length≤dC→ACall P f args R):ACall P f args R:=by
 refine⟨hc,fun w F cargs h0 h1 h2 h3=>?_⟩
 have hi:i<cargs.size:=by rw[←h2];exact(List.getElem?_eq_some_iff.1 h).1
 refine(k ?_).2 w F cargs h0 h1 h2 h3
 have hv:=h3 i _ cargs[i] h (by simp[hi])
 generalize cargs[i]=v at hv
 cases hv with
 |nil=>simp
 |list g1 g2 g3=>exact g3
theorem bAx {o:aF} {v:Value}:(AV.sc v).okIn o=true:=rfl
theorem bAy {o:aF} {l f:Bool} {xs:List AV}:(AV.list l f xs).okIn o=true:=rfl
theorem bAz {o:aF} {l:Bool} {xs:List AV} {i k:Nat}:(AV.iptr l xs i k).okIn o=true:=rfl
theorem bA0 {o:aF}:AV.dead.okIn o=true:=rfl
theorem bA1 {o:aF} {L a b:Nat}:(AV.ref L a b).okIn o=(lk o L).isSome:=rfl
theorem bA2 {o:aF} {L a b:Nat}:(AV.ptr L a b).okIn o=(lk o L).isSome:=rfl
theorem bA3 {o:aF} {L:Nat}:(AV.mp L).okIn o=(lk o L).isSome:=rfl
theorem bA4 {o:aF} {cs:List AV}:(AV.agg cs).okIn o=AV.okInL o cs:=by simp[AV.okIn]
theorem bA5 {o:aF} {cs:List AV}:(AV.tup cs).okIn o=AV.okInL o cs:=by simp[AV.okIn]
theorem bA6 {o:aF} {g:FuncId} {cs:List AV}:(AV.clo g cs).okIn o=AV.okInL o cs:=by simp[AV.okIn]
theorem bA7 {o:aF}:AV.okInL o []=true:=rfl
theorem bA8 {o:aF} {a:AV} {r:List AV}:AV.okInL o (a::r)=(a.okIn o&&AV.okInL o r):=by simp[AV.okInL]
theorem bA9 {o:aF} {fz pin:Bool} {es kd:Nat} {xs:List AV}:tM o ⟨true,fz,pin,es,xs,kd⟩=true:=rfl
theorem bBa {o:aF} {fz pin:Bool} {es kd:Nat} {xs:List AV}:tM o ⟨false,fz,pin,es,xs,kd⟩=AV.okInL o xs:=rfl
attribute [go_sem] bAx bAy bAz bA0 bA1 bA2 bA4 bA3 bA5 bA6 bA7 bA8 bA9 bBa Option.isSome_some
theorem F9 {P:Program} [Glob P] {b:Code} {Q:Exit→ASt→Prop} {s:ASt} (I:Nat→ASt→Prop) (n:Nat) (s0:ASt) (hle:Le s0 s) (h0:I n s0) (hr: ∀n s,I n s→cN P b (nU (Again I n) Q) s):cN P (.loop b) Q s:=⟨I,⟨n,s0,hle,h0⟩,hr⟩
theorem Again.mk {I:Nat→ASt→Prop} {n:Nat} {s:ASt} (n':Nat) (s0:ASt) (hn:n'<n) (hle:Le s0 s) (h:I n' s0):Again I n s:=⟨n',s0,hn,hle,h⟩
end Go.Ab
namespace Go.Ab
open Go.RowKit
theorem AWp.post {ro P c} [Glob P] {Q Q':Exit→ASt→Prop} {s:ASt} (h:AWp ro P c Q s) (hq: ∀e s,Q e s→ ∃s0,Le s0 s∧Q' e s0):AWp ro P c Q' s:=fun C _ F μ a w hm hs=>
 wpIn_mono (h C F μ a w hm hs) fun e a' w' ⟨F',μ',s',h1,hm',h2⟩=>by
  obtain⟨s0,h3,h4⟩:=hq e s' h1
  obtain⟨F2,μ2,h5⟩:=h3 _ F' μ' a' w' h2
  exact⟨F2,μ2,s0,h4,hm',h5⟩
theorem AWp.seq {ro P x y} [Glob P] {Q:Exit→ASt→Prop} {s:ASt} (h:AWp ro P x (nU (AWp ro P y Q) Q) s):AWp ro P (.seq x y) Q s:=fun C _ F μ a w hm hs=>by
 refine wpIn_seq (wpIn_mono (h C F μ a w hm hs) ?_)
 rintro e a' w' ⟨F',μ',s',hq,hm',hs'⟩
 cases e with
 |normal=>exact hq C F' μ' a' w' hm' hs'
 |_=>exact⟨F',μ',s',hq,hm',hs'⟩
theorem AWp.cond {ro P c x y} [Glob P] {Q:Exit→ASt→Prop} {s:ASt} {b:Bool} (hb:ev s.t c=some (.sc (.bool b))) (h:AWp ro P (if b=true then x else y) Q s):AWp ro P (.cond c x y) Q s:=fun C _ F μ a w hm hs=>by
 have hrv:=dZ hs c _ hb
 generalize hv:a.eval c=v at hrv
 cases hrv
 cases b with
 |true=>exact wpIn_cond_true hv (h C F μ a w hm hs)
 |false=>exact wpIn_cond_false hv (h C F μ a w hm hs)
theorem AWp.block {ro P id b} [Glob P] {Q:Exit→ASt→Prop} {s:ASt} (h:AWp ro P b (sC id Q) s):AWp ro P (.block id b) Q s:=fun C _ F μ a w hm hs=>by
 refine wpIn_block (wpIn_mono (h C F μ a w hm hs) ?_)
 rintro e a' w' ⟨F',μ',s',hq,hm',hs'⟩
 cases e with
 |exit id'=>
  simp only[Exit.inBlock]
  simp only[sC]at hq
  split
  ·rename_i hid;rw[if_pos hid]at hq;exact⟨F',μ',s',hq,hm',hs'⟩
  ·rename_i hid;rw[if_neg hid]at hq;exact⟨F',μ',s',hq,hm',hs'⟩
 |_=>exact⟨F',μ',s',hq,hm',hs'⟩
theorem AWp.loop {ro P b} [Glob P] {Q:Exit→ASt→Prop} (I:Nat→ASt→Prop) {n:Nat} {s:ASt} (h0:I n s) (hr: ∀n s,I n s→AWp ro P b (nU (fun s=> ∃n',n'<n∧I n' s) Q) s):AWp ro P (.loop b) Q s:=fun C _ F μ a w hm hs=>by
 refine aC1 (fun n a w=> ∃F μ s,I n s∧Mk C w a.defers∧SR (C.at a.defers) F μ s a w) n ⟨F,μ,s,h0,hm,hs⟩ ?_
 rintro n a w ⟨F,μ,s,hI,hm,hs⟩
 refine wpIn_mono (hr n s hI C F μ a w hm hs) ?_
 rintro e a' w' ⟨F',μ',s',hq,hm',hs'⟩
 cases e with
 |normal=>
  obtain⟨n',hlt,hI'⟩:=hq
  exact⟨n',hlt,F',μ',s',hI',hm',hs'⟩
 |_=>exact⟨F',μ',s',hq,hm',hs'⟩
def dd {α:Type}:List (Nat×α)→List (Nat×α)
 | []=> []
 |p::r=>p::(dd r).filter fun q=> !(q.1==p.1)
def aD7 (s:ASt):ASt:=if s.t.length≤2*s.n+16 then s else{n:=s.n,t:=dd s.t,o:=dd s.o}
def aD8 (P:Program) [Glob P] (g:FuncId):Bool:=match P.funcs[g]? with
 |some fn=> !(fn.name== "runtime.NumGoroutine")&&fn.body.isSome
 |none=>false
def aD9 (P:Program) [Glob P] (call:FuncId→List AV→Nat→ASt→Option ASt) (o:Oper) (s:ASt):Option ASt:=
 match lV P o s with
 |some r=>if r.need=true then some r.st else none
 |none=>match bF P o s,o.dst with
 | .v r,some d=>if(r.need&&decide (d<s.n))=true then some (s.put d r.val)else none
 | .h r,_=>if r.need=true then some r.st else none
 | .c g as,some d=>if d<s.n then call g as d s else none
 |_,_=>none
def sE (P:Program) [Glob P] (call:FuncId→List AV→Nat→ASt→Option ASt) (ops:Array Oper):List Oper→ASt→Option ASt
 | [],s=>some s
 |o::r,s=>match fX ops o.guard s with
  | .run=>match aD9 P call o s with
   |some s1=>sE P call ops r s1
   |none=>none
  | .test b want=>match b==want with
   |true=>match aD9 P call o s with
    |some s1=>sE P call ops r s1
    |none=>none
   |false=>match o.dst with
    |some d=>if d<s.n then sE P call ops r (s.put d (.tup []))else none
    |none=>sE P call ops r s
  | .skip=>match o.dst with
   |some d=>if d<s.n then sE P call ops r (s.put d (.tup []))else none
   |none=>sE P call ops r s
  | .bad=>none
def aEa (P:Program) [Glob P]:List Oper→ASt→Option ASt
 | [],s=>some s
 |o::r,s=>match o.op,o.dst with
  | .alloc t,some d=>match aS P t with
   |some z=>if(z.plain&&decide (d<s.n))=true then aEa P r ((s.adopt d (iF z)).put d (.ptr d 0 0))else none
   |none=>none
  |_,_=>none
def aEb (P:Program) [Glob P] (call:FuncId→List AV→Option AV) (o:Oper) (s:ASt):Option ASt:=
 match fJ o with
 |true=>match o.dst with
  |some d=>if d<s.n then some (s.put d .dead)else none
  |none=>none
 |false=>match bF P o s,o.dst with
 | .v r,some d=>if(r.need&&decide (d<s.n))=true then some (s.put d r.val)else none
 | .c g as,some d=>if d<s.n then match jD s.o as with
  |some bs=>match call g bs with
   |some v=>if yD v=true then some (s.put d v)else none
   |none=>none
  |none=>none
  else none
 |_,_=>none
def yN (P:Program) [Glob P] (call:FuncId→List AV→Nat→ASt→Option ASt) (pcall:FuncId→List AV→Option AV) (ops:Array Oper):Nat→List Oper→ASt→Option ASt
 |0,l,s=>match aEa P ((ops.toList.take (ops.size - l.length)).filter fJ) s with
  |some s1=>sE P call ops l s1
  |none=>none
 |_+1,[],s=>none
 |m+1,o::r,s=>match fX ops o.guard s with
  | .run=>match aEb P pcall o s with
   |some s1=>yN P call pcall ops m r s1
   |none=>none
  | .test b want=>match b==want with
   |true=>match aEb P pcall o s with
    |some s1=>yN P call pcall ops m r s1
    |none=>none
   |false=>match o.dst with
    |some d=>if d<s.n then yN P call pcall ops m r (s.put d (.tup []))else none
    |none=>none
  | .skip=>match o.dst with
   |some d=>if d<s.n then yN P call pcall ops m r (s.put d (.tup []))else none
   |none=>none
  | .bad=>none
def S9 (ops:Array Oper):Nat→Nat
 |0=>0
 |m+1=>if lF ops m=true then S9 ops m else m+1
def yO (o:aF):Nat:=o.foldl (fun m p=>max m p.1) 0
def G0:List AV→List Nat
 | []=> []
 | .ref L _ _::r=>L::G0 r
 |_::r=>G0 r
structure Orc where
 p:FuncId→Option (List AV→Option AV)
 m:FuncId→Option (List AV→aF→Option (AV×aF))
 e:FuncId→Bool:=fun _=>false
 u:FuncId→Bool:=fun _=>false
def bBb (P:Program) [Glob P] (ih:Code→ASt→Option (Exit×ASt)) (g:FuncId) (as:List AV) (d:Nat) (s:ASt):Option ASt:=
 match P.funcs[g]? with
 |some fn=>match fn.body with
  |some c=>match aD8 P g&&decide (as.length≤fn.ntmps)&&mR (max s.n (yO s.o+1)) s.o with
   |true=>match ih c (vE fn.ntmps (as.map (AV.ren (· +fn.ntmps))) (qO fn.ntmps s.o))with
    |some (.normal,s')=>match gF P s' fn.results.toList with
     |some xs=>some (rU fn.ntmps (max s.n (yO s.o+1)) s d (gG xs) s'.o)
     |none=>none
    |some (.ret,s')=>match gF P s' fn.results.toList with
     |some xs=>some (rU fn.ntmps (max s.n (yO s.o+1)) s d (gG xs) s'.o)
     |none=>none
    |_=>none
   |false=>none
  |none=>none
 |none=>none
def aEc (P:Program) [Glob P] (O:Orc) (ih:Code→ASt→Option (Exit×ASt)) (g:FuncId) (bs:List AV):Option AV:=
 match O.p g with
 |some f=>f bs
 |none=>match P.funcs[g]? with
 |some fn=>match fn.body with
  |some c=>match aD8 P g&&decide (bs.length≤fn.ntmps)with
   |true=>match ih c (qV fn.ntmps bs)with
    |some (.normal,s')=>pO P fn.results.toList (G0 ((gF P s' fn.results.toList).getD [])) s'
    |some (.ret,s')=>pO P fn.results.toList (G0 ((gF P s' fn.results.toList).getD [])) s'
    |_=>none
   |false=>none
  |none=>none
 |none=>none
def aEd (P:Program) [Glob P] (O:Orc) (ih:Code→ASt→Option (Exit×ASt)) (g:FuncId) (as:List AV) (d:Nat) (s:ASt):Option ASt:=
 match O.p g with
 |some f=>match jD s.o as with
  |some bs=>match f bs with
   |some v=>some (nN s d v)
   |none=>none
  |none=>none
 |none=>match O.u g with
 |true=>match jD s.o as with
  |some bs=>match aEc P O ih g bs with
   |some v=>some (nN s d v)
   |none=>none
  |none=>none
 |false=>match O.m g with
  |some f=>match mR (max s.n (yO s.o+1)) s.o with
   |true=>match f (as.map (AV.ren (· +64))) (qO 64 s.o)with
    |some (r,o')=>some (rU 64 (max s.n (yO s.o+1)) s d r o')
    |none=>none
   |false=>none
  |none=>match O.e g with
   |true=>match as with
    | [a]=>some (s.put d a)
    |_=>none
   |false=>bBb P ih g as d s
def bBc (P:Program) [Glob P] (O:Orc) (ih:Code→ASt→Option (Exit×ASt)) (c:Code) (s:ASt):Option (Exit×ASt):=
 match c with
 | .skip=>some (.normal,s)
 | .region _ ops draw=>match draw with
  |false=>match sE P (aEd P O ih) ops ops.toList s with
   |some s'=>some (.normal,aD7 s')
   |none=>none
  |true=>match P.follows .mixedOrders with
   |true=>match lF ops (S9 ops ops.size)with
    |true=>match yN P (aEd P O ih) (aEc P O ih) ops (S9 ops ops.size) ops.toList s with
     |some s'=>some (.normal,aD7 s')
     |none=>none
    |false=>none
   |false=>none
 | .seq a b=>match ih a s with
  |some (.normal,s1)=>ih b s1
  |r=>r
 | .cond c x y=>match ev s.t c with
  |some (.sc (.bool b))=>ih (if b=true then x else y) s
  |_=>none
 | .block id b=>match ih b s with
  |some (.exit id',s1)=>if id'=id then some (.normal,s1)else some (.exit id',s1)
  |r=>r
 | .loop b=>match ih b s with
  |some (.normal,s1)=>ih (.loop b) s1
  |r=>r
 | .exit id=>some (.exit id,s)
 | .ret=>some (.ret,s)
 |_=>none
def ax (P:Program) [Glob P] (O:Orc):Nat→Code→ASt→Option (Exit×ASt)
 |0=>fun _ _=>none
 |k+1=>bBc P O (ax P O k)
end Go.Ab
namespace Go.Ab
open Go.RowKit Go.ChangeShapes Go.WideShapes
section
variable {H : Type} {enc : TypeId × Value → H} {P : Program} [Glob P] {T : TypeId → Prop}
theorem bBd {W W':World} {base:Nat} {sp':Nat→Bool} (K:Kids P T) (hz: ∀t e,T t→P.underlying t=some (.slice e)→0<P.cellsOf e) {t:TypeId} (hT:T t) {v:Value} {d:DataW H} {ps:List MemPlace}
 (h:DataW.Trod enc P W base (fun _=>true) true t v d ps) (hsame: ∀p∈ps,W.sameAt W' p) (hs: ∀p∈ps,sp' p.block=true):DataW.Trod enc P W' base sp' true t v d ps:=by
 obtain⟨n,hn⟩:=h
 exact⟨n,DataW.trod_stays K (fun {t e}=>hz t e) (fun h=>by cases h) hT hn hsame hs⟩
theorem aEe {W W':World} {base:Nat} {sp':Nat→Bool} (K:Kids P T) (hz: ∀t e,T t→P.underlying t=some (.slice e)→0<P.cellsOf e):
 ∀{ts:List TypeId} {vs:List Value} {ds:List (DataW H)} {ps:List MemPlace},(∀t∈ts,T t)→DataW.TrodAll enc P W base (fun _=>true) true ts vs ds ps→(∀p∈ps,W.sameAt W' p)→(∀p∈ps,sp' p.block=true)→
  DataW.TrodAll enc P W' base sp' true ts vs ds ps
 | [],[],[],_,_,h,_,_=>h
 |_::_,_::_,_::_,_,hT,⟨p,q,h1,h2,e⟩,hm,hs=>⟨p,q,bBd K hz (hT _ (List.mem_cons.2 (Or.inl rfl))) h1 (fun x hx=>hm x (by rw[e];exact List.mem_append_left _ hx)) (fun x hx=>hs x (by rw[e];exact List.mem_append_left _ hx)),
  aEe K hz (fun t ht=>hT t (List.mem_cons.2 (Or.inr ht))) h2 (fun x hx=>hm x (by rw[e];exact List.mem_append_right _ hx)) (fun x hx=>hs x (by rw[e];exact List.mem_append_right _ hx)),e⟩
theorem bBe {W W':World} (hfr:Fr (fun _=>False) W W') (may:MemPlace→Prop):W.keptBut W' may:=by
 refine⟨hfr.os,hfr.output,fun i hi=>?_⟩
 rw[hfr.block i hi (fun h=>h)]
 split
 ·rename_i h1 h2
  rw[h1]at h2
  cases h2
  exact⟨rfl,rfl,rfl,fun _ _=>rfl⟩
 ·rename_i h1 h2
  rw[h1]at h2
  cases h2
  exact .inr ⟨rfl,rfl⟩
 ·rfl
theorem bBf {W W':World} (hfr:Fr (fun _=>False) W W') {p:MemPlace} (hp:p.block<W.heap.size):W.sameAt W' p:=by
 cases p with
 |cell b off=>exact qG (hfr.block b hp (fun h=>h))
 |map b=>exact hfr.block b hp (fun h=>h)
theorem cOv (K:Kids P T) (hz: ∀t e,T t→P.underlying t=some (.slice e)→0<P.cellsOf e) {f:Func} {s:ChangeSpec} {apart fresh handsOn again:Bool} {W W':World} {args:Array Value} {ds gs:List (DataW H)} {before:List MemPlace} {bt:TypeId}
 (hT: ∀t∈f.params.toList,T t) (hrt:f.resultTypes= #[bt]) (hbt:P.underlying bt=some .bool) (hvars:s.vars= []) (hW:DataW.Whole enc P f.params.toList s.vars apart W args.toList ds gs before)
 (hfn:s.fn H ds= {results:= [.lit (.bool true)],args:=ds}) (hfr:Fr (fun _=>False) W W'):s.post enc P f apart fresh handsOn again W args (.bool true) W':=by
 have hW':=hW
 obtain⟨p,q,hA,hV,rfl,hzf,hn⟩:=hW
 rw[hvars]at hV
 obtain⟨rfl,rfl⟩:=trodVars_none hV
 have hlt: ∀x∈p,x.block<W.heap.size:=DataW.TrodAll.lt hA
 have hargs: ∀sp:Nat→Bool,(∀x∈p,sp x.block=true)→DataW.TrodAll enc P W' 0 sp true f.params.toList args.toList ds p:=fun sp hs=>
  aEe K hz hT hA (fun x hx=>bBf hfr (hlt x hx)) hs
 have hres: ∀(b:Nat) (sp:Nat→Bool) (hd:Bool),DataW.TrodAll enc P W' b sp hd f.resultTypes.toList ((Value.bool true).resultList f.resultTypes.size) [.lit (.bool true)] []:=fun b sp hd=>by
  rw[hrt]
  exact trodAll_cons_mk (shut_bool hbt _) trodAll_mk0
 have hvs: ∀sp:Nat→Bool,DataW.TrodVars enc P W' sp s.vars ([]:List (DataW H)) []:=fun sp=>by rw[hvars];rfl
 simp only[List.append_nil]at hW' hzf hn
 refine⟨ds,[],p,[],p,[],hW',?_,?_,?_,bBe hfr _,fun _=>⟨?_,?_⟩⟩
 ·simp only[List.append_nil,hfn];exact hres _ _ _
 ·simp only[List.append_nil,hfn];exact hargs _ (fun x hx=>by simpa using hlt x hx)
 ·simp only[List.append_nil,hfn];exact hvs _
 ·exact ok_one hrt rfl (okWide_bool_mk hbt _)
 ·refine⟨_,[],[]++p,⟨[]++p,[],trodAll_append (hargs _ (fun _ _=>rfl)) (hres 0 _ _),hvs _,by simp,fun b off hp=>?_,fun ha=>?_⟩,fun x hx _=>by simpa using hx⟩
  ·have hb:b<W.heap.size:=hlt (.cell b off) (by simpa using hp)
   have:W'.frozen? ⟨b,off,none⟩=W.frozen? ⟨b,off,none⟩:=by simp only[World.frozen?,hfr.block b hb (fun h=>h)]
   rw[this]
   exact hzf b off (by simpa using hp)
  ·simpa using hn ha
end
end Go.Ab
namespace Go.Ab
open Go.RowKit
structure Hide {α:Type} (K T:α):Prop where
 eq:K=T
theorem Hide.go {P:Program} [Glob P] {Q:Exit→ASt→Prop} {K:ASt→Prop} {c:Code} {s:ASt} (h:Hide K (cN P c Q)) (k:cN P c Q s):K s:=by rw[h.eq];exact k
theorem bBg {P:Program} [Glob P] {a b:Code} {Q:Exit→ASt→Prop} {s:ASt} (h: ∀K,Hide K (cN P b Q)→cN P a (nU K Q) s):cN P (.seq a b) Q s:=h _ ⟨rfl⟩
def bt (s:ByteArray) (i:Nat):Int:=((s.data.toList.getD i 0).toNat:Int)
theorem bBh (s:ByteArray) (i:Nat):0≤bt s i∧bt s i≤255:=by
 have:=(s.data.toList.getD i 0).toNat_lt
 unfold bt;omega
theorem bBi {P:Program} [Glob P] {t:TypeId} {s:ByteArray} {k:IntKind} {i:Int}:uS P t (.sc (.string s)) (.sc (.int k i))=if lR P t=true then some ⟨decide (0≤i∧i<s.size),nt .u8 (bt s i.toNat)⟩else none:=aS2
attribute [go_sem] bBi
theorem bBj (a b:Int):(if b>a then b else a)=max a b:=by
 rw[Int.max_def];split<;>split<;>omega
theorem bBk (a b:Int):(if b<a then b else a)=min a b:=by
 rw[Int.min_def];split<;>split<;>omega
theorem bBl {P:Program} [Glob P] {d:Option Nat} {x y:Operand} {ts:Array TypeId} {ty:TypeId} {pos:String} {af g} {ρ:Operand→Option AV} {k k':IntKind} {a b:Int}
 (hx:ρ x=some (.sc (.int k a))) (hy:ρ y=some (.sc (.int k' b))):dR P ⟨d,.call ⟨.builtin .max,#[x,y],ts⟩,ty,pos,af,g⟩ ρ=some ⟨true,.sc (.int k (max a b))⟩:=by
 unfold dR
 rw[if_pos ⟨rfl,by simp[Op.operands,Call.operands,hx,hy,eQ,jZ]⟩]
 have e:nG P (execOp (fun z=>kC ((ρ z).bind eQ)) ⟨d,.call ⟨.builtin .max,#[x,y],ts⟩,ty,pos,af,g⟩)=some (.value (.int k (if b>a then b else a))):=by
  simp only[execOp,resolve,Array.map,hx,hy]
  simp[hx,hy,eQ,jZ,kC]
  rfl
 rw[e,bBj]
 rfl
theorem bBm {P:Program} [Glob P] {d:Option Nat} {x y:Operand} {ts:Array TypeId} {ty:TypeId} {pos:String} {af g} {ρ:Operand→Option AV} {k k':IntKind} {a b:Int}
 (hx:ρ x=some (.sc (.int k a))) (hy:ρ y=some (.sc (.int k' b))):dR P ⟨d,.call ⟨.builtin .min,#[x,y],ts⟩,ty,pos,af,g⟩ ρ=some ⟨true,.sc (.int k (min a b))⟩:=by
 unfold dR
 rw[if_pos ⟨rfl,by simp[Op.operands,Call.operands,hx,hy,eQ,jZ]⟩]
 have e:nG P (execOp (fun z=>kC ((ρ z).bind eQ)) ⟨d,.call ⟨.builtin .min,#[x,y],ts⟩,ty,pos,af,g⟩)=some (.value (.int k (if b<a then b else a))):=by
  simp only[execOp,resolve,Array.map,hx,hy]
  simp[hx,hy,eQ,jZ,kC]
  rfl
 rw[e,bBk]
 rfl
def yP (f:Int→Int→Int) (z:Option Sv):Option AV→Option AV→Option Sv
 |some (.sc (.int k a)),some (.sc (.int _ b))=>some ⟨true,.sc (.int k (f a b))⟩
 |_,_=>z
theorem bBn {f:Int→Int→Int} {z:Option Sv} {k k':IntKind} {a b:Int}:yP f z (some (.sc (.int k a))) (some (.sc (.int k' b)))=some ⟨true,.sc (.int k (f a b))⟩:=rfl
theorem aEf {f:Int→Int→Int} {z:Option Sv} {x y:Option AV} (h: ∀k k' a b,x=some (.sc (.int k a))→y=some (.sc (.int k' b))→z=some ⟨true,.sc (.int k (f a b))⟩):z=yP f z x y:=by
 unfold yP
 split
 ·exact h _ _ _ _ rfl rfl
 ·rfl
theorem bBo {P:Program} [Glob P] {d:Nat} {x y:Operand} {ts:Array TypeId} {ty:TypeId} {pos:String} {af g} {s:ASt}:bF P ⟨some d,.call ⟨.builtin .max,#[x,y],ts⟩,ty,pos,af,g⟩ s=
 dE (yP max (dR P ⟨some d,.call ⟨.builtin .max,#[x,y],ts⟩,ty,pos,af,g⟩ (bX P s.t)) (bX P s.t x) (bX P s.t y)):=
 aQk.trans (congrArg dE (aEf fun k k' a b hx hy=>bBl hx hy))
theorem bBp {P:Program} [Glob P] {d:Nat} {x y:Operand} {ts:Array TypeId} {ty:TypeId} {pos:String} {af g} {s:ASt}:bF P ⟨some d,.call ⟨.builtin .min,#[x,y],ts⟩,ty,pos,af,g⟩ s=
 dE (yP min (dR P ⟨some d,.call ⟨.builtin .min,#[x,y],ts⟩,ty,pos,af,g⟩ (bX P s.t)) (bX P s.t x) (bX P s.t y)):=
 aQj.trans (congrArg dE (aEf fun k k' a b hx hy=>bBm hx hy))
attribute [go_sem] bBo bBp bBn
theorem kM (a b:ByteArray):(a==b)=decide (a=b):=by
 rw[Bool.eq_iff_iff,decide_eq_true_eq]
 constructor
 ·intro h
  obtain⟨a⟩:=a;obtain⟨b⟩:=b
  have h':(a==b)=true:=h
  rw[eq_of_beq h']
 ·rintro rfl
  obtain⟨a⟩:=a
  show(a==a)=true
  simp
def lH (P:Program) [Glob P] (e:TypeId):Option Nat:=(dN P e).map fun v=>v.cells.size
def T0 (q:Option Nat) (kk es bytes:Nat) (ys xs:List AV) (d:Nat) (s:ASt):Option St:=match q with
 |some n=>some ⟨decide (d<s.n∧n=es∧(∀y∈ys,y.cells.length=es)∧(∀y∈xs,y.cells.length=es)∧bytes≠0∧(2*(xs.length+ys.length)+200)*bytes≤2^48∧(xs= []∨ys≠ [])),s.renew d d d (gZ es (xs++ys) kk) (.ref d 0 (xs++ys).length)⟩
 |none=>none
theorem bBq {n kk es bytes d:Nat} {ys xs:List AV} {s:ASt}:T0 (some n) kk es bytes ys xs d s=some ⟨decide (d<s.n∧n=es∧(∀y∈ys,y.cells.length=es)∧(∀y∈xs,y.cells.length=es)∧bytes≠0∧(2*(xs.length+ys.length)+200)*bytes≤2^48∧(xs= []∨ys≠ [])),s.renew d d d (gZ es (xs++ys) kk) (.ref d 0 (xs++ys).length)⟩:=rfl
theorem bBr {P:Program} [Glob P] {e:TypeId} {es bytes:Nat} {ys xs:List AV} {l:Bool} {d:Nat} {s:ASt}:
 vI (some (e,es,bytes)) true (some ys) (dN P) (dX P) (.list l true xs) d s=T0 (lH P e) (dX P e) es bytes ys xs d s:=by
 simp only[vI,T0,lH]
 cases dN P e with
 |none=>rfl
 |some v=>simp
def T1 (q:Option Nat) (x:Option AObj) (L n es bytes kk d:Nat) (ys:List AV) (s:ASt):Option St:=match q with
 |some z=>match x with
  |some x=>if x.arr=true∧x.fz=false then some ⟨decide (d<s.n∧z=es∧(∀y∈ys,y.cells.length=es)∧x.es=es∧bytes≠0∧(2*(n+ys.length)+200)*bytes≤2^48∧n≤x.xs.length),
   s.renew L (if x.pin=true then d else L) d (gZ es (bY x.xs 0 n++ys) (if x.kd=kk then kk else 0)) (.ref (if x.pin=true then d else L) 0 (n+ys.length))⟩else none
  |none=>none
 |none=>none
theorem bBs {z:Nat} {kd kk:Nat} {L n es es' bytes d:Nat} {xs ys:List AV} {pin:Bool} {s:ASt}:T1 (some z) (some ⟨true,false,pin,es',xs,kd⟩) L n es bytes kk d ys s=some ⟨decide (d<s.n∧z=es∧(∀y∈ys,y.cells.length=es)∧es'=es∧bytes≠0∧(2*(n+ys.length)+200)*bytes≤2^48∧n≤xs.length),
 s.renew L (if pin=true then d else L) d (gZ es (bY xs 0 n++ys) (if kd=kk then kk else 0)) (.ref (if pin=true then d else L) 0 (n+ys.length))⟩:=rfl
theorem bBt {P:Program} [Glob P] {e:TypeId} {es bytes:Nat} {ys:List AV} {L n d:Nat} {s:ASt}:
 vI (some (e,es,bytes)) true (some ys) (dN P) (dX P) (.ref L 0 n) d s=T1 (lH P e) (lk s.o L) L n es bytes (dX P e) d ys s:=by
 simp only[vI,T1,lH]
 cases dN P e with
 |none=>rfl
 |some v=>
  cases lk s.o L with
  |none=>rfl
  |some x=>simp
theorem bBu (c:UInt8):(eC c).cells= [eC c]:=rfl
attribute [go_sem] bBq bBr bBs bBt bBu List.forall_mem_map
section
variable {P : Program} [Glob P] {Q : Exit → ASt → Prop} {s : ASt} {k : ASt → Prop}
theorem zqd {p:Prop} [Decidable p] {x y:Code} (h1:p→cN P x Q s) (h2: ¬p→cN P y Q s):oS P (some (.sc (.bool (decide p)))) x y Q s:=aNs h1 h2
theorem zqn {p:Prop} [Decidable p] {x y:Code} (h1: ¬p→cN P x Q s) (h2:p→cN P y Q s):oS P (some (.sc (.bool (!decide p)))) x y Q s:=aNt h1 h2
theorem zgd {p:Prop} [Decidable p] {want:Bool} {o:Oper} (h1:p→gK P (.test true want) o k s) (h2: ¬p→gK P (.test false want) o k s):gK P (.test (decide p) want) o k s:=aN5 h1 h2
theorem zgn {p:Prop} [Decidable p] {want:Bool} {o:Oper} (h1: ¬p→gK P (.test true want) o k s) (h2:p→gK P (.test false want) o k s):gK P (.test (!decide p) want) o k s:=aN6 h1 h2
theorem zdd {p:Prop} [Decidable p] {want:Bool} {o:Oper} (h1:p→fG P (.test true want) o k s) (h2: ¬p→fG P (.test false want) o k s):fG P (.test (decide p) want) o k s:=aOm h1 h2
theorem zdn {p:Prop} [Decidable p] {want:Bool} {o:Oper} (h1: ¬p→fG P (.test true want) o k s) (h2:p→fG P (.test false want) o k s):fG P (.test (!decide p) want) o k s:=aOn h1 h2
theorem zqs {b:Bool} {x y:Code} (h1:b=true→cN P x Q s) (h2:b=false→cN P y Q s):oS P (some (.sc (.bool b))) x y Q s:=aNr h1 h2
theorem zgs {b want:Bool} {o:Oper} (h1:b=true→gK P (.test true want) o k s) (h2:b=false→gK P (.test false want) o k s):gK P (.test b want) o k s:=Q3 h1 h2
end
theorem Le.sub4 {s0 s:ASt} (hn:s0.n=s.n) (h:(∀p∈s0.t,lk s.t p.1=some p.2)∧(∀p∈s0.o,lk s.o p.1=some p.2)∧(∀p∈s0.t,p.2.okIn s0.o=true)∧(∀p∈s0.o,tM s0.o p.2=true)):Le s0 s:=Le.sub hn h.1 h.2.1 h.2.2.1 h.2.2.2
end Go.Ab
namespace Go.Ab
open Go.RowKit Go.ChangeShapes Go.WideShapes
theorem cOw {P:Program} [Glob P] {f:FuncId} {as:List AV} (h:ACall P f as (fun r=>r=bl true)) {W:World} {F:Bool→bJ} {cargs:Array Value} (hg:GlF P F) (hF:Fok F W) (hl:as.length=cargs.size)
 (ha: ∀(i:Nat) (a:AV) (v:Value),as[i]?=some a→cargs[i]?=some v→RV F cB a v):Calls P f cargs W fun e W'=>e= .returned (.bool true)∧Fr (fun _=>False) W W':=
 (h.2 W F cargs hg hF hl ha).mono fun e W' ⟨v,r,F',he,hr,hp,hv⟩=>by
  subst hr
  obtain⟨p,hv⟩:=(show ∃p,ResV1 F' W' W.heap.size p v (bl true)from hv)
  obtain⟨_,hv⟩:=(show AV.pure (bl true)=true∧RV F' cB (bl true) v from hv)
  cases hv
  exact⟨he,hp.fr⟩
end Go.Ab
namespace Go.Ab
open Go.RowKit
def wF (w:World):Bool→bJ:=fun _ b k=>w.cell? ⟨b,k,none⟩
theorem cOx (w:World):Fok (wF w) w:=⟨fun _ _ _ _ h=>h,fun _ _ _ h=>h⟩
def CellsR (w:World) (cs:List AV) (vs:List Value):Prop:=cs.length=vs.length∧ ∀(j:Nat) (a:AV) (v:Value),cs[j]?=some a→vs[j]?=some v→RV (wF w) cB a v∧one v=true
theorem CellsR.nil {w:World}:CellsR w [] []:=⟨rfl,fun j a v h=>by simp at h⟩
theorem CellsR.one1 {w:World} {a:AV} {v:Value} (h:RV (wF w) cB a v) (ho:one v=true):CellsR w [a] [v]:=⟨rfl,fun j b u hb hu=>by
 cases j with
 |zero=>simp at hb hu;subst hb;subst hu;exact⟨h,ho⟩
 |succ j=>simp at hb⟩
theorem CellsR.append {w:World} {cs cs':List AV} {vs vs':List Value} (h:CellsR w cs vs) (h':CellsR w cs' vs'):CellsR w (cs++cs') (vs++vs'):=by
 refine⟨by simp[h.1,h'.1],fun j a v ha hv=>?_⟩
 by_cases hj:j<cs.length
 ·rw[List.getElem?_append_left hj]at ha
  rw[List.getElem?_append_left (by rw[←h.1];exact hj)]at hv
  exact h.2 j a v ha hv
 ·rw[List.getElem?_append_right (by omega)]at ha
  rw[List.getElem?_append_right (by rw[←h.1];omega),←h.1]at hv
  exact h'.2 _ a v ha hv
section
variable {H : Type} {enc : TypeId × Value → H} {P : Program} [Glob P] {w : World}
def Came (enc:TypeId×Value→H) (P:Program) [Glob P] (w:World) {α:Type} (n:Nat) (t:TypeId) (en:α→AV) (ok:α→Prop):Prop:=
 ∀cs d ps,DataW.trod enc P w 0 (fun _=>true) true n t cs=some (d,ps)→(∀m∈d.weights P t,m≤reachBytes)→ ∃x,ok x∧CellsR w (en x).cells cs
theorem Came.zero {α:Type} {t:TypeId} {en:α→AV} {ok:α→Prop}:Came enc P w 0 t en ok:=fun cs d ps h=>by simp[DataW.trod]at h
theorem Came.bool {n:Nat} {t:TypeId} (hu:P.underlying t=some .bool):Came enc P w n t (fun b:Bool=> .sc (.bool b)) (fun _=>True):=by
 intro cs d ps h hw
 cases n with
 |zero=>simp[DataW.trod]at h
 |succ n=>
  rw[DataW.trod_step]at h
  unfold DataW.trodStep at h
  rw[hu]at h
  split at h<;>first|(rename_i b _ _;exact⟨_,trivial,CellsR.one1 (.sc rfl) rfl⟩)|simp_all
theorem Came.int {n:Nat} {t:TypeId} {k:IntKind} (hu:P.underlying t=some (.int k)):Came enc P w n t (fun i:Int=> .sc (.int k i)) (fun i=>k.min≤i∧i≤k.max):=by
 intro cs d ps h hw
 cases n with
 |zero=>simp[DataW.trod]at h
 |succ n=>
  rw[DataW.trod_step]at h
  unfold DataW.trodStep at h
  rw[hu]at h
  split at h
  case h_2 k0 k' m hk=>
   obtain rfl:k=k0:=by simpa using hk
   split at h
   ·rename_i hc
    obtain⟨rfl,hc⟩:=hc
    exact⟨m,by simpa[Lit.wf]using hc,CellsR.one1 (.sc rfl) rfl⟩
   ·cases h
  all_goals simp_all
def I64 (i:Int):Prop:= -9223372036854775808≤i∧i≤9223372036854775807
theorem I64.of {i:Int} (h:IntKind.i64.min≤i∧i≤IntKind.i64.max):I64 i:=by
 have e1:IntKind.i64.min= -9223372036854775808:=by decide+kernel
 have e2:IntKind.i64.max=9223372036854775807:=by decide+kernel
 rw[e1,e2]at h;exact h
theorem Came.i64 {n:Nat} {t:TypeId} (hu:P.underlying t=some (.int .i64)):Came enc P w n t (fun i:Int=>nt .i64 i) I64:=by
 intro cs d ps h hw
 obtain⟨x,a,b⟩:=Came.int hu cs d ps h hw
 exact⟨x,I64.of a,b⟩
theorem Came.string {n:Nat} {t:TypeId} (hu:P.underlying t=some .string):Came enc P w n t (fun s:ByteArray=> .sc (.string s)) (fun s=>s.size≤reachBytes):=by
 intro cs d ps h hw
 cases n with
 |zero=>simp[DataW.trod]at h
 |succ n=>
  rw[DataW.trod_step]at h
  unfold DataW.trodStep at h
  rw[hu]at h
  split at h
  case h_4 s hk=>
   split at h
   ·obtain⟨rfl,rfl⟩:=Prod.mk.inj (Option.some.inj h)
    exact⟨s,by have:=hw s.data.toList.length (by simp only[DataW.weights,List.mem_singleton]);rw[Array.length_toList]at this;exact this,CellsR.one1 (.sc rfl) rfl⟩
   ·cases h
  all_goals simp_all
theorem T2 {e:TypeId}: ∀{ds:List (DataW H)} {d:DataW H},d∈ds→ ∀m∈d.weights P e,m∈DataW.weightsAll P e ds
 | [],_,h,_,_=>by simp at h
 |d0::ds,d,h,m,hm=>by
  simp only[DataW.weightsAll,List.mem_append]
  rcases List.mem_cons.1 h with rfl|h
  ·exact .inl hm
  ·exact .inr (T2 h m hm)
theorem Came.slice {n:Nat} {t e:TypeId} {α:Type} {en:α→AV} {ok:α→Prop} (hu:P.underlying t=some (.slice e)) (hes:0<P.cellsOf e) (hb:0<P.bytesOf e) (h1:Came enc P w n e en ok):
 Came enc P w (n+1) t (fun l:List α=> .list false false (l.map en)) (fun l=>(∀x∈l,ok x)∧l.length*P.bytesOf e≤reachBytes):=by
 intro cs d ps h hw
 rw[DataW.trod_step]at h
 unfold DataW.trodStep at h
 rw[hu]at h
 split at h
 case h_7=>
  exact⟨[],⟨by simp,by simp⟩,CellsR.one1 .nil rfl⟩
 case h_8 e' a len cap hk=>
  obtain rfl:e=e':=by simpa using hk
  simp only at h
  split at h
  ·rename_i hc
   obtain⟨hc1,hc2,hc3⟩:=hc
   simp only[if_true,Option.map_eq_some_iff,Option.bind_eq_some_iff]at h
   obtain⟨elems,he,rest,hrest,hd⟩:=h
   obtain⟨rfl,rfl⟩:=Prod.mk.inj hd
   have hlen:elems.length=len:=by simpa using mapM_some_length he
   have hrl:rest.length=cap - len:=by simpa using mapM_some_length hrest
   have hel: ∀i,i<len→ ∃x:α,ok x∧ ∃vs:List Value,CellsR w (en x).cells vs∧vs.length=P.cellsOf e∧ ∀j,j<P.cellsOf e→w.cell? ((a.add (i*P.cellsOf e)).add j)=vs[j]?:=by
    intro i hi
    have hy:=mapM_some_get he i i (by simp[hi])
    have hlt:i<elems.length:=by omega
    rw[List.getElem?_eq_getElem hlt]at hy
    simp only[Option.bind_eq_some_iff]at hy
    obtain⟨vs,hv1,hv2⟩:=hy
    obtain⟨_,c2,c3⟩:=World.cells?_some hv1
    obtain⟨x,hx1,hx2⟩:=h1 vs elems[i].1 elems[i].2 hv2 (fun m hm=>hw m (by
     simp only[DataW.weights,hu,List.mem_cons,List.mem_append]
     exact .inr (.inl (T2 (List.mem_map.2 ⟨_,List.getElem_mem hlt,rfl⟩) m hm))))
    exact⟨x,hx1,vs,hx2,c2,c3⟩
   have hwt:(len+(cap - len))*P.bytesOf e≤reachBytes:=by
    have:=hw ((elems.length+rest.length)*P.bytesOf e) (by simp[DataW.weights,hu])
    rw[hlen,hrl]at this;exact this
   have hwl:len*P.bytesOf e≤reachBytes:=Nat.le_trans (Nat.mul_le_mul_right _ (by omega)) hwt
   have hch: ∃l:List α,l.length=len∧ ∀(i:Nat) (x:α),l[i]?=some x→ok x∧ ∃vs:List Value,CellsR w (en x).cells vs∧vs.length=P.cellsOf e∧ ∀j,j<P.cellsOf e→w.cell? ((a.add (i*P.cellsOf e)).add j)=vs[j]?:=by
    clear he hrest hw hd hwt hwl hc2 hlen hrl
    induction len with
    |zero=>exact⟨[],rfl,fun i x hx=>by simp at hx⟩
    |succ m ih=>
     obtain⟨l,g1,g2⟩:=ih (fun i hi=>hel i (by omega))
     obtain⟨x,hx⟩:=hel m (by omega)
     refine⟨l++ [x],by simp[g1],fun i y hy=>?_⟩
     by_cases hi:i<l.length
     ·rw[List.getElem?_append_left hi]at hy;exact g2 i y hy
     ·rw[List.getElem?_append_right (by omega)]at hy
      cases hq:i - l.length with
      |zero=>
       rw[hq]at hy;simp at hy;subst hy
       obtain rfl:i=m:=by omega
       exact hx
      |succ q=>rw[hq]at hy;simp at hy
   obtain⟨l,g1,g2⟩:=hch
   refine⟨l,⟨fun x hx=>?_,by rw[g1];exact hwl⟩,CellsR.one1 ?_ rfl⟩
   ·obtain⟨i,hi⟩:=List.getElem?_of_mem hx
    exact(g2 i x hi).1
   ·by_cases hcap:cap=0
    ·subst hcap
     have hl0:len=0:=by omega
     subst hl0
     obtain rfl:l= []:=List.eq_nil_of_length_eq_zero g1
     exact .nil
    ·have hsp:a.spot=none:=by
      by_cases hl0:len=0
      ·have hr0:0<rest.length:=by omega
       have hy:=mapM_some_get hrest 0 0 (by rw[List.getElem?_range (by omega)])
       rw[List.getElem?_eq_getElem hr0]at hy
       simp only[Option.bind_eq_some_iff]at hy
       obtain⟨vs,hv1,hv2⟩:=hy
       obtain⟨_,c2,c3⟩:=World.cells?_some hv1
       have c0:=c3 0 hes
       rw[List.getElem?_eq_getElem (by omega)]at c0
       simpa[Addr.add,hl0]using World.cell?_spot c0
      ·have h0:0<l.length:=by omega
       obtain⟨_,vs,c1,c2,c3⟩:=g2 0 l[0] (by simp[h0])
       have c0:=c3 0 hes
       rw[List.getElem?_eq_getElem (by omega)]at c0
       simpa[Addr.add]using World.cell?_spot c0
     obtain⟨b,off,spot⟩:=a
     simp only at hsp
     subst hsp
     have hadd: ∀k,(Addr.mk b off none).add k=⟨b,off+k,none⟩:=fun k=>by
      unfold Addr.add;split
      ·rename_i hk;subst hk;rfl
      ·rfl
     have hadd2: ∀k j,((Addr.mk b off none).add k).add j=⟨b,off+k+j,none⟩:=fun k j=>by
      rw[hadd];unfold Addr.add;split
      ·rename_i hk;subst hk;rfl
      ·rfl
     simp only[hadd2]at g2
     have key:= @RV.list (wF w) cB false false (l.map en) b off off cap (P.cellsOf e) (fun i j=>(w.cell? ⟨b,off+i*P.cellsOf e+j,none⟩).getD .nilIface)
      (fun y hy=>by
       obtain⟨x,hx,rfl⟩:=List.mem_map.1 hy
       obtain⟨i,hi⟩:=List.getElem?_of_mem hx
       obtain⟨_,vs,c1,c2,c3⟩:=g2 i x hi
       rw[c1.1,c2])
      (by rw[List.length_map,g1];exact hc2)
      (by
       rw[List.length_map,g1]
       have:len≤len*P.bytesOf e:=Nat.le_mul_of_pos_right _ hb
       have h47:=reachBytes_lt
       unfold dC;omega)
      (fun hf=>by cases hf) (fun _=>rfl)
      (fun i y j c hy hj=>by
       simp only[List.getElem?_map,Option.map_eq_some_iff]at hy
       obtain⟨x,hx,rfl⟩:=hy
       obtain⟨_,vs,c1,c2,c3⟩:=g2 i x hx
       have hjl:j<P.cellsOf e:=by rw[←c2,←c1.1];exact(List.getElem?_eq_some_iff.1 hj).1
       show w.cell? _=_
       rw[c3 j hjl,List.getElem?_eq_getElem (by omega)];rfl)
      (fun i y j c hy hj=>by
       simp only[List.getElem?_map,Option.map_eq_some_iff]at hy
       obtain⟨x,hx,rfl⟩:=hy
       obtain⟨_,vs,c1,c2,c3⟩:=g2 i x hx
       have hjl:j<P.cellsOf e:=by rw[←c2,←c1.1];exact(List.getElem?_eq_some_iff.1 hj).1
       have hv:vs[j]?=some vs[j]:=List.getElem?_eq_getElem (by omega)
       rw[c3 j hjl,hv]
       exact(c1.2 j c vs[j] hj hv).1)
      (fun i y j c hy hj=>by
       simp only[List.getElem?_map,Option.map_eq_some_iff]at hy
       obtain⟨x,hx,rfl⟩:=hy
       obtain⟨_,vs,c1,c2,c3⟩:=g2 i x hx
       have hjl:j<P.cellsOf e:=by rw[←c2,←c1.1];exact(List.getElem?_eq_some_iff.1 hj).1
       have hv:vs[j]?=some vs[j]:=List.getElem?_eq_getElem (by omega)
       rw[c3 j hjl,hv]
       exact(c1.2 j c vs[j] hj hv).2)
     rw[List.length_map,g1]at key
     exact key
  ·cases h
 all_goals simp_all
def CameF (enc:TypeId×Value→H) (P:Program) [Glob P] (w:World) {α:Type} (n N:Nat) (fs:List Field) (off:Nat) (en:α→List AV) (ok:α→Prop):Prop:=
 ∀(cs:List Value) (xs:List (DataW H×List MemPlace)),cs.length=N→fs.mapM (fun f=>DataW.trod enc P w 0 (fun _=>true) true n f.type ((cs.drop f.offset).take (P.cellsOf f.type)))=some xs→(∀m∈DataW.weightsEach P (fs.map (·.type)) (xs.map (·.1)),m≤reachBytes)→
  ∃x,ok x∧CellsR w (en x) (cs.drop off)
theorem CameF.nil {n N:Nat}:CameF enc P w n N [] N (fun _:Unit=> []) (fun _=>True):=by
 intro cs xs hN h hw
 refine⟨(),trivial,?_⟩
 rw[List.drop_of_length_le (by omega)]
 exact CellsR.nil
theorem CameF.cons {n N off:Nat} (k:Nat) {f:Field} {fs:List Field} {α β:Type} {en:α→AV} {ok:α→Prop} {enr:β→List AV} {oA:β→Prop} (ho:f.offset=off) (hk:P.cellsOf f.type=k)
 (h1:Came enc P w n f.type en ok) (h2:CameF enc P w n N fs (off+k) enr oA):CameF enc P w n N (f::fs) off (fun x:α×β=>(en x.1).cells++enr x.2) (fun x=>ok x.1∧oA x.2):=by
 intro cs xs hN h hw
 subst ho;subst hk
 simp only[List.mapM_cons]at h
 cases hy:DataW.trod enc P w 0 (fun _=>true) true n f.type ((cs.drop f.offset).take (P.cellsOf f.type))with
 |none=>simp[hy]at h
 |some y=>
  cases hz:fs.mapM (fun f=>DataW.trod enc P w 0 (fun _=>true) true n f.type ((cs.drop f.offset).take (P.cellsOf f.type)))with
  |none=>simp[hy,hz]at h
  |some ys=>
   simp[hy,hz]at h
   subst h
   simp only[List.map_cons,DataW.weightsEach,List.mem_append]at hw
   obtain⟨x,a1,a2⟩:=h1 _ y.1 y.2 hy (fun m hm=>hw m (.inl hm))
   obtain⟨z,b1,b2⟩:=h2 cs ys hN hz (fun m hm=>hw m (.inr hm))
   refine⟨(x,z),⟨a1,b1⟩,?_⟩
   have e:cs.drop f.offset=(cs.drop f.offset).take (P.cellsOf f.type)++cs.drop (f.offset+P.cellsOf f.type):=by
    rw[←List.drop_drop,List.take_append_drop]
   rw[e]
   exact a2.append b2
theorem Came.struct {n N:Nat} {t:TypeId} {fs:Array Field} {l:List Field} {α:Type} {en:α→List AV} {ok:α→Prop} (hu:P.underlying t=some (.struct fs)) (hl:fs.toList=l) (hN:P.cellsOf t=N)
 (h1:CameF enc P w n N l 0 en ok):Came enc P w (n+1) t (fun x:α=> .agg (en x)) ok:=by
 intro cs d ps h hw
 rw[DataW.trod_step]at h
 unfold DataW.trodStep at h
 rw[hu]at h
 split at h
 case h_9 cs0 fs' hk=>
  obtain rfl:fs=fs':=by simpa using hk
  split at h
  ·rename_i hc
   simp only[Option.map_eq_some_iff]at h
   obtain⟨xs,hx,hd⟩:=h
   obtain⟨rfl,rfl⟩:=Prod.mk.inj hd
   rw[hl]at hx
   obtain⟨x,a1,a2⟩:=h1 _ xs (by omega) hx (fun m hm=>hw m (by simpa[DataW.weights,hu,hl]using hm))
   exact⟨x,a1,by rw[List.drop_zero]at a2;exact a2⟩
  ·cases h
 all_goals simp_all
theorem Came.map {n:Nat} {t:TypeId} {α β:Type} {en:α→AV} {ok:α→Prop} {en':β→AV} {ok':β→Prop} (h:Came enc P w n t en ok) (g:α→β) (hg: ∀x,ok x→ok' (g x)∧en' (g x)=en x):Came enc P w n t en' ok':=by
 intro cs d ps h1 h2
 obtain⟨x,a1,a2⟩:=h cs d ps h1 h2
 obtain⟨b1,b2⟩:=hg x a1
 exact⟨g x,b1,by rw[b2];exact a2⟩
theorem Came.arg {t:TypeId} {α:Type} {en:α→AV} {ok:α→Prop} {base:Nat} {v:Value} {d:DataW H} {ps:List MemPlace} (h: ∀n,Came enc P w n t en ok) (ht:DataW.Trod enc P w 0 (fun _=>true) true t v d ps)
 (hv:Value.okWide P w .any base t v) (hw: ∀m∈d.weights P t,m≤reachBytes) (hag: ∀x cs,en x= .agg cs→mL P t=true) (hna:mL P t=true→ ∀x,∃cs,en x= .agg cs): ∃x,ok x∧RV (wF w) cB (en x) v:=by
 obtain⟨n,ht⟩:=ht
 obtain⟨x,a1,a2,a3⟩:=h n _ d ps ht hw
 refine⟨x,a1,?_⟩
 unfold Value.okWide at hv
 by_cases hA:mL P t=true
 ·obtain⟨cs,hcs⟩:=hna hA x
  rw[hcs]at a2 a3 ⊢
  have: ∃vs:Array Value,v= .agg vs:=by
   unfold mL at hA
   split at hA<;>split at hv<;>simp_all<;>(obtain⟨vs,rfl,_⟩:=hv;exact⟨vs,rfl⟩)
  obtain⟨vs,rfl⟩:=this
  refine .agg (by simpa[AV.cells,Value.cells]using a2) (fun i a v ha hv=>(a3 i a v (by simpa[AV.cells]using ha) (by simpa[Value.cells]using hv)).1) (fun i v hv=>?_)
  have hl:cs.length=vs.size:=by simpa[AV.cells,Value.cells]using a2
  have hi:i<cs.length:=by rw[hl];exact(Array.getElem?_eq_some_iff.1 hv).1
  exact(a3 i cs[i] v (by simp[AV.cells,hi]) (by simpa[Value.cells]using hv)).2
 ·have hc:(en x).cells= [en x]:=by
   cases he:en x with
   |agg cs=>exact absurd (hag x cs he) hA
   |_=>rfl
  rw[hc]at a2 a3
  have hvc:v.cells.toList= [v]:=by
   unfold Value.cells at a2 ⊢
   split
   ·exfalso
    unfold mL at hA
    split at hv
    ·simp_all
    ·simp_all
    ·unfold Cell.okWide Cell.ok at hv
     split at hv<;>simp_all
   ·rfl
  rw[hvc]at a3
  exact(a3 0 (en x) v rfl rfl).1
end
end Go.Ab
namespace Go.Ab
open Go.RowKit
def lX (live:List Nat):List (Nat×AV)→List (Nat×AV)
 | []=> []
 |p::r=>if live.contains p.1=true then p::lX live r else lX live r
def lY (out:List Nat):aF→aF
 | []=> []
 |p::r=>if out.contains p.1=true then lY out r else p::lY out r
theorem bBv {live:List Nat}:lX live []= []:=rfl
theorem bBw {live:List Nat} {p:Nat×AV} {r:List (Nat×AV)}:lX live (p::r)=if live.contains p.1=true then p::lX live r else lX live r:=rfl
theorem bBx {out:List Nat}:lY out []= []:=rfl
theorem bBy {out:List Nat} {p:Nat×AObj} {r:aF}:lY out (p::r)=if out.contains p.1=true then lY out r else p::lY out r:=rfl
attribute [go_sem] bBv bBw bBx bBy
structure HideA {α:Type} (A:ASt→Prop) (S:α→ASt) (meas:α→Nat) (inv:α→Prop) (x:α):Prop where
 go: ∀s y,Le (S y) s→meas y<meas x→inv y→A s
inductive OweX (p:Prop):Type
 |mk
structure Owe (p:Prop) (x:OweX p):Prop where
 it:p
theorem HideA.next {α:Type} {A:ASt→Prop} {S:α→ASt} {meas:α→Nat} {inv:α→Prop} {x:α} {s:ASt} (h:HideA A S meas inv x) (y:α) (hl:Le (S y) s) (hm:meas y<meas x) (hi:Owe (inv y) .mk):A s:=h.go s y hl hm hi.it
theorem bR {α:Type} {P:Program} [Glob P] {b:Code} {Q:Exit→ASt→Prop} {n:Nat} {t:List (Nat×AV)} {o:aF} (live out:List Nat) (f:α→List (Nat×AV)) (g:α→aF) (meas:α→Nat) (inv:α→Prop) (x0:α)
 (h0:Le ⟨n,f x0++lX live t,g x0++lY out o⟩ ⟨n,t,o⟩) (hi:Owe (inv x0) .mk)
 (hr: ∀x,inv x→ ∀A,HideA A (fun x=>⟨n,f x++lX live t,g x++lY out o⟩) meas inv x→cN P b (nU A Q) ⟨n,f x++lX live t,g x++lY out o⟩):cN P (.loop b) Q ⟨n,t,o⟩:=by
 refine⟨fun m s=> ∃x,m=meas x∧inv x∧s=⟨n,f x++lX live t,g x++lY out o⟩,⟨meas x0,_,h0,x0,rfl,hi.it,rfl⟩,?_⟩
 rintro m s ⟨x,rfl,hx,rfl⟩
 exact hr x hx _ ⟨fun s y hl hm hi=>⟨meas y,_,hm,hl,y,rfl,hi,rfl⟩⟩
end Go.Ab
namespace Go.Ab
open Go.RowKit
def vO (σ:Nat→Nat) (s:ASt):ASt:= {n:=s.n,t:=s.t.map fun p=>(p.1,p.2.ren σ),o:=jE σ (fun _ b=>b) s.o}
theorem Le.ren {s:ASt} (σ τ:Nat→Nat) (h1: ∀p∈s.o,τ (σ p.1)=p.1) (h2: ∀p∈s.o,p.2.pin=true→σ p.1=p.1):Le (vO σ s) s:=by
 intro C F μ a w hs
 have h:=hs.sw
 have hlk: ∀{M y},lk (jE σ (fun _ b=>b) s.o) M=some y→ ∃x,M=σ (τ M)∧lk s.o (τ M)=some x∧y= {dG σ x with pin:=x.pin}:=fun {M y} hy=>by
  obtain⟨x,g1,g2,g3⟩:=tB (σ:=σ) (τ:=τ) h1 hy
  exact⟨x,g1,g2,g3⟩
 have htau: ∀{L x},lk s.o L=some x→τ (σ L)=L:=fun {L x} hx=>h1 _ (pQ hx)
 have hloc: ∀L,aG s.o μ L≠none→aG (vO σ s).o (fun M=>μ (τ M)) (σ L)=aG s.o μ L:=fun L hL=>
  O1 (σ:=σ) (τ:=τ) (q:=fun _ b=>b) (μ':=fun M=>μ (τ M)) h1 (fun L x hx=>by show μ (τ (σ L))=μ L;rw[htau hx]) hL
 refine⟨F,fun M=>μ (τ M),⟨h.facts,h.sub,h.lentc,h.grow,h.newf,h.fr,fun M y hy=>?_,fun M y M' y' b c c' hy hy' hm hm'=>?_,fun M y b c hy hm hz=>?_,fun M y b c hy hm=>?_,fun M y y0 h0 hy hp=>?_⟩,hs.defers,hs.n,fun i x hx=>?_⟩
 ·obtain⟨x,g1,g2,rfl⟩:=hlk hy
  exact B3 (h.obj _ x g2) fun L hL=>hloc L hL
 ·obtain⟨x,g1,g2,rfl⟩:=hlk hy
  obtain⟨x',g1',g2',rfl⟩:=hlk hy'
  rw[g1,g1',h.dist _ x _ x' b c c' g2 g2' hm hm']
 ·obtain⟨x,g1,g2,rfl⟩:=hlk hy
  exact h.excl _ x b c g2 hm (by simpa[B1]using hz)
 ·obtain⟨x,g1,g2,rfl⟩:=hlk hy
  exact h.mine _ x b c g2 hm
 ·obtain⟨x,g1,g2,rfl⟩:=hlk hy
  have hp:x.pin=true:=hp
  have e:σ (τ M)=τ M:=h2 _ (pQ g2) hp
  have hM:M=τ M:=g1.trans e
  rw[hM]at h0
  have:=h.keep _ x y0 h0 g2 hp
  rw[←hM]at this
  show μ (τ M)=_∧_
  rw[←hM]
  exact⟨this.1,by rw[uY];exact this.2.1,by show(dG _ x).arr=_;rw[B0];exact this.2.2⟩
 ·simp only[vO]at hx
  rw[tA (fun y:AV=>y.ren σ)]at hx
  cases hy:lk s.t i with
  |none=>simp[hy]at hx
  |some y=>
   simp[hy]at hx
   subst hx
   have hv:=hs.slot i y hy
   exact hv.ren fun L hL=>hloc L (hv.has_loc L hL)
def T3 (P:Program) [Glob P] (rs:List ResultVar) (R:AV→aF→Prop):Exit→ASt→Prop
 | .normal,s=> ∃s0 xs,Le s0 s∧gF P s0 rs=some xs∧R (gG xs) s0.o
 | .ret,s=> ∃s0 xs,Le s0 s∧gF P s0 rs=some xs∧R (gG xs) s0.o
 |_,_=>False
theorem cL {P:Program} [Glob P] {f:FuncId} {fn:Func} {c:Code} {args:List AV} {o:aF} {R:AV→aF→Prop} (hf:P.funcs[f]?=some fn) (hc: ∀cargs w,(callFunc f cargs).run P w= .ok (.enter f cargs) w) (hb:fn.body=some c)
 (hn:args.length≤fn.ntmps) (h:cN P c (T3 P fn.results.toList R) (vE fn.ntmps args o)):MCall P f args o R:=by
 refine aNb hf hc hb hn fun C _ F μ a w hm hs=>?_
 refine wpIn_mono (sD c _ _ (.inl rfl) h C F μ a w hm hs) ?_
 rintro e a' w' ⟨F',μ',s',hq,hm',hs'⟩
 cases e with
 |normal=>
  obtain⟨s0,xs,hl,h1,h2⟩:=hq
  obtain⟨F2,μ2,hs2⟩:=hl _ F' μ' a' w' hs'
  exact⟨F2,μ2,s0,⟨xs,h1,h2⟩,hm',hs2⟩
 |ret=>
  obtain⟨s0,xs,hl,h1,h2⟩:=hq
  obtain⟨F2,μ2,hs2⟩:=hl _ F' μ' a' w' hs'
  exact⟨F2,μ2,s0,⟨xs,h1,h2⟩,hm',hs2⟩
 |_=>exact hq.elim
end Go.Ab
namespace Go.Ab
open Go.RowKit
def fO (ps:List (Nat×Nat)) (L:Nat):Nat:=match lk ps L with
 |some M=>M
 |none=>L
theorem bBz {L:Nat}:fO [] L=L:=rfl
theorem bB0 {k v L:Nat} {r:List (Nat×Nat)}:fO ((k,v)::r) L=if k=L then v else fO r L:=by
 unfold fO;simp only[lk];by_cases h:k=L
 ·rw[if_pos h,if_pos h]
 ·rw[if_neg h,if_neg h]
theorem bC {P:Program} [Glob P] {s:ASt} {k:ASt→Prop} {g:FuncId} {as:List AV} {d:Nat} (ps qs:List (Nat×Nat)) (B:Nat) (oc:aF) (ac:List AV) {r0:AV} {o0:aF} (hf:Fits (fO ps) (fO qs) B oc s.o) (hac:AV.labsL (dY oc) ac=true) (has:as=ac.map (AV.ren (fO ps)))
 (hc:MCall P g ac oc (fun r o'=>r=r0∧o'=o0)) (hd:d<s.n) (hrest:qR (fO ps) (fO qs) oc o0 s.o=true) (hk:k (oO (fO ps) (fO qs) B oc s d r0 o0)):cI P (.c g as) (some d) k s:=
 aC8 (fO ps) (fO qs) B oc ac hf hac has hc hd fun r o' h=>by obtain⟨rfl,rfl⟩:=h;exact⟨hrest,hk⟩
theorem bB1 {o:aF}:killOs [] o=o:=rfl
theorem bB2 {T:Nat} {r:List Nat} {o:aF}:killOs (T::r) o=killOs r (killO T o):=rfl
attribute [go_sem] bB1 bB2
def tO (q:Nat→Bool):List (Nat×AV)→List (Nat×AV)
 | []=> []
 |p::r=>(p.1,if p.2.labs q=true then p.2 else .dead)::tO q r
theorem aEg (q:Nat→Bool): ∀t:List (Nat×AV),t.map (fun p=>(p.1,if p.2.labs q=true then p.2 else .dead))=tO q t
 | []=>rfl
 |p::r=>by simp only[List.map_cons,tO,aEg q r]
theorem bB3 {q:Nat→Bool}:tO q []= []:=rfl
theorem bB4 {q:Nat→Bool} {p:Nat×AV} {r:List (Nat×AV)}:tO q (p::r)=(p.1,if p.2.labs q=true then p.2 else .dead)::tO q r:=rfl
def tP (σ:Nat→Nat) (q:Nat→Bool):aF→aF
 | []=> []
 |p::r=>(σ p.1,{dG σ p.2 with pin:=q p.1})::tP σ q r
theorem bB5 {σ:Nat→Nat} {q:Nat→Bool}:tP σ q []= []:=rfl
theorem bB6 {σ:Nat→Nat} {q:Nat→Bool} {p:Nat×AObj} {r:aF}:tP σ q (p::r)=(σ p.1,{dG σ p.2 with pin:=q p.1})::tP σ q r:=rfl
theorem aEh (σ:Nat→Nat) (q:Nat→Bool): ∀o:aF,jE σ (fun L _=>q L) o=tP σ q o
 | []=>rfl
 |p::r=>by simp only[jE,List.map_cons,tP]at*;rw[←aEh σ q r];rfl
theorem bB7 {σ τ:Nat→Nat} {B:Nat} {oc:aF} {s:ASt} {d:Nat} {r:AV} {o':aF}:oO σ τ B oc s d r o'=
 ⟨s.n,(d,r.ren (fN σ B oc o'))::tO (qQ σ τ oc o') s.t,tP (fN σ B oc o') (fun L=>lC oc o' L&&jF s.o (σ L)) o'++jH σ oc s.o⟩:=by
 unfold oO fI
 rw[aEg,aEh]
theorem bB8 {σ:Nat→Nat} {oc:aF}:jH σ oc []= []:=rfl
theorem bB9 {σ:Nat→Nat} {oc:aF} {p:Nat×AObj} {r:aF}:jH σ oc (p::r)=if kF σ oc p.1=true then jH σ oc r else p::jH σ oc r:=by
 unfold jH;rw[List.filter_cons];cases kF σ oc p.1<;>simp
theorem bCa {σ:Nat→Nat} {M:Nat}:kF σ [] M=false:=rfl
theorem bCb {σ:Nat→Nat} {p:Nat×AObj} {oc:aF} {M:Nat}:kF σ (p::oc) M=(decide (σ p.1=M)||kF σ oc M):=by
 unfold kF;rw[List.any_cons];rfl
theorem bCc {L:Nat}:dY [] L=false:=rfl
theorem bCd {p:Nat×AObj} {o:aF} {L:Nat}:dY (p::o) L=(decide (p.1=L)||dY o L):=by
 unfold dY;obtain⟨k,x⟩:=p;simp only[lk];by_cases h:k=L
 ·simp[h]
 ·simp[h]
theorem bCe {L:Nat}:jF [] L=false:=rfl
theorem bCf {p:Nat×AObj} {o:aF} {L:Nat}:jF (p::o) L=if p.1=L then p.2.pin else jF o L:=by
 unfold jF;obtain⟨k,x⟩:=p;simp only[lk];by_cases h:k=L
 ·rw[if_pos h,if_pos h]
 ·rw[if_neg h,if_neg h]
theorem bCg {oc o':aF} {L:Nat}:lC oc o' L=(dY oc L&&jF o' L):=rfl
theorem bCh {σ τ:Nat→Nat} {oc o':aF} {M:Nat}:qQ σ τ oc o' M=(!kF σ oc M||lC oc o' (τ M)):=rfl
theorem bCi {σ:Nat→Nat} {B:Nat} {oc o':aF} {L:Nat}:fN σ B oc o' L=if lC oc o' L=true then σ L else L+B:=rfl
theorem bCj {σ τ:Nat→Nat} {oc o' s:aF}:qR σ τ oc o' s=(jH σ oc s).all fun p=>p.2.arr||AV.labsL (qQ σ τ oc o') p.2.xs:=rfl
theorem bCk {σ:Nat→Nat} {fz pin:Bool} {es kd:Nat} {xs:List AV}:dG σ ⟨true,fz,pin,es,xs,kd⟩=⟨true,fz,pin,es,xs,kd⟩:=rfl
theorem bCl {σ:Nat→Nat} {fz pin:Bool} {es kd:Nat} {xs:List AV}:dG σ ⟨false,fz,pin,es,xs,kd⟩=⟨false,fz,pin,es,xs.map (AV.ren σ),kd⟩:=rfl
theorem bCm {σ:Nat→Nat} {x y:AObj}:O3 σ x (some y)=(y.kd=x.kd∧y.arr=x.arr∧y.fz=x.fz∧y.es=x.es∧y.xs=(dG σ x).xs):=rfl
theorem bCn {B:Nat}:mR B []=true:=rfl
theorem bCo {B:Nat} {p:Nat×AObj} {o:aF}:mR B (p::o)=(decide (p.1<B)&&mR B o):=rfl
attribute [go_sem] bBz bB0 bB3 bB4 bB5 bB6 bB7 bB8 bB9 bCa bCb bCc bCd bCe bCf bCg bCh bCi bCj bCk bCl bCm bCn bCo
 AV.ren AV.renL AV.labs AV.labsL List.all_cons List.all_nil List.forall_mem_cons
def G1 (q:Option (List AV)) (z y:Option St):Option St:=match q with
 |some []=>z
 |_=>y
def T4 (a:Option (TypeId×Nat×Nat)) (b:Bool) (d:Nat) (s:ASt):Option St:=match a,b with
 |some _,true=>some ⟨decide (d<s.n),s.put d (.sc (.slice none 0 0))⟩
 |_,_=>none
theorem bCp {P:Program} [Glob P] {st xt:TypeId} {b:AV} {d:Nat} {s:ASt}:pH P st xt (.sc (.slice none 0 0)) b d s=G1 (iG s.o b) (T4 (bV P st) (fQ P xt) d s) (qN P st xt (.list false true []) b d s):=by
 unfold pH G1 T4
 cases iG s.o b with
 |none=>rfl
 |some l=>cases l<;>rfl
theorem bCq {z y:Option St}:G1 (some []) z y=z:=rfl
theorem bCr {a:AV} {l:List AV} {z y:Option St}:G1 (some (a::l)) z y=y:=rfl
theorem bCs {q:TypeId×Nat×Nat} {d:Nat} {s:ASt}:T4 (some q) true d s=some ⟨decide (d<s.n),s.put d (.sc (.slice none 0 0))⟩:=rfl
attribute [go_sem] bCp bCq bCr bCs
def G2 (n L:Nat) (x:Option AObj):Option Sv:=match x with
 |some x=>if x.arr=true then some ⟨decide (n≠0),.ptr L 0 0⟩else none
 |none=>none
def vP (z:Option Sv) (o:aF):Option AV→Option Sv
 |some (.ref L 0 n)=>G2 n L (lk o L)
 |_=>z
theorem bCt {z:Option Sv} {o:aF} {L n:Nat}:vP z o (some (.ref L 0 n))=G2 n L (lk o L):=rfl
theorem aEi {z:Option Sv} {o:aF} {v:Value}:vP z o (some (.sc v))=z:=rfl
theorem bCu {n L:Nat} {fz pin:Bool} {es kd:Nat} {xs:List AV}:G2 n L (some ⟨true,fz,pin,es,xs,kd⟩)=some ⟨decide (n≠0),.ptr L 0 0⟩:=rfl
theorem aEj {P:Program} [Glob P] {d:Nat} {x:Operand} {ts:Array TypeId} {ty:TypeId} {pos:String} {af g} {s:ASt}:bF P ⟨some d,.call ⟨.builtin .unsafeSliceData,#[x],ts⟩,ty,pos,af,g⟩ s=
 dE (vP (dR P ⟨some d,.call ⟨.builtin .unsafeSliceData,#[x],ts⟩,ty,pos,af,g⟩ (bX P s.t)) s.o (bX P s.t x)):=by
 have e:bF P ⟨some d,.call ⟨.builtin .unsafeSliceData,#[x],ts⟩,ty,pos,af,g⟩ s=dE (match bX P s.t x with
  |some (.ref L lo n)=>sZ L lo n s.o
  |_=>dR P ⟨some d,.call ⟨.builtin .unsafeSliceData,#[x],ts⟩,ty,pos,af,g⟩ (bX P s.t)):=rfl
 rw[e]
 cases hx:bX P s.t x with
 |none=>rfl
 |some a=>
  cases a with
  |ref L lo n=>
   cases lo with
   |zero=>
    simp only[vP,G2,sZ]
    cases lk s.o L with
    |none=>rfl
    |some x=>simp
   |succ lo=>
    have:sZ L (lo+1) n s.o=none:=by
     unfold sZ
     cases lk s.o L with
     |none=>rfl
     |some x=>simp
    simp only[vP,this]
    unfold dR
    rw[if_neg]
    rintro⟨_,h⟩
    have:=h x (by simp[Op.operands,Call.operands])
    rw[hx]at this
    simp[eQ,jZ]at this
  |_=>rfl
attribute [go_sem] aEj bCt aEi bCu
theorem aEk: ∀l:List UInt8,bytesOf (l.map eC)=some l
 | []=>rfl
 |c::l=>by
  have h:=c.toNat_lt
  simp only[List.map_cons,eC,bytesOf,aEk l]
  rw[if_pos (by constructor<;>omega)]
  simp
theorem bCv {P:Program} [Glob P] {pt:TypeId} {L d:Nat} {s:ASt} {l:List UInt8} {pin:Bool} {kd:Nat}:xT P pt L d (l.length:Int) s (some ⟨true,false,pin,1,l.map eC,kd⟩)=
 if C9 P pt kd=true then some ⟨decide (d<s.n∧l≠ []),(s.renew0 L L (cR 1 [])).put d (.sc (.string ⟨l.toArray⟩))⟩else none:=by
 simp only[xT,aEk]
 simp
attribute [go_sem] bCv
theorem bCw {n:Nat} {t:List (Nat×AV)} {o:aF} {L T:Nat} {x:AObj}:ASt.renew0 ⟨n,t,o⟩ L T x=⟨n,fV L (fV T t),(T,x)::killO L (killO T (fF o L))⟩:=rfl
attribute [go_sem] bCw
theorem bCx {P:Program} [Glob P] {t:TypeId}:nJ P t (.sc (.slice none 0 0))=tJ (bV P t) 0:=rfl
attribute [go_sem] bCx
theorem bCy:dC=140737488355328:=rfl
attribute [go_sem] bCy
theorem bCz {n:Nat} {as:List AV} {o:aF}:vE n as o=⟨n,(as.zipIdx 0).map fun p=>(p.2,p.1),o⟩:=rfl
theorem Fits.mk' {σ τ:Nat→Nat} {B:Nat} {oc s:aF} (h1:mR B s=true) (h2: ∀p∈oc,τ (σ p.1)=p.1∧p.2.pin=true∧O3 σ p.2 (lk s (σ p.1))∧(p.2.arr||AV.labsL (dY oc) p.2.xs)=true):Fits σ τ B oc s:=⟨h1,h2⟩
theorem cS {P:Program} [Glob P] {rs:List ResultVar} {R:AV→aF→Prop} {s:ASt} (s0:ASt) (xs:List AV) (hl:Le s0 s) (h1:gF P s0 rs=some xs) (h2:R (gG xs) s0.o):T3 P rs R .ret s:=⟨s0,xs,hl,h1,h2⟩
theorem eR {P:Program} [Glob P] {rs:List ResultVar} {R:AV→aF→Prop} {s:ASt} (s0:ASt) (xs:List AV) (hl:Le s0 s) (h1:gF P s0 rs=some xs) (h2:R (gG xs) s0.o):T3 P rs R .normal s:=⟨s0,xs,hl,h1,h2⟩
theorem Le.renSub {s0 s:ASt} (ps qs:List (Nat×Nat)) (h1: ∀p∈s.o,fO qs (fO ps p.1)=p.1) (h2: ∀p∈s.o,p.2.pin=true→fO ps p.1=p.1) (hl:Le s0 (vO (fO ps) s)):Le s0 s:=hl.trans (Le.ren _ _ h1 h2)
def tQ (σ:Nat→Nat):List (Nat×AV)→List (Nat×AV)
 | []=> []
 |p::r=>(p.1,p.2.ren σ)::tQ σ r
theorem bC0 {σ:Nat→Nat}:tQ σ []= []:=rfl
theorem bC1 {σ:Nat→Nat} {p:Nat×AV} {r:List (Nat×AV)}:tQ σ (p::r)=(p.1,p.2.ren σ)::tQ σ r:=rfl
def tT (σ:Nat→Nat):aF→aF
 | []=> []
 |p::r=>(σ p.1,{dG σ p.2 with pin:=p.2.pin})::tT σ r
theorem bC2 {σ:Nat→Nat}:tT σ []= []:=rfl
theorem bC3 {σ:Nat→Nat} {p:Nat×AObj} {r:aF}:tT σ (p::r)=(σ p.1,{dG σ p.2 with pin:=p.2.pin})::tT σ r:=rfl
theorem bC4 {σ:Nat→Nat} {n:Nat} {t:List (Nat×AV)} {o:aF}:vO σ ⟨n,t,o⟩=⟨n,tQ σ t,tT σ o⟩:=by
 have h1: ∀t:List (Nat×AV),t.map (fun p=>(p.1,p.2.ren σ))=tQ σ t:=fun t=>by
  induction t with
  |nil=>rfl
  |cons p r ih=>simp only[List.map_cons,tQ,ih]
 have h2: ∀o:aF,jE σ (fun _ b=>b) o=tT σ o:=fun o=>by
  induction o with
  |nil=>rfl
  |cons p r ih=>simp only[jE,List.map_cons,tT]at*;rw[ih]
 simp only[vO,h1,h2]
attribute [go_sem] bC0 bC1 bC2 bC3 bC4 bCz
theorem zHg {P:Program} [Glob P] {Q:Exit→ASt→Prop} {K:ASt→Prop} {c:Code} {s:ASt} (k:cN P c Q s) (h:Hide K (cN P c Q):=by assumption):K s:=Hide.go h k
theorem zAo {a b:Prop} (hb:b) (ha:a:=by omega):a∧b:=⟨ha,hb⟩
theorem zDr {P:Program} [Glob P] {id:Nat} {ops:Array Oper} {Q:Exit→ASt→Prop} {s:ASt} (m:Nat) (hm:P.follows .mixedOrders=true) (h:lE P ops m ops.toList (Q .normal) s) (hok:lF ops m=true:=by decide+kernel):cN P (.region id ops true) Q s:=aC9 m hm hok h
theorem zT:(∀i:Decidable True,@decide True i=true)∧(∀i:Decidable False,@decide False i=false)∧((¬False)=True):=⟨fun _=>by simp,fun _=>by simp,by simp⟩
end Go.Ab
