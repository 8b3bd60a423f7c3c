import Derived.Test.YtbgckcdddlmiaaaDoorA3
import Derived.ProofKit
import Derived.OpenShut
import Derived.ReadAgain
import Derived.ChangeStays
import Derived.ChangeSame
import Derived.SizedLaws
import Derived.ChangeReads
set_option linter.unusedSimpArgs false
set_option linter.unusedVariables false
set_option linter.unusedSectionVars false
namespace Go.Ab
open Go.RowKit
section
variable {P : Program} [Glob P] {Q : Exit → ASt → Prop} {s : ASt} {k : ASt → Prop}
theorem aIz:bY P .skip Q s=Q .normal s:=rfl
theorem aI0 {id:Nat} {ops:Array Oper}:bY P (.region id ops false) Q s=lF P ops ops.toList (Q .normal) s:=by simp[bY]
def pB (P:Program) [Glob P] (v:Option AV) (x y:Code) (Q:Exit→ASt→Prop) (s:ASt):Prop:=
 match v with
 |some (.sc (.bool b))=>(b=true→bY P x Q s)∧(b=false→bY P y Q s)
 |_=>False
theorem aI1 {c:Operand} {x y:Code}:bY P (.cond c x y) Q s=pB P (ev s.t c) x y Q s:=rfl
theorem aI2 {id:Nat} {b:Code}:bY P (.block id b) Q s=bY P b (qF id Q) s:=rfl
theorem aI3 {id:Nat}:bY P (.exit id) Q s=Q (.exit id) s:=rfl
theorem aI4:bY P .ret Q s=Q .ret s:=rfl
theorem aI5 {K:ASt→Prop}:mG K Q .normal s=K s:=rfl
theorem aI6 {K:ASt→Prop}:mG K Q .ret s=Q .ret s:=rfl
theorem aI7 {K:ASt→Prop} {id:Nat}:mG K Q (.exit id) s=Q (.exit id) s:=rfl
theorem aI8 {id:Nat}:qF id Q .normal s=Q .normal s:=rfl
theorem aI9 {id:Nat}:qF id Q .ret s=Q .ret s:=rfl
theorem aJa {id id':Nat}:qF id Q (.exit id') s=if id'=id then Q .normal s else Q (.exit id') s:=rfl
theorem aJb {x y:Code}:pB P (some (.sc (.bool true))) x y Q s=bY P x Q s:=by simp[pB]
theorem aJc {x y:Code}:pB P (some (.sc (.bool false))) x y Q s=bY P y Q s:=by simp[pB]
theorem aJd {p:Prop} [Decidable p] {x y:Code} (h1:p→bY P x Q s) (h2: ¬p→bY P y Q s):pB P (some (.sc (.bool (decide p)))) x y Q s:=
 ⟨fun h=>h1 (of_decide_eq_true h),fun h=>h2 (of_decide_eq_false h)⟩
theorem aJe {p:Prop} [Decidable p] {x y:Code} (h1: ¬p→bY P x Q s) (h2:p→bY P y Q s):pB P (some (.sc (.bool (!decide p)))) x y Q s:=
 ⟨fun h=>h1 (by simpa using h),fun h=>h2 (by simpa using h)⟩
def yD (P:Program) [Glob P] (rs:List ResultVar) (fs:List Nat) (R:AV→Prop) (s:ASt):Prop:=match nQ P rs fs s with
 |some r=>R r
 |none=>False
theorem aU {rs:List ResultVar} {R:AV→Prop} (fs:List Nat) (h:yD P rs fs R s):Z7 P rs R .ret s:=by
 unfold yD at h
 split at h
 ·rename_i r hr;exact⟨fs,r,hr,h⟩
 ·exact h.elim
theorem aJf {ops:Array Oper}:lF P ops [] k s=k s:=rfl
theorem aJg {ops:Array Oper} {o:Oper} {r:List Oper}:lF P ops (o::r) k s=gK P (eU ops o.guard s) o (lF P ops r k) s:=rfl
theorem aJh {ops:Array Oper}:eU ops none s= .run:=rfl
theorem aJi {o:Oper}:gK P .skip o k s=qA o.dst k s:=rfl
theorem aJj {o:Oper}:eG P .skip o k s=qB o.dst k s:=rfl
theorem aJk {d:Nat}:xV (some d) k s=(d<s.n∧k (s.put d .dead)):=rfl
theorem aJl {o:Oper}:gK P .run o k s=bO P o k s:=rfl
theorem aJm {o:Oper}:gK P (.test true true) o k s=bO P o k s:=by simp[gK]
theorem aJn {o:Oper}:gK P (.test false false) o k s=bO P o k s:=by simp[gK]
theorem aJo {o:Oper}:gK P (.test true false) o k s=qA o.dst k s:=by simp[gK]
theorem aJp {o:Oper}:gK P (.test false true) o k s=qA o.dst k s:=by simp[gK]
theorem aAc {b want:Bool} {o:Oper} (h1:b=true→gK P (.test true want) o k s) (h2:b=false→gK P (.test false want) o k s):gK P (.test b want) o k s:=by
 cases b
 ·exact h2 rfl
 ·exact h1 rfl
theorem aJq {p:Prop} [Decidable p] {want:Bool} {o:Oper} (h1:p→gK P (.test true want) o k s) (h2: ¬p→gK P (.test false want) o k s):gK P (.test (decide p) want) o k s:=
 aAc (fun h=>h1 (of_decide_eq_true h)) (fun h=>h2 (of_decide_eq_false h))
theorem aJr {p:Prop} [Decidable p] {want:Bool} {o:Oper} (h1: ¬p→gK P (.test true want) o k s) (h2:p→gK P (.test false want) o k s):gK P (.test (!decide p) want) o k s:=
 aAc (fun h=>h1 (by simpa using h)) (fun h=>h2 (by simpa using h))
theorem aJs {d:Nat}:qA (some d) k s=(d<s.n∧k (s.put d (.tup []))):=rfl
theorem aJt {n:Bool} {a:AV} {d:Nat}:bU P (.v ⟨n,a⟩) (some d) k s=(n∧d<s.n∧k (s.put d a)):=rfl
theorem aJu {n:Bool} {s':ASt} {d:Option Nat}:bU P (.h ⟨n,s'⟩) d k s=(n∧k s'):=by cases d<;>rfl
theorem aJv {d:Option Nat}:bU P .no d k s=False:=by cases d<;>rfl
theorem aJw {g:FuncId} {as bs:List AV} {d:Nat} {R:AV→Prop} (fs:List Nat) (s1:ASt) (hf:jL fs s=some s1) (hl:gX s1.o as=some bs) (hc:ACall P g bs R) (hd:d<s.n) (hk: ∀r,R r→k (lY s1 d r)):
 bU P (.c g as) (some d) k s:=⟨hd,.inl ⟨fs,s1,bs,R,hf,hl,hc,hk⟩⟩
theorem aAd {g:FuncId} {as:List AV} {d:Nat} (σ τ:Nat→Nat) (B:Nat) (oc:aF) (ac:List AV) {R:AV→aF→Prop} (hf:Fits σ τ B oc s.o) (hac:AV.labsL (dG oc) ac=true) (has:as=ac.map (AV.ren σ)) (hc:MCall P g ac oc R) (hd:d<s.n)
 (hk: ∀r o',R r o'→nM σ τ oc o' s.o=true∧k (mD σ τ B oc s d r o')):bU P (.c g as) (some d) k s:=⟨hd,.inr (.inr (.inr ⟨[],σ,τ,B,oc,ac,R,hf,hac,has,hc,hk⟩))⟩
theorem aV {g:FuncId} {as bs:List AV} {d:Nat} {r:AV} (hl:gX s.o as=some bs) (hc:ACall P g bs (fun x=>x=r)) (hd:d<s.n) (hk:k (lY s d r)):
 bU P (.c g as) (some d) k s:=aJw [] s rfl hl hc hd fun _ h=>h▸hk
theorem aAe {id:Nat} {ops:Array Oper} (m:Nat) (hm:P.follows .mixedOrders=true) (hok:jN ops m=true) (h:jM P ops m ops.toList (Q .normal) s):bY P (.region id ops true) Q s:=⟨s,Le.refl s,hm,.inl ⟨m,hok,h⟩⟩
theorem qG {id:Nat} {ops:Array Oper} {s0:ASt} (hl:Le s0 s) (h:bY P (.region id ops true) Q s0):bY P (.region id ops true) Q s:=by
 obtain⟨s1,h1,h2⟩:=h
 exact⟨s1,h1.trans hl,h2⟩
theorem aJx {ops:Array Oper} {l:List Oper}:jM P ops 0 l k s=mX P ((ops.toList.take (ops.size - l.length)).filter eI) (lF P ops l k) s:=rfl
theorem aJy:mX P [] k s=k s:=rfl
theorem aJz {d:Option Nat} {op:Op} {ty:TypeId} {pos af g}:eI ⟨d,op,ty,pos,af,g⟩=match op,d,g with
 | .alloc _,some _,none=>true
 |_,_,_=>false:=rfl
theorem aJ0 {t:TypeId} {d:Nat} {ty:TypeId} {pos af g} {r:List Oper}:mX P (⟨some d,.alloc t,ty,pos,af,g⟩::r) k s=match aQ P t with
 |some z=>z.plain=true∧d<s.n∧mX P r k ((s.adopt d (fZ z)).put d (.ptr d 0 0))
 |none=>False:=rfl
theorem aJ1 {ops:Array Oper} {m:Nat} {o:Oper} {r:List Oper}:jM P ops (m+1) (o::r) k s=eG P (eU ops o.guard s) o (jM P ops m r k) s:=rfl
theorem aJ2 {o:Oper}:eG P .run o k s=qC P o k s:=rfl
theorem aJ3 {o:Oper}:eG P (.test true true) o k s=qC P o k s:=by simp[eG]
theorem aJ4 {o:Oper}:eG P (.test false false) o k s=qC P o k s:=by simp[eG]
theorem aJ5 {o:Oper}:eG P (.test true false) o k s=qB o.dst k s:=by simp[eG]
theorem aJ6 {o:Oper}:eG P (.test false true) o k s=qB o.dst k s:=by simp[eG]
theorem aAf {b want:Bool} {o:Oper} (h1:b=true→eG P (.test true want) o k s) (h2:b=false→eG P (.test false want) o k s):eG P (.test b want) o k s:=by
 cases b
 ·exact h2 rfl
 ·exact h1 rfl
theorem aJ7 {p:Prop} [Decidable p] {want:Bool} {o:Oper} (h1:p→eG P (.test true want) o k s) (h2: ¬p→eG P (.test false want) o k s):eG P (.test (decide p) want) o k s:=
 aAf (fun h=>h1 (of_decide_eq_true h)) (fun h=>h2 (of_decide_eq_false h))
theorem aJ8 {p:Prop} [Decidable p] {want:Bool} {o:Oper} (h1: ¬p→eG P (.test true want) o k s) (h2:p→eG P (.test false want) o k s):eG P (.test (!decide p) want) o k s:=
 aAf (fun h=>h1 (by simpa using h)) (fun h=>h2 (by simpa using h))
theorem aJ9 {d:Nat}:qB (some d) k s=(d<s.n∧k (s.put d (.tup []))):=rfl
theorem aKa {o:Oper}:qC P o k s=match eI o with
 |true=>xV o.dst k s
 |false=>sM P (aW P o s) o.dst k s:=rfl
theorem aKb {n:Bool} {a:AV} {d:Nat}:sM P (.v ⟨n,a⟩) (some d) k s=(n∧d<s.n∧k (s.put d a)):=rfl
theorem aKc {d:Option Nat}:sM P .no d k s=False:=by cases d<;>rfl
theorem cU {g:FuncId} {as bs:List AV} {d:Nat} {r:AV} (hl:gX s.o as=some bs) (hc:ACall P g bs (fun x=>x=r)) (hf:vB r=true) (hd:d<s.n) (hk:k (s.put d r)):
 sM P (.c g as) (some d) k s:=⟨hd,bs,r,hl,hc,hf,hk⟩
theorem aKd {n:Nat} {t:List (Nat×AV)} {o:aF} {d:Nat} {a:AV}:ASt.put ⟨n,t,o⟩ d a=⟨n,(d,a)::t,o⟩:=rfl
theorem aKe {n:Nat} {t:List (Nat×AV)} {o:aF} {d:Nat} {x:AObj} {r:AV}:ASt.fresh ⟨n,t,o⟩ d x r=⟨n,(d,r)::eS d t,(d,x)::killO d o⟩:=rfl
theorem aKf {n:Nat} {t:List (Nat×AV)} {o:aF} {L T d:Nat} {x:AObj} {r:AV}:ASt.renew ⟨n,t,o⟩ L T d x r=⟨n,(d,r)::eS L (eS T t),(T,x)::killO L (killO T (eF o L))⟩:=rfl
theorem aKg {n:Nat} {t:List (Nat×AV)} {o:aF} {T:Nat} {x:AObj}:ASt.adopt ⟨n,t,o⟩ T x=⟨n,eS T (eS T t),(T,x)::killO T (killO T (eF o T))⟩:=rfl
theorem aKh {α:Type} {i:Nat}:lk ([]:List (Nat×α)) i=none:=rfl
theorem aKi {α:Type} {k i:Nat} {a:α} {r:List (Nat×α)}:lk ((k,a)::r) i=if k=i then some a else lk r i:=rfl
theorem aKj {L:Nat}:eS L []= []:=rfl
theorem aKk {L i:Nat} {a:AV} {r:List (Nat×AV)}:eS L ((i,a)::r)=(i,kill1 L a)::eS L r:=rfl
theorem aKl {L:Nat}:killO L []= []:=rfl
theorem aKm {L i:Nat} {x:AObj} {r:aF}:killO L ((i,x)::r)=(i,cW L x)::killO L r:=rfl
theorem aKn {kd:Nat} {L es:Nat} {fz pin:Bool} {xs:List AV}:cW L ⟨true,fz,pin,es,xs,kd⟩=⟨true,fz,pin,es,xs,kd⟩:=rfl
theorem aKo {kd:Nat} {L es:Nat} {fz pin:Bool} {xs:List AV}:cW L ⟨false,fz,pin,es,xs,kd⟩=⟨false,fz,pin,es,xs.map (kill1 L),kd⟩:=rfl
theorem aKp {L:Nat}:eF [] L= []:=rfl
theorem aKq {L i:Nat} {x:AObj} {r:aF}:eF ((i,x)::r) L=if i=L then eF r L else(i,x)::eF r L:=by
 simp only[eF,List.filter_cons]
 by_cases h:i=L<;>simp[h]
theorem aAg {L:Nat} {v:Value}:kl L (.sc v)= .sc v:=by simp[kl,AV.has]
theorem aAh {L:Nat} {l f:Bool} {xs:List AV}:kl L (.list l f xs)= .list l f xs:=by simp[kl,AV.has]
theorem aAi {L i o:Nat} {l:Bool} {xs:List AV}:kl L (.iptr l xs i o)= .iptr l xs i o:=by simp[kl,AV.has]
theorem aAj {L L' a b:Nat}:kl L (.ref L' a b)=if L=L' then .dead else .ref L' a b:=by simp[kl,AV.has]
theorem aAk {L L' a b:Nat}:kl L (.ptr L' a b)=if L=L' then .dead else .ptr L' a b:=by simp[kl,AV.has]
theorem aAl {L L' a b c d:Nat}:kl L (.aref L' a b c d)=if L=L' then .dead else .aref L' a b c d:=by simp[kl,AV.has]
theorem aAm {L L':Nat}:kl L (.mp L')=if L=L' then .dead else .mp L':=by simp[kl,AV.has]
theorem aKr {L L':Nat}:kill1 L (.mp L')=if L=L' then .dead else .mp L':=aAm
theorem aAn {L:Nat}:kl L .dead= .dead:=by simp[kl]
theorem aAo {L:Nat} {g:FuncId} {cs:List AV}:kl L (.clo g cs)=if AV.hasL L cs=true then .dead else .clo g cs:=rfl
theorem aAp {L:Nat} {cs:List AV}:kl L (.tup cs)=if AV.hasL L cs=true then .dead else .tup cs:=rfl
theorem aAq {L:Nat} {v:Value}:kill1 L (.sc v)= .sc v:=aAg
theorem aAr {L:Nat} {l f:Bool} {xs:List AV}:kill1 L (.list l f xs)= .list l f xs:=aAh
theorem aKs {L i o:Nat} {l:Bool} {xs:List AV}:kill1 L (.iptr l xs i o)= .iptr l xs i o:=aAi
theorem aAs {L L' a b:Nat}:kill1 L (.ref L' a b)=if L=L' then .dead else .ref L' a b:=aAj
theorem aAt {L L' a b:Nat}:kill1 L (.ptr L' a b)=if L=L' then .dead else .ptr L' a b:=aAk
theorem aKt {L L' a b c d:Nat}:kill1 L (.aref L' a b c d)=if L=L' then .dead else .aref L' a b c d:=aAl
theorem aAu {L:Nat}:kill1 L .dead= .dead:=aAn
theorem aKu {L:Nat} {g:FuncId} {cs:List AV}:kill1 L (.clo g cs)=if AV.hasL L cs=true then .dead else .clo g cs:=aAo
theorem aKv {L:Nat} {cs:List AV}:kill1 L (.tup cs)=if AV.hasL L cs=true then .dead else .tup cs:=aAp
theorem aKw {L:Nat} {cs:List AV}:kill1 L (.agg cs)= .agg (cs.map (kl L)):=rfl
theorem aKx {t:List (Nat×AV)} {i:Nat}:ev t (.tmp i)=lk t i:=rfl
theorem aKy {t:List (Nat×AV)} {v:Value}:ev t (.const v)=gL v:=rfl
theorem aKz {t:List (Nat×AV)} {f:FuncId}:ev t (.func f)=some (.clo f []):=rfl
theorem aK0 {P:Program} [Glob P] {t:List (Nat×AV)} {i:Nat}:bW P t (.tmp i)=lk t i:=rfl
theorem aK1 {P:Program} [Glob P] {t:List (Nat×AV)} {v:Value}:bW P t (.const v)=gL v:=rfl
theorem aK2 {P:Program} [Glob P] {t:List (Nat×AV)} {f:FuncId}:bW P t (.func f)=some (.clo f []):=rfl
theorem aK3 {P:Program} [Glob P] {t:List (Nat×AV)} {g:Nat}:bW P t (.global g)=Glob.tab P g:=rfl
theorem aK4 {k:IntKind} {n:Int}:gL (.int k n)=some (nt k n):=rfl
theorem aK5 {b:Bool}:gL (.bool b)=some (bl b):=rfl
theorem aK6 {b:ByteArray}:gL (.string b)=some (.sc (.string b)):=rfl
theorem aK7:gL (.slice none 0 0)=some (.list false true []):=rfl
theorem aK8:gL (.pointer none)=some (.sc (.pointer none)):=rfl
theorem aK9:gL (.map none)=some (.sc (.map none)):=rfl
theorem aLa:gL .nilFunc=some (.sc .nilFunc):=rfl
theorem aLb:gL .nilIface=some (.sc .nilIface):=rfl
theorem aLc {k:IntKind} {n:Int}:nt k n= .sc (.int k n):=rfl
theorem aLd {b:Bool}:bl b= .sc (.bool b):=rfl
theorem aLe {r:Sv}:dC (some r)= .v r:=rfl
theorem aLf:dC none= .no:=rfl
theorem aLg {r:St}:gB (some r)= .h r:=rfl
theorem aLh:gB none= .no:=rfl
section ops
variable {d : Nat} {ty : TypeId} {pos : String} {af : Array Edge} {g : Option (Nat × Bool)}
theorem aLi {x:Operand}:aW P ⟨some d,.move x,ty,pos,af,g⟩ s=dC ((bW P s.t x).map fun a=>⟨true,a⟩):=rfl
theorem aLj {x:Operand}:aW P ⟨some d,.assign x,ty,pos,af,g⟩ s=dC ((bW P s.t x).map fun a=>⟨true,a⟩):=rfl
theorem aLk {c a b:Operand}:aW P ⟨some d,.pick c a b,ty,pos,af,g⟩ s=dC (match bW P s.t c with
 |some (.sc (.bool c))=>(if c=true then bW P s.t a else bW P s.t b).map fun a=>⟨true,a⟩
 |_=>none):=rfl
theorem aLl {t:TypeId} {a:Operand}:aW P ⟨some d,.load t a,ty,pos,af,g⟩ s=dC (match bW P s.t a with
 |some p=>kZ P t p s.o
 |none=>none):=rfl
theorem aLm {op:BinOp} {t yt:TypeId} {x y:Operand}:aW P ⟨some d,.binOp op t x y yt,ty,pos,af,g⟩ s=dC (match bW P s.t x,bW P s.t y with
 |some a,some b=>match kY P op t a b with
  |some r=>some r
  |none=>match gT P op t a y with
   |some r=>some r
   |none=>match cO P op t a b with
    |some r=>some r
    |none=>eE P ⟨some d,.binOp op t x y yt,ty,pos,af,g⟩ (bW P s.t)
 |_,_=>none):=rfl
theorem aLn {op:BinOp} {t:TypeId} {a:AV} {i:Nat}:gT P op t a (.tmp i)=none:=by simp[gT,lB]
theorem aLo {op:BinOp} {t:TypeId} {a:AV} {k:IntKind} {n:Int}:gT P op t a (.const (.int k n))=none:=by simp[gT,lB]
theorem aLp {op:BinOp} {t:TypeId} {a:AV} {b:Bool}:gT P op t a (.const (.bool b))=none:=by simp[gT,lB]
theorem aLq {op:BinOp} {t:TypeId} {a:AV} {b:ByteArray}:gT P op t a (.const (.string b))=none:=by simp[gT,lB]
theorem aLr {op:BinOp} {t:TypeId} {a:AV} {b:Array Value}:gT P op t a (.const (.agg b))=none:=by simp[gT,lB]
attribute [go_sem] aLn aLo aLp aLq aLr
theorem aLs {op:UnOp} {t:TypeId} {x:Operand}:aW P ⟨some d,.unOp op t x,ty,pos,af,g⟩ s=dC (match bW P s.t x with
 |some a=>tV op a
 |none=>none):=rfl
theorem aLt {t u:TypeId} {x:Operand}:aW P ⟨some d,.convert t u x,ty,pos,af,g⟩ s=dC (match bW P s.t x with
 |some a=>if(P.underlying t).isSome=true then match pS P u a with
  |some r=>some r
  |none=>eE P ⟨some d,.convert t u x,ty,pos,af,g⟩ (bW P s.t)else none
 |none=>none):=rfl
theorem aLu {t:TypeId} {x:Operand} {f:Nat}:aW P ⟨some d,.fieldAddr t x f,ty,pos,af,g⟩ s=dC (match bW P s.t x with
 |some p=>qR P t f p
 |none=>none):=rfl
theorem aLv {t:TypeId} {x:Operand} {f:Nat}:aW P ⟨some d,.field t x f,ty,pos,af,g⟩ s=dC (match bW P s.t x with
 |some p=>tT P t p f
 |none=>none):=rfl
theorem aLw {t:TypeId} {x i:Operand}:aW P ⟨some d,.indexAddr t x i,ty,pos,af,g⟩ s=dC (match bW P s.t x,bW P s.t i with
 |some a,some b=>mS P t a b s.o
 |_,_=>none):=rfl
theorem aLx {t:TypeId} {x i:Operand}:aW P ⟨some d,.index t x i,ty,pos,af,g⟩ s=dC (match bW P s.t x,bW P s.t i with
 |some a,some b=>sE P t a b
 |_,_=>none):=rfl
theorem aLy {t:TypeId} {x:Operand} {lo hi:Option Operand}:aW P ⟨some d,.slice t x lo hi none,ty,pos,af,g⟩ s=dC (match bW P s.t x,lo.map (bW P s.t),hi.map (bW P s.t)with
 |some _,some none,_=>none
 |some _,_,some none=>none
 |some a,l,h=>gM P t a (l.bind id) (h.bind id) s.o
 |none,_,_=>none):=rfl
theorem aLz {x:Operand} {i:Nat}:aW P ⟨some d,.extract x i,ty,pos,af,g⟩ s=dC (match bW P s.t x with
 |some (.tup vs)=>(vs[i]?).map fun a=>⟨true,a⟩
 |_=>none):=rfl
theorem aL0 {t:TypeId} {parts:Array (Nat×Operand)}:aW P ⟨some d,.build t parts,ty,pos,af,g⟩ s=dC (tU P t (lV (bW P s.t) parts.toList)):=rfl
theorem aL1 {f:FuncId} {first caps:Array Operand}:aW P ⟨some d,.makeFunc (.func f) first caps,ty,pos,af,g⟩ s=dC (if first.size=0 then(lA (bW P s.t) caps.toList).map fun cs=>⟨true,.clo f cs⟩else none):=rfl
theorem aL2 {x:Operand}:aW P ⟨some d,.nilCheck x,ty,pos,af,g⟩ s=dC (match bW P s.t x with
 |some (.ptr L i o)=>some ⟨true,.ptr L i o⟩
 |some (.iptr l xs i o)=>some ⟨true,.iptr l xs i o⟩
 |_=>none):=rfl
theorem aL3 {xs:Array Operand} {ts:Array TypeId}:aW P ⟨some d,.call ⟨.builtin .len,xs,ts⟩,ty,pos,af,g⟩ s=dC (match xs.toList,ts.toList with
 | [x],[t]=>match bW P s.t x with
  |some a=>lU P t a
  |none=>none
 |_,_=>none):=rfl
theorem aL4 {xs:Array Operand} {ts:Array TypeId}:aW P ⟨some d,.call ⟨.builtin .cap,xs,ts⟩,ty,pos,af,g⟩ s=dC (match xs.toList,ts.toList with
 | [x],[t]=>match bW P s.t x with
  |some a=>tQ P t a
  |none=>none
 |_,_=>none):=rfl
theorem aL5 {xs:Array Operand} {ts:Array TypeId}:aW P ⟨some d,.call ⟨.builtin .min,xs,ts⟩,ty,pos,af,g⟩ s=dC (eE P ⟨some d,.call ⟨.builtin .min,xs,ts⟩,ty,pos,af,g⟩ (bW P s.t)):=rfl
theorem aL6 {xs:Array Operand} {ts:Array TypeId}:aW P ⟨some d,.call ⟨.builtin .max,xs,ts⟩,ty,pos,af,g⟩ s=dC (eE P ⟨some d,.call ⟨.builtin .max,xs,ts⟩,ty,pos,af,g⟩ (bW P s.t)):=rfl
theorem aL7 {t:TypeId}:aW P ⟨some d,.alloc t,ty,pos,af,g⟩ s=gB (uB P t d s):=rfl
theorem aL8 {t:TypeId} {x:Operand}:aW P ⟨some d,.box t x,ty,pos,af,g⟩ s=(match ev s.t x with
 |some a=>gB (uC a d s)
 |none=> .no):=rfl
theorem aL9 {t:TypeId} {p x:Operand}:aW P ⟨none,.store t p x,ty,pos,af,g⟩ s=(match ev s.t p,ev s.t x with
 |some a,some b=>gB (sH P t a b s)
 |_,_=> .no):=rfl
theorem aMa {t:TypeId} {len:Nat} {parts:Array (Nat×Operand)}:aW P ⟨some d,.buildSlice t len parts,ty,pos,af,g⟩ s=gB (uG P t len (lV (ev s.t) parts.toList) d s):=rfl
theorem aMb {xs:Array Operand} {ts:Array TypeId}:aW P ⟨some d,.call ⟨.builtin .append,xs,ts⟩,ty,pos,af,g⟩ s=(match xs.toList,ts.toList with
 | [x,y],[st,xt]=>match ev s.t x,ev s.t y with
  |some a,some b=>gB (nH P st xt a b d s)
  |_,_=> .no
 |_,_=> .no):=rfl
theorem aMc {f:Operand} {xs:Array Operand} {ts:Array TypeId}:aW P ⟨some d,.call ⟨.value f,xs,ts⟩,ty,pos,af,g⟩ s=(match ev s.t f,lA (ev s.t) xs.toList with
 |some (.clo g caps),some as=> .c g (as++caps)
 |some (.yl L),some as=> .y (.yl L::as)
 |_,_=> .no):=rfl
end ops
theorem aMd {n:Int} (h1: -9223372036854775808≤n) (h2:n≤9223372036854775807):IntKind.i64.wrap n=n:=IntWalk.i64_in n ⟨h1,h2⟩
theorem aMe {n:Int} (h1:0≤n) (h2:n≤18446744073709551615):IntKind.u64.wrap n=n:=IntWalk.u64_in n ⟨h1,h2⟩
theorem aMf {n:Int} (h1:0≤n) (h2:n≤255):IntKind.u8.wrap n=n:=IntWalk.u8_in n ⟨h1,h2⟩
theorem aMg {n:Int} (h1: -2147483648≤n) (h2:n≤2147483647):IntKind.i32.wrap n=n:=IntWalk.i32_in n ⟨h1,h2⟩
theorem aMh {n:Int} (h1:0≤n) (h2:n≤4294967295):IntKind.u32.wrap n=n:=IntWalk.u32_in n ⟨h1,h2⟩
theorem aMi {a b:Int} (h:0≤a):a.tdiv b=a / b:=Int.tdiv_eq_ediv_of_nonneg h
theorem aMj {a b:Int} (h:0≤a):a.tmod b=a % b:=Int.tmod_eq_emod_of_nonneg h
theorem aMk {ρ:Operand→Option AV}:lA ρ []=some []:=rfl
theorem aMl {ρ:Operand→Option AV} {x:Operand} {r:List Operand}:lA ρ (x::r)=(match ρ x with
 |some a=>match lA ρ r with
  |some as=>some (a::as)
  |none=>none
 |none=>none):=by
 simp only[lA,List.mapM_cons]
 cases ρ x with
 |none=>rfl
 |some a=>
  simp
  cases List.mapM ρ r<;>rfl
theorem aMm {ρ:Operand→Option AV}:lV ρ []=some []:=rfl
theorem aMn {ρ:Operand→Option AV} {i:Nat} {x:Operand} {r:List (Nat×Operand)}:lV ρ ((i,x)::r)=(match ρ x with
 |some a=>match lV ρ r with
  |some as=>some ((i,a)::as)
  |none=>none
 |none=>none):=by
 simp only[lV,List.mapM_cons]
 cases ρ x with
 |none=>rfl
 |some a=>
  simp
  cases List.mapM (fun p:Nat×Operand=>Option.map (fun a=>(p.1,a)) (ρ p.2)) r<;>rfl
theorem aMo {cs:List AV}:(AV.agg cs).cells=cs:=rfl
theorem aMp {v:Value}:(AV.sc v).cells= [.sc v]:=rfl
theorem aMq {l f:Bool} {xs:List AV}:(AV.list l f xs).cells= [.list l f xs]:=rfl
theorem aMr {l:Bool} {xs:List AV} {i o:Nat}:(AV.iptr l xs i o).cells= [.iptr l xs i o]:=rfl
theorem aMs {a b c:Nat}:(AV.ref a b c).cells= [.ref a b c]:=rfl
theorem aMt {a b c:Nat}:(AV.ptr a b c).cells= [.ptr a b c]:=rfl
theorem aMu {g:FuncId} {cs:List AV}:(AV.clo g cs).cells= [.clo g cs]:=rfl
theorem aMv {cs:List AV}:(AV.agg cs).isAgg=true:=rfl
theorem aMw {v:Value}:(AV.sc v).isAgg=false:=rfl
theorem aMx {l f:Bool} {xs:List AV}:(AV.list l f xs).isAgg=false:=rfl
theorem aMy {l:Bool} {xs:List AV} {i o:Nat}:(AV.iptr l xs i o).isAgg=false:=rfl
theorem aMz {a b c:Nat}:(AV.ref a b c).isAgg=false:=rfl
theorem aM0 {a b c:Nat}:(AV.ptr a b c).isAgg=false:=rfl
theorem aM1 {g:FuncId} {cs:List AV}:(AV.clo g cs).isAgg=false:=rfl
theorem aM2 {cs:List AV}:(AV.agg cs).plain=true:=rfl
theorem aM3 {v:Value}:(AV.sc v).plain=true:=rfl
theorem aM4 {l f:Bool} {xs:List AV}:(AV.list l f xs).plain=true:=rfl
theorem aM5 {l:Bool} {xs:List AV} {i o:Nat}:(AV.iptr l xs i o).plain=true:=rfl
theorem aM6 {a b c:Nat}:(AV.ref a b c).plain=true:=rfl
theorem aM7 {a b c:Nat}:(AV.ptr a b c).plain=true:=rfl
theorem aM8 {g:FuncId} {cs:List AV}:(AV.clo g cs).plain=true:=rfl
theorem aM9 {cs:List AV}:(AV.agg cs).pure=AV.pureL cs:=by simp[AV.pure]
theorem aNa {v:Value}:(AV.sc v).pure=true:=by simp[AV.pure]
theorem aNb {l f:Bool} {xs:List AV}:(AV.list l f xs).pure= !l:=by simp[AV.pure]
theorem aNc {l:Bool} {xs:List AV} {i o:Nat}:(AV.iptr l xs i o).pure= !l:=by simp[AV.pure]
theorem aNd {a b c:Nat}:(AV.ref a b c).pure=false:=by simp[AV.pure]
theorem aNe {a b c:Nat}:(AV.ptr a b c).pure=false:=by simp[AV.pure]
theorem aNf:AV.dead.pure=false:=by simp[AV.pure]
theorem aNg {g:FuncId} {cs:List AV}:(AV.clo g cs).pure=AV.pureL cs:=by simp[AV.pure]
theorem aNh:AV.pureL []=true:=rfl
theorem aNi {a:AV} {r:List AV}:AV.pureL (a::r)=(a.pure&&AV.pureL r):=by simp[AV.pureL]
theorem aNj {L:Nat} {cs:List AV}:(AV.agg cs).has L=AV.hasL L cs:=by simp[AV.has]
theorem aNk {L:Nat} {v:Value}:(AV.sc v).has L=false:=rfl
theorem aNl {L:Nat} {l f:Bool} {xs:List AV}:(AV.list l f xs).has L=false:=rfl
theorem aNm {L:Nat} {l:Bool} {xs:List AV} {i o:Nat}:(AV.iptr l xs i o).has L=false:=rfl
theorem aNn {L a b c:Nat}:(AV.ref a b c).has L=(L==a):=rfl
theorem aNo {L a b c:Nat}:(AV.ptr a b c).has L=(L==a):=rfl
theorem aNp {L a b c d e:Nat}:(AV.aref a b c d e).has L=(L==a):=rfl
theorem aNq {L:Nat} {g:FuncId} {cs:List AV}:(AV.clo g cs).has L=AV.hasL L cs:=rfl
theorem aNr {L:Nat}:AV.dead.has L=false:=rfl
theorem aNs {L:Nat}:AV.hasL L []=false:=rfl
theorem aNt {L:Nat} {a:AV} {r:List AV}:AV.hasL L (a::r)=(a.has L||AV.hasL L r):=rfl
theorem aNu {op:BinOp} {t:TypeId} {k k':IntKind} {u v:Int}:kY P op t (.sc (.int k u)) (.sc (.int k' v))=if k=k' then nF op k u v else if op= .shr then nF .shr k u v else none:=rfl
theorem aNv {op:BinOp} {t:TypeId} {u v:ByteArray}:kY P op t (.sc (.string u)) (.sc (.string v))=qQ op u v:=rfl
theorem aNw {t:TypeId} {u v:Bool}:kY P .eql t (.sc (.bool u)) (.sc (.bool v))=if sD P t=true then some ⟨true,bl (u==v)⟩else none:=rfl
theorem aNx {t:TypeId} {u v:Bool}:kY P .neq t (.sc (.bool u)) (.sc (.bool v))=if sD P t=true then some ⟨true,bl (!(u==v))⟩else none:=rfl
theorem aNy {op:BinOp} {t:TypeId} {a:AV} {cs:List AV}:kY P op t a (.agg cs)=none:=by
 cases a<;>first|rfl|(rename_i v;cases v<;>rfl)
def G5 (d:Option (Bool×Nat)) (e:Option (AV×Nat)):Option Sv:=
 match d,e with
 |some (ag,size),some (y,o)=>(iG y ag size o).map fun a=>⟨true,a⟩
 |_,_=>none
theorem aNz {t:TypeId} {p:AV} {ob:aF}:kZ P t p ob=G5 (aR P t) (jG ob p):=by
 unfold kZ G5
 cases aR P t with
 |none=>rfl
 |some q=>obtain⟨a,b⟩:=q;cases jG ob p<;>rfl
theorem aN0 {ag:Bool} {size o:Nat} {y:AV}:G5 (some (ag,size)) (some (y,o))=(iG y ag size o).map fun a=>⟨true,a⟩:=rfl
theorem aN1 {y:AV} {size o:Nat}:iG y true size o=if o+size≤y.cells.length then some (if o=0∧size=y.cells.length∧y.isAgg=true then y else .agg ((y.cells.drop o).take size))else none:=rfl
theorem aN2 {y:AV} {size o:Nat}:iG y false size o=y.cells[o]?:=rfl
def G6 (x:Option AObj) (i o:Nat):Option (AV×Nat):=
 match x with
 |some x=>(x.xs[i]?).map fun y=>(y,o)
 |none=>none
theorem aN3 {ob:aF} {L i o:Nat}:jG ob (.ptr L i o)=G6 (lk ob L) i o:=by simp only[jG,G6];cases lk ob L<;>rfl
theorem aN4 {x:AObj} {i o:Nat}:G6 (some x) i o=(x.xs[i]?).map fun y=>(y,o):=rfl
theorem aN5 {ob:aF} {l:Bool} {xs:List AV} {i o:Nat}:jG ob (.iptr l xs i o)=(xs[i]?).map fun y=>(y,o):=rfl
def G7 (d:Option (Nat×TypeId×Nat)) (p:AV):Option Sv:=
 match d with
 |some (off,_,n)=>match p with
  | .iptr l xs i o=>some ⟨decide (n≠0),.iptr l xs i (o+off)⟩
  | .ptr L i o=>some ⟨decide (n≠0),.ptr L i (o+off)⟩
  |_=>none
 |none=>none
theorem aN6 {t:TypeId} {f:Nat} {p:AV}:qR P t f p=G7 (bX P t f) p:=rfl
theorem aN7 {off n:Nat} {ft:TypeId} {l:Bool} {xs:List AV} {i o:Nat}:G7 (some (off,ft,n)) (.iptr l xs i o)=some ⟨decide (n≠0),.iptr l xs i (o+off)⟩:=rfl
theorem aN8 {off n:Nat} {ft:TypeId} {L i o:Nat}:G7 (some (off,ft,n)) (.ptr L i o)=some ⟨decide (n≠0),.ptr L i (o+off)⟩:=rfl
theorem aN9 {t:TypeId} {s:ByteArray}:lU P t (.sc (.string s))=if kB P t=true then some ⟨true,nt .i64 s.size⟩else none:=rfl
def rE (d:Option (TypeId×Nat×Nat)) (n:Nat):Option Sv:=match d with
 |some _=>some ⟨true,nt .i64 n⟩
 |none=>none
theorem aOa {q:TypeId×Nat×Nat} {n:Nat}:rE (some q) n=some ⟨true,nt .i64 n⟩:=rfl
theorem aOb {t:TypeId} {l f:Bool} {xs:List AV}:lU P t (.list l f xs)=rE (bK P t) xs.length:=rfl
theorem aOc {t:TypeId} {L lo n:Nat}:lU P t (.ref L lo n)=rE (bK P t) n:=rfl
theorem aOd {t:TypeId} {L i o es n:Nat}:lU P t (.aref L i o es n)=rE (bK P t) n:=rfl
def aAv (d:Option (TypeId×Nat×Nat)) (l:Bool) (xs:List AV) (i:Int):Option Sv:=match d with
 |some (_,es,_)=>some ⟨decide (0≤i∧i<xs.length∧ ∀y,xs[i.toNat]?=some y→y.cells.length=es),.iptr l xs i.toNat 0⟩
 |none=>none
theorem aOe {t:TypeId} {l f:Bool} {xs:List AV} {k:IntKind} {i:Int} {ob:aF}:mS P t (.list l f xs) (.sc (.int k i)) ob=aAv (bK P t) l xs i:=rfl
theorem aOf {e:TypeId} {es b:Nat} {l:Bool} {xs:List AV} {i:Int}:aAv (some (e,es,b)) l xs i=some ⟨decide (0≤i∧i<xs.length∧ ∀y,xs[i.toNat]?=some y→y.cells.length=es),.iptr l xs i.toNat 0⟩:=rfl
def G8 (d:Option (TypeId×Nat×Nat)) (x:Option AObj) (L lo n:Nat) (i:Int):Option Sv:=match d,x with
 |some (_,es,_),some x=>some ⟨decide (x.es=es∧0≤i∧i<n),.ptr L (lo+i.toNat) 0⟩
 |_,_=>none
theorem aOg {t:TypeId} {L lo n:Nat} {k:IntKind} {i:Int} {ob:aF}:mS P t (.ref L lo n) (.sc (.int k i)) ob=G8 (bK P t) (lk ob L) L lo n i:=by
 simp only[mS,G8]
 cases bK P t<;>cases lk ob L<;>rfl
theorem aOh {e:TypeId} {es b:Nat} {x:AObj} {L lo n:Nat} {i:Int}:G8 (some (e,es,b)) (some x) L lo n i=some ⟨decide (x.es=es∧0≤i∧i<n),.ptr L (lo+i.toNat) 0⟩:=rfl
def aAw (d:Option (TypeId×Nat×Nat)) (L k o es' n:Nat) (i:Int):Option Sv:=match d with
 |some (_,es,_)=>some ⟨decide (es'=es∧0≤i∧i<n),.ptr L k (o+i.toNat*es)⟩
 |none=>none
theorem aOi {t:TypeId} {L k o es n:Nat} {kk:IntKind} {i:Int} {ob:aF}:mS P t (.aref L k o es n) (.sc (.int kk i)) ob=aAw (bK P t) L k o es n i:=rfl
theorem aOj {e:TypeId} {es b:Nat} {L k o es' n:Nat} {i:Int}:aAw (some (e,es,b)) L k o es' n i=some ⟨decide (es'=es∧0≤i∧i<n),.ptr L k (o+i.toNat*es)⟩:=rfl
def aAx (d:Option (Nat×TypeId×Nat)) (L k o:Nat) (i:Int):Option Sv:=match d with
 |some (n,_,es)=>some ⟨decide (0≤i∧i<n),.ptr L k (o+i.toNat*es)⟩
 |none=>none
theorem aOk {t:TypeId} {L k o:Nat} {kk:IntKind} {i:Int} {ob:aF}:mS P t (.ptr L k o) (.sc (.int kk i)) ob=aAx (jZ P t) L k o i:=rfl
theorem aOl {e:TypeId} {n es L k o:Nat} {i:Int}:aAx (some (n,e,es)) L k o i=some ⟨decide (0≤i∧i<n),.ptr L k (o+i.toNat*es)⟩:=rfl
def aAy (d:Option (Nat×TypeId×Nat)) (l:Bool) (xs:List AV) (k o:Nat) (i:Int):Option Sv:=match d with
 |some (n,_,es)=>some ⟨decide (0≤i∧i<n),.iptr l xs k (o+i.toNat*es)⟩
 |none=>none
theorem aOm {t:TypeId} {l:Bool} {xs:List AV} {k o:Nat} {kk:IntKind} {i:Int} {ob:aF}:mS P t (.iptr l xs k o) (.sc (.int kk i)) ob=aAy (jZ P t) l xs k o i:=rfl
theorem aOn {e:TypeId} {n es k o:Nat} {l:Bool} {xs:List AV} {i:Int}:aAy (some (n,e,es)) l xs k o i=some ⟨decide (0≤i∧i<n),.iptr l xs k (o+i.toNat*es)⟩:=rfl
theorem aOo {t:TypeId} {s:ByteArray} {k:IntKind} {i:Int}:sE P t (.sc (.string s)) (.sc (.int k i))=if kB P t=true then some ⟨decide (0≤i∧i<s.size),nt .u8 (s.data.toList.getD i.toNat 0).toNat⟩else none:=rfl
def aAz (d:Option (Nat×TypeId×Nat)) (P:Program) [Glob P] (cs:List AV):Option Sv:=match d with
 |some (off,ft,_)=>(oO P ft cs off).map fun a=>⟨true,a⟩
 |none=>none
theorem aOp {t:TypeId} {cs:List AV} {f:Nat}:tT P t (.agg cs) f=aAz (bX P t f) P cs:=rfl
theorem aOq {off n:Nat} {ft:TypeId} {cs:List AV}:aAz (some (off,ft,n)) P cs=(oO P ft cs off).map fun a=>⟨true,a⟩:=rfl
def G9 (d:Option (Bool×Nat)) (cs:List AV) (off:Nat):Option AV:=match d with
 |some (true,n)=>some (.agg ((cs.drop off).take n))
 |some (false,_)=>cs[off]?
 |none=>none
theorem aOr {t:TypeId} {cs:List AV} {off:Nat}:oO P t cs off=G9 (aR P t) cs off:=rfl
theorem aOs {n off:Nat} {cs:List AV}:G9 (some (true,n)) cs off=some (.agg ((cs.drop off).take n)):=rfl
theorem aOt {n off:Nat} {cs:List AV}:G9 (some (false,n)) cs off=cs[off]?:=rfl
def aA0 (z:Option AV) (k d:Nat) (s:ASt):Option St:=match z with
 |some z=>if z.plain=true∧z.has d=false then some ⟨decide (d<s.n),s.fresh d (boxK z k) (.ptr d 0 0)⟩else none
 |none=>none
theorem aOu {t:TypeId} {d:Nat}:uB P t d s=aA0 (zbS (aS P t) (aQ P t) (C0 P t)) (aS P t) d s:=rfl
theorem zbS_zero {z r:Option AV}:zbS 0 z r=z:=rfl
theorem zbS_succ {n:Nat} {z r:Option AV}:zbS (n+1) z r=r:=rfl
theorem aOv {a:AV} {k:Nat}:boxK a k=⟨false,false,false,a.cells.length,[a],k⟩:=rfl
theorem aOw {z:AV} {k d:Nat}:aA0 (some z) k d s=if z.plain=true∧z.has d=false then some ⟨decide (d<s.n),s.fresh d (boxK z k) (.ptr d 0 0)⟩else none:=rfl
theorem aOx {b:AV} {d:Nat}:uC b d s=if b.plain=true∧b.has d=false then some ⟨decide (d<s.n),s.fresh d (fZ b) (.ptr d 0 0)⟩else none:=rfl
theorem aOy {a:AV}:fZ a=⟨false,false,false,a.cells.length,[a],0⟩:=rfl
theorem aOz {es:Nat} {xs:List AV}:cD es xs=⟨true,false,false,es,xs,0⟩:=rfl
def sP (x:Option AObj) (d:Option (Bool×Nat)) (L i o:Nat) (a:AV) (s:ASt):Option St:=match x,d with
 |some x,some (_,size)=>match x.xs[i]? with
  |some y=>if x.fz=false∧a.plain=true∧a.cells.length=size∧o+size≤y.cells.length then
   if x.arr=true then match share s a with
    |some (s1,b)=>match lk s1.o L with
     |some x1=>if x1.fz=false∧b.pure=true∧b.cells.length=size∧b.plain=true then some ⟨true,{s1 with o:=cF s1.o L {x1 with xs:=x1.xs.set i (iR y b o)}}⟩else none
     |none=>none
    |none=>none
   else some ⟨true,{s with o:=cF s.o L {x with xs:=x.xs.set i (iR y a o)}}⟩
   else none
  |none=>none
 |_,_=>none
theorem aO0 {t:TypeId} {L i o:Nat} {a:AV}:sH P t (.ptr L i o) a s=sP (lk s.o L) (aR P t) L i o a s:=by
 simp only[sH,sP];cases lk s.o L<;>cases aR P t<;>rfl
def H0 (y:Option AV) (fz pin:Bool) (es:Nat) (xs:List AV) (kd size L i o:Nat) (a:AV) (s:ASt):Option St:=match y with
 |some y=>if fz=false∧a.plain=true∧a.cells.length=size∧o+size≤y.cells.length then some ⟨true,{s with o:=cF s.o L ⟨false,fz,pin,es,xs.set i (iR y a o),kd⟩}⟩else none
 |none=>none
theorem aO1 {kd:Nat} {fz pin ag:Bool} {es size L i o:Nat} {xs:List AV} {a:AV}:sP (some ⟨false,fz,pin,es,xs,kd⟩) (some (ag,size)) L i o a s=H0 (xs[i]?) fz pin es xs kd size L i o a s:=by
 simp only[sP,H0]
 cases xs[i]?<;>rfl
theorem aO2 {kd:Nat} {y:AV} {fz pin:Bool} {es size L i o:Nat} {xs:List AV} {a:AV}:H0 (some y) fz pin es xs kd size L i o a s=if fz=false∧a.plain=true∧a.cells.length=size∧o+size≤y.cells.length then some ⟨true,{s with o:=cF s.o L ⟨false,fz,pin,es,xs.set i (iR y a o),kd⟩}⟩else none:=rfl
def yE (y:Option AV) (b:Option (ASt×AV)) (fz:Bool) (size L i o:Nat) (a:AV):Option St:=match y,b with
 |some y,some (s1,b)=>if fz=false∧a.plain=true∧a.cells.length=size∧o+size≤y.cells.length then match lk s1.o L with
  |some x1=>if x1.fz=false∧b.pure=true∧b.cells.length=size∧b.plain=true then some ⟨true,{s1 with o:=cF s1.o L {x1 with xs:=x1.xs.set i (iR y b o)}}⟩else none
  |none=>none
  else none
 |_,_=>none
theorem aO3 {kd:Nat} {fz pin ag:Bool} {es size L i o:Nat} {xs:List AV} {a:AV}:sP (some ⟨true,fz,pin,es,xs,kd⟩) (some (ag,size)) L i o a s=yE (xs[i]?) (share s a) fz size L i o a:=by
 simp only[sP,yE]
 cases xs[i]? with
 |none=>cases share s a<;>rfl
 |some y=>
  cases share s a with
  |none=>simp
  |some q=>rfl
def H1 (x1:Option AObj) (s1:ASt) (b y:AV) (size L i o:Nat):Option St:=match x1 with
 |some x1=>if x1.fz=false∧b.pure=true∧b.cells.length=size∧b.plain=true then some ⟨true,{s1 with o:=cF s1.o L {x1 with xs:=x1.xs.set i (iR y b o)}}⟩else none
 |none=>none
theorem aO4 {y b a:AV} {s1:ASt} {fz:Bool} {size L i o:Nat}:yE (some y) (some (s1,b)) fz size L i o a=if fz=false∧a.plain=true∧a.cells.length=size∧o+size≤y.cells.length then H1 (lk s1.o L) s1 b y size L i o else none:=by
 simp only[yE,H1]
theorem aO5 {kd:Nat} {s1:ASt} {b y:AV} {size L i o:Nat} {arr fz pin:Bool} {es:Nat} {xs:List AV}:H1 (some ⟨arr,fz,pin,es,xs,kd⟩) s1 b y size L i o=
 if fz=false∧b.pure=true∧b.cells.length=size∧b.plain=true then some ⟨true,{s1 with o:=cF s1.o L ⟨arr,fz,pin,es,xs.set i (iR y b o),kd⟩}⟩else none:=rfl
theorem aO6 {o:aF} {L:Nat} {x:AObj}:cF o L x=(L,x)::o:=rfl
theorem aO7 {y a:AV} {o:Nat}:iR y a o=if o=0∧a.cells.length=y.cells.length∧a.isAgg=y.isAgg then a else .agg (splice y.cells a.cells o):=rfl
theorem aO8 {α:Type} {cs ds:List α} {off:Nat}:splice cs ds off=cs.take off++ds++cs.drop (off+ds.length):=rfl
def aA1 (d:Option (List AV×List (Nat×Nat))) (ps:Option (List (Nat×AV))):Option Sv:=match d,ps with
 |some (z,pl),some ps=>(nG (pl[·]?) z ps).map fun cs=>⟨true,.agg cs⟩
 |_,_=>none
theorem aO9 {t:TypeId} {ps:Option (List (Nat×AV))}:tU P t ps=aA1 (dU P t) ps:=rfl
def aA2 (pl:List (Nat×Nat)) (p:Option (Nat×Nat)) (cs:List AV) (a:AV) (r:List (Nat×AV)):Option (List AV):=match p with
 |some (off,size)=>if a.plain=true∧a.cells.length=size∧off+size≤cs.length then nG (pl[·]?) (splice cs a.cells off) r else none
 |none=>none
def yF (pl:List (Nat×Nat)) (cs:List AV) (ps:List (Nat×AV)):Option (List AV):=nG (pl[·]?) cs ps
theorem aPa {z:List AV} {pl:List (Nat×Nat)} {ps:List (Nat×AV)}:aA1 (some (z,pl)) (some ps)=(yF pl z ps).map fun cs=>⟨true,.agg cs⟩:=rfl
theorem aPb {pl:List (Nat×Nat)} {cs:List AV}:yF pl cs []=some cs:=rfl
theorem aPc {pl:List (Nat×Nat)} {cs:List AV} {i:Nat} {a:AV} {r:List (Nat×AV)}:yF pl cs ((i,a)::r)=aA2 pl (pl[i]?) cs a r:=rfl
theorem aPd {pl:List (Nat×Nat)} {off size:Nat} {cs:List AV} {a:AV} {r:List (Nat×AV)}:aA2 pl (some (off,size)) cs a r=if a.plain=true∧a.cells.length=size∧off+size≤cs.length then yF pl (splice cs a.cells off) r else none:=rfl
def H2 (d:Option (TypeId×Nat×Nat)) (l h:Option Int) (len gR:Bool) (xs:List AV):Option Sv:=match d,l,h with
 |some (_,es,_),some l,some h=>some ⟨decide (0≤l∧l≤h∧h≤xs.length∧ ∀y∈xs,y.cells.length=es),.list len gR ((xs.drop l.toNat).take (h.toNat - l.toNat))⟩
 |_,_,_=>none
theorem aPe {t:TypeId} {len gR:Bool} {xs:List AV} {lo hi:Option AV} {ob:aF}:gM P t (.list len gR xs) lo hi ob=H2 (bK P t) (bd lo 0) (bd hi xs.length) len (gR&&hi.isNone) xs:=by
 simp only[gM,H2]
 cases bK P t<;>cases bd lo 0<;>cases bd hi xs.length<;>rfl
theorem aPf {e:TypeId} {es b:Nat} {l h:Int} {len gR:Bool} {xs:List AV}:H2 (some (e,es,b)) (some l) (some h) len gR xs=some ⟨decide (0≤l∧l≤h∧h≤xs.length∧ ∀y∈xs,y.cells.length=es),.list len gR ((xs.drop l.toNat).take (h.toNat - l.toNat))⟩:=rfl
def H3 (d:Option (TypeId×Nat×Nat)) (x:Option AObj) (l h:Option Int) (L b n:Nat):Option Sv:=match d,x,l,h with
 |some (_,es,_),some x,some l,some h=>some ⟨decide (x.es=es∧0≤l∧l≤h∧h≤n),.ref L (b+l.toNat) (h.toNat - l.toNat)⟩
 |_,_,_,_=>none
theorem aPg {t:TypeId} {L b n:Nat} {lo hi:Option AV} {ob:aF}:gM P t (.ref L b n) lo hi ob=H3 (bK P t) (lk ob L) (bd lo 0) (bd hi n) L b n:=by
 simp only[gM,H3]
 cases bK P t<;>cases lk ob L<;>cases bd lo 0<;>cases bd hi n<;>rfl
theorem aPh {e:TypeId} {es bb:Nat} {x:AObj} {l h:Int} {L b n:Nat}:H3 (some (e,es,bb)) (some x) (some l) (some h) L b n=some ⟨decide (x.es=es∧0≤l∧l≤h∧h≤n),.ref L (b+l.toNat) (h.toNat - l.toNat)⟩:=rfl
def H4 (c:Bool) (l h:Option Int) (s:ByteArray):Option Sv:=match c,l,h with
 |true,some l,some h=>some ⟨decide (0≤l∧l≤h∧h≤s.size),.sc (.string (s.extract l.toNat h.toNat))⟩
 |_,_,_=>none
theorem aPi {t:TypeId} {s:ByteArray} {lo hi:Option AV} {ob:aF}:gM P t (.sc (.string s)) lo hi ob=H4 (kB P t) (bd lo 0) (bd hi s.size) s:=by
 simp only[gM,H4]
 cases kB P t<;>cases bd lo 0<;>cases bd hi s.size<;>rfl
theorem aPj {l h:Int} {s:ByteArray}:H4 true (some l) (some h) s=some ⟨decide (0≤l∧l≤h∧h≤s.size),.sc (.string (s.extract l.toNat h.toNat))⟩:=rfl
def H5 (d:Option (Nat×TypeId×Nat)) (l:Option Int) (hi:Option AV) (L i o:Nat):Option Sv:=match d,l with
 |some (n,_,es),some l=>match bd hi n with
  |some h=>some ⟨decide (0≤l∧l≤h∧h≤n),.aref L i (o+l.toNat*es) es (h.toNat - l.toNat)⟩
  |none=>none
 |_,_=>none
theorem aPk {t:TypeId} {L i o:Nat} {lo hi:Option AV} {ob:aF}:gM P t (.ptr L i o) lo hi ob=H5 (jZ P t) (bd lo 0) hi L i o:=by
 simp only[gM,H5]
 cases jZ P t<;>cases bd lo 0<;>rfl
def aA3 (h:Option Int) (n es:Nat) (l:Int) (L i o:Nat):Option Sv:=match h with
 |some h=>some ⟨decide (0≤l∧l≤h∧h≤n),.aref L i (o+l.toNat*es) es (h.toNat - l.toNat)⟩
 |none=>none
theorem aPl {e:TypeId} {n es:Nat} {l:Int} {hi:Option AV} {L i o:Nat}:H5 (some (n,e,es)) (some l) hi L i o=aA3 (bd hi n) n es l L i o:=rfl
theorem aPm {n es:Nat} {l h:Int} {L i o:Nat}:aA3 (some h) n es l L i o=some ⟨decide (0≤l∧l≤h∧h≤n),.aref L i (o+l.toNat*es) es (h.toNat - l.toNat)⟩:=rfl
theorem aPn {d:Int}:bd none d=some d:=rfl
theorem aPo {k:IntKind} {i d:Int}:bd (some (.sc (.int k i))) d=some i:=rfl
def sQ (a:Option AV) (l h:Option (Option AV)) (P:Program) [Glob P] (t:TypeId) (ob:aF):Option Sv:=match a,l,h with
 |some _,some none,_=>none
 |some _,_,some none=>none
 |some a,l,h=>gM P t a (l.bind id) (h.bind id) ob
 |none,_,_=>none
theorem aPp {a:AV} {t:TypeId} {ob:aF}:sQ (some a) none none P t ob=gM P t a none none ob:=rfl
theorem aPq {a l:AV} {t:TypeId} {ob:aF}:sQ (some a) (some (some l)) none P t ob=gM P t a (some l) none ob:=rfl
theorem aPr {a h:AV} {t:TypeId} {ob:aF}:sQ (some a) none (some (some h)) P t ob=gM P t a none (some h) ob:=rfl
theorem aPs {a l h:AV} {t:TypeId} {ob:aF}:sQ (some a) (some (some l)) (some (some h)) P t ob=gM P t a (some l) (some h) ob:=rfl
theorem aPt {d:Nat} {ty:TypeId} {pos:String} {af:Array Edge} {g:Option (Nat×Bool)} {t:TypeId} {x:Operand} {lo hi:Option Operand}:
 aW P ⟨some d,.slice t x lo hi none,ty,pos,af,g⟩ s=dC (sQ (bW P s.t x) (lo.map (bW P s.t)) (hi.map (bW P s.t)) P t s.o):=by simp only[aLy,sQ]
def aA4 (d:Option (TypeId×Nat×Nat)) (z:TypeId→Option Value) (ps:Option (List (Nat×AV))) (len dd:Nat) (s:ASt):Option St:=match d,ps with
 |some (e,es,_),some ps=>match z e with
  |some _=>if ps.map (·.1)=List.range len then match lC s (ps.map (·.2))with
   |some (s1,bs)=>some ⟨decide (dd<s1.n∧len*es≤2^24∧len≤cK∧ ∀b∈bs,b.pure=true∧b.cells.length=es),s1.fresh dd (cD es bs) (.ref dd 0 len)⟩
   |none=>none
   else none
  |none=>none
 |_,_=>none
theorem aPu {t:TypeId} {len d:Nat} {ps:Option (List (Nat×AV))}:uG P t len ps d s=aA4 (bK P t) (dB P) ps len d s:=rfl
def H6 (z:Option Value) (es:Nat) (ps:List (Nat×AV)) (len dd:Nat) (s:ASt):Option St:=match z with
 |some _=>if ps.map (·.1)=List.range len then match lC s (ps.map (·.2))with
  |some (s1,bs)=>some ⟨decide (dd<s1.n∧len*es≤2^24∧len≤cK∧ ∀b∈bs,b.pure=true∧b.cells.length=es),s1.fresh dd (cD es bs) (.ref dd 0 len)⟩
  |none=>none
  else none
 |none=>none
theorem aPv {e:TypeId} {es b:Nat} {z:TypeId→Option Value} {ps:List (Nat×AV)} {len d:Nat}:aA4 (some (e,es,b)) z (some ps) len d s=H6 (z e) es ps len d s:=rfl
def H7 (x:Option (ASt×List AV)) (es len dd:Nat):Option St:=match x with
 |some (s1,bs)=>some ⟨decide (dd<s1.n∧len*es≤2^24∧len≤cK∧ ∀b∈bs,b.pure=true∧b.cells.length=es),s1.fresh dd (cD es bs) (.ref dd 0 len)⟩
 |none=>none
theorem aPw {v:Value} {es:Nat} {ps:List (Nat×AV)} {len d:Nat}:H6 (some v) es ps len d s=if ps.map (·.1)=List.range len then H7 (lC s (ps.map (·.2))) es len d else none:=by
 simp only[H6,H7]
theorem aPx {s1:ASt} {bs:List AV} {es len d:Nat}:H7 (some (s1,bs)) es len d=some ⟨decide (d<s1.n∧len*es≤2^24∧len≤cK∧ ∀b∈bs,b.pure=true∧b.cells.length=es),s1.fresh d (cD es bs) (.ref d 0 len)⟩:=rfl
def nR (x:Option (ASt×AV)) (r:List AV) (f:ASt→List AV→Option (ASt×List AV)):Option (ASt×List AV):=match x with
 |some (s1,b)=>match f s1 r with
  |some (s2,bs)=>some (s2,b::bs)
  |none=>none
 |none=>none
def aA5 (b:AV) (x:Option (ASt×List AV)):Option (ASt×List AV):=match x with
 |some (s2,bs)=>some (s2,b::bs)
 |none=>none
theorem aPy {s1:ASt} {b:AV} {r:List AV} {f:ASt→List AV→Option (ASt×List AV)}:nR (some (s1,b)) r f=aA5 b (f s1 r):=rfl
theorem aPz {s2:ASt} {b:AV} {bs:List AV}:aA5 b (some (s2,bs))=some (s2,b::bs):=rfl
theorem aP0:lC s []=some (s,[]):=rfl
theorem aP1 {a:AV} {r:List AV}:lC s (a::r)=nR (share s a) r lC:=by first|rfl|(simp only[lC,nR];done)|(simp only[lC,nR];repeat' split)<;>simp_all
theorem aP2:jH s []=some (s,[]):=rfl
theorem aP3 {a:AV} {r:List AV}:jH s (a::r)=nR (gV s a) r jH:=by first|rfl|(simp only[jH,nR];done)|(simp only[jH,nR];repeat' split)<;>simp_all
def H8 (x:Option (ASt×List AV)):Option (ASt×AV):=match x with
 |some (s1,ds)=>some (s1,.agg ds)
 |none=>none
theorem aP4 {s1:ASt} {ds:List AV}:H8 (some (s1,ds))=some (s1,.agg ds):=rfl
theorem aP5 {cs:List AV}:share s (.agg cs)=H8 (jH s cs):=rfl
theorem aP6 {v:Value}:share s (.sc v)=some (s,.sc v):=by simp[share,gV,AV.pure]
theorem aP7 {f:Bool} {xs:List AV}:share s (.list false f xs)=some (s,.list false f xs):=by simp[share,gV,AV.pure]
theorem aP8 {L lo n:Nat}:share s (.ref L lo n)=gV s (.ref L lo n):=rfl
theorem aP9 {v:Value}:gV s (.sc v)=some (s,.sc v):=by simp[gV,AV.pure]
theorem aQa {f:Bool} {xs:List AV}:gV s (.list false f xs)=some (s,.list false f xs):=by simp[gV,AV.pure]
def H9 (x:Option AObj) (s:ASt) (L lo n:Nat):Option (ASt×AV):=match x with
 |some x=>if x.arr=true∧x.pin=false then some (s.frz L x,.list false false (bS x.xs lo n))else none
 |none=>none
theorem aQb {L lo n:Nat}:gV s (.ref L lo n)=H9 (lk s.o L) s L lo n:=by
 simp only[gV,H9];cases lk s.o L<;>rfl
theorem aQc {kd:Nat} {fz:Bool} {es L lo n:Nat} {xs:List AV}:H9 (some ⟨true,fz,false,es,xs,kd⟩) s L lo n=some ({s with o:=(L,⟨true,true,false,es,xs,kd⟩)::s.o},.list false false (bS xs lo n)):=rfl
theorem aQd {α:Type} {xs:List α}:bS xs 0 xs.length=xs:=by simp[bS]
theorem aQe {α:Type} {xs:List α} {lo n:Nat}:bS xs lo n=if lo=0∧n=xs.length then xs else(xs.drop lo).take n:=rfl
def sR (d:Option (TypeId×Nat×Nat)) (d2:Bool) (ys:Option (List AV)) (z:TypeId→Option Value) (kk:TypeId→Nat) (a:AV) (dd:Nat) (s:ASt):Option St:=match d,d2,ys with
 |some (e,es,bytes),true,some ys=>match z e with
  |some _=>match a with
   | .list _ true xs=>some ⟨decide (dd<s.n∧(∀zv,z e=some zv→zv.cells.size=es)∧(∀y∈ys,y.cells.length=es)∧(∀y∈xs,y.cells.length=es)∧bytes≠0∧(2*(xs.length+ys.length)+200)*bytes≤2^48∧(xs= []∨ys≠ [])),
    s.renew dd dd dd (fR es (xs++ys) (kk e)) (.ref dd 0 (xs++ys).length)⟩
   | .ref L lo n=>match lk s.o L with
    |some x=>if x.arr=true∧x.fz=false∧lo=0 then
     some ⟨decide (dd<s.n∧(∀zv,z e=some zv→zv.cells.size=es)∧(∀y∈ys,y.cells.length=es)∧x.es=es∧bytes≠0∧(2*(n+ys.length)+200)*bytes≤2^48∧n≤x.xs.length),
      s.renew L (if x.pin=true then dd else L) dd (fR es (bS x.xs 0 n++ys) (if x.kd=kk e then kk e else 0)) (.ref (if x.pin=true then dd else L) 0 (n+ys.length))⟩else none
    |none=>none
   |_=>none
  |none=>none
 |_,_,_=>none
theorem aQf {st xt:TypeId} {a b:AV} {d:Nat}:oR P st xt a b d s=sR (bK P st) (fB P xt) (gA s.o b) (dB P) (dL P) a d s:=by
 simp only[oR,sR];cases bK P st<;>cases fB P xt<;>cases gA s.o b<;>rfl
def aQg (x:Option AObj) (L n es bytes k dd:Nat) (ys:List AV) (s:ASt):Option St:=match x with
 |some x=>if x.arr=true∧x.fz=false then some ⟨decide (dd<s.n∧(∀y∈ys,y.cells.length=es)∧x.es=es∧(2*(n+ys.length)+200)*bytes≤2^48∧n≤x.xs.length),
  s.renew L (if x.pin=true then dd else L) dd (fR es (bS x.xs 0 n++ys) (if x.kd=k then k else 0)) (.ref (if x.pin=true then dd else L) 0 (n+ys.length))⟩else none
 |none=>none
theorem aQh {kd k:Nat} {L n es es' bytes d:Nat} {xs ys:List AV} {pin:Bool}:aQg (some ⟨true,false,pin,es',xs,kd⟩) L n es bytes k d ys s=some ⟨decide (d<s.n∧(∀y∈ys,y.cells.length=es)∧es'=es∧(2*(n+ys.length)+200)*bytes≤2^48∧n≤xs.length),
 s.renew L (if pin=true then d else L) d (fR es (bS xs 0 n++ys) (if kd=k then k else 0)) (.ref (if pin=true then d else L) 0 (n+ys.length))⟩:=rfl
theorem aQi {es k:Nat} {xs:List AV}:fR es xs k=⟨true,false,false,es,xs,k⟩:=rfl
theorem aQj {o:aF} {l f:Bool} {ys:List AV}:gA o (.list l f ys)=some ys:=rfl
theorem aQk {o:aF} {L lo n:Nat}:gA o (.ref L lo n)=gW o (.ref L lo n):=rfl
theorem aQl {o:aF} {b:ByteArray}:gA o (.sc (.string b))=some (b.data.toList.map fQ):=rfl
def yG (x:Option AObj) (lo n:Nat):Option (List AV):=match x with
 |some x=>if x.arr=true then some (bS x.xs lo n)else none
 |none=>none
theorem aQm {o:aF} {l f:Bool} {ys:List AV}:gW o (.list l f ys)=some ys:=rfl
theorem aQn {o:aF} {L lo n:Nat}:gW o (.ref L lo n)=yG (lk o L) lo n:=by first|rfl|(simp only[gW,yG];done)|(simp only[gW,yG];repeat' split)<;>simp_all
theorem aQo {kd:Nat} {fz pin:Bool} {es lo n:Nat} {xs:List AV}:yG (some ⟨true,fz,pin,es,xs,kd⟩) lo n=some (bS xs lo n):=rfl
def vH (b:Option AV) (x:Option (List AV)):Option (List AV):=match b,x with
 |some b,some bs=>some (b::bs)
 |_,_=>none
theorem aQp {b:AV} {bs:List AV}:vH (some b) (some bs)=some (b::bs):=rfl
theorem aQq {o:aF}:gX o []=some []:=rfl
theorem aQr {o:aF} {a:AV} {r:List AV}:gX o (a::r)=vH (kC o a) (gX o r):=by
 simp only[gX,vH]
 cases kC o a with
 |none=>rfl
 |some b=>cases gX o r<;>rfl
theorem aQs {o:aF}:jI o []=some []:=rfl
theorem aQt {o:aF} {a:AV} {r:List AV}:jI o (a::r)=vH (fS o a) (jI o r):=by
 simp only[jI,vH]
 cases fS o a with
 |none=>rfl
 |some b=>cases jI o r<;>rfl
theorem aQu {o:aF} {cs:List AV}:kC o (.agg cs)=(jI o cs).map .agg:=rfl
theorem aQv {o:aF} {g:FuncId} {cs:List AV}:kC o (.clo g cs)=(jI o cs).map (.clo g):=rfl
theorem aQw {o:aF} {v:Value}:kC o (.sc v)=some (.sc v):=rfl
theorem aQx {o:aF} {l f:Bool} {xs:List AV}:kC o (.list l f xs)=some (.list l f xs):=rfl
theorem aQy {o:aF} {l:Bool} {xs:List AV} {i k:Nat}:kC o (.iptr l xs i k)=some (.iptr l xs i k):=rfl
theorem aQz {o:aF}:kC o .dead=some .dead:=rfl
theorem aQ0 {o:aF} {v:Value}:fS o (.sc v)=some (.sc v):=rfl
theorem aQ1 {o:aF} {l f:Bool} {xs:List AV}:fS o (.list l f xs)=some (.list l f xs):=rfl
theorem aQ2 {o:aF} {l:Bool} {xs:List AV} {i k:Nat}:fS o (.iptr l xs i k)=some (.iptr l xs i k):=rfl
theorem aQ3 {o:aF}:fS o .dead=some .dead:=rfl
theorem aQ4 {o:aF} {L lo n:Nat}:kC o (.ref L lo n)=fS o (.ref L lo n):=rfl
theorem aQ5 {o:aF} {L i k:Nat}:kC o (.ptr L i k)=fS o (.ptr L i k):=rfl
theorem aQ6 {o:aF} {L i k es n:Nat}:kC o (.aref L i k es n)=fS o (.aref L i k es n):=rfl
def yH (x:Option AObj) (lo n:Nat):Option AV:=match x with
 |some x=>if x.arr=true then some (.list (!x.fz) false (bS x.xs lo n))else none
 |none=>none
theorem aQ7 {o:aF} {L lo n:Nat}:fS o (.ref L lo n)=yH (lk o L) lo n:=by first|rfl|(simp only[fS,yH];done)|(simp only[fS,yH];repeat' split)<;>simp_all
theorem aQ8 {kd:Nat} {fz pin:Bool} {es lo n:Nat} {xs:List AV}:yH (some ⟨true,fz,pin,es,xs,kd⟩) lo n=some (.list (!fz) false (bS xs lo n)):=rfl
def yI (x:Option AObj) (i k:Nat):Option AV:=match x with
 |some x=>if x.arr=true∨AV.pureL x.xs=true then some (.iptr true x.xs i k)else none
 |none=>none
theorem aQ9 {o:aF} {L i k:Nat}:fS o (.ptr L i k)=yI (lk o L) i k:=by first|rfl|(simp only[fS,yI];done)|(simp only[fS,yI];repeat' split)<;>simp_all
theorem aRa {kd:Nat} {arr fz pin:Bool} {es i k:Nat} {xs:List AV}:yI (some ⟨arr,fz,pin,es,xs,kd⟩) i k=if arr=true∨AV.pureL xs=true then some (.iptr true xs i k)else none:=rfl
def yJ (y:Option AV) (k es n:Nat):Option AV:=match y with
 |some y=>if y.pure=true∧k+n*es≤y.cells.length∧n≤1048576∧y.isAgg=true then some (.list true false ((List.range n).map fun j=>nI y.cells (k+j*es) es))else none
 |none=>none
def I0 (x:Option AObj) (i k es n:Nat):Option AV:=match x with
 |some x=>yJ (x.xs[i]?) k es n
 |none=>none
theorem aRb {o:aF} {L i k es n:Nat}:fS o (.aref L i k es n)=I0 (lk o L) i k es n:=by
 simp only[fS,I0]
 cases lk o L with
 |none=>rfl
 |some x=>simp only[yJ];cases x.xs[i]?<;>rfl
theorem aRc {x:AObj} {i k es n:Nat}:I0 (some x) i k es n=yJ (x.xs[i]?) k es n:=rfl
theorem aRd {y:AV} {k es n:Nat}:yJ (some y) k es n=if y.pure=true∧k+n*es≤y.cells.length∧n≤1048576∧y.isAgg=true then some (.list true false ((List.range n).map fun j=>nI y.cells (k+j*es) es))else none:=rfl
theorem aRe {cs:List AV} {off es:Nat}:nI cs off es=if es=1 then cs.getD off .dead else .agg ((cs.drop off).take es):=rfl
theorem aRf {d es:Nat} {xs:List AV}:lY s d (.own es xs)=s.renew d d d (cD es xs) (.ref d 0 xs.length):=rfl
theorem aRg {d:Nat} {v:Value}:lY s d (.sc v)=s.put d (.sc v):=rfl
theorem aRh {d:Nat} {cs:List AV}:lY s d (.agg cs)=s.put d (.agg cs):=rfl
theorem aRi {d:Nat} {l f:Bool} {xs:List AV}:lY s d (.list l f xs)=s.put d (.list l f xs):=rfl
theorem aRj {d:Nat} {g:FuncId} {cs:List AV}:lY s d (.clo g cs)=s.put d (.clo g cs):=rfl
def aA6 (d:Nat) (x:ASt×List AV):ASt:=x.1.put d (.tup x.2)
theorem aRk {d:Nat} {rs:List AV}:lY s d (.tup rs)=aA6 d (dO s.n d 0 s rs):=rfl
theorem aRl {d:Nat} {s1:ASt} {cs:List AV}:aA6 d (s1,cs)=s1.put d (.tup cs):=rfl
def vI (b:AV) (x:ASt×List AV):ASt×List AV:=(x.1,b::x.2)
theorem aRm {b:AV} {s1:ASt} {cs:List AV}:vI b (s1,cs)=(s1,b::cs):=rfl
theorem aRn {n d i:Nat}:dO n d i s []=(s,[]):=rfl
theorem aRo {n d i es:Nat} {xs rs:List AV}:dO n d i s (.own es xs::rs)=vI (.ref (n*(i+1)+d) 0 xs.length) (dO n d (i+1) (s.adopt (n*(i+1)+d) (cD es xs)) rs):=rfl
theorem aRp {n d i:Nat} {v:Value} {rs:List AV}:dO n d i s (.sc v::rs)=vI (.sc v) (dO n d (i+1) s rs):=rfl
theorem aRq {n d i:Nat} {cs:List AV} {rs:List AV}:dO n d i s (.agg cs::rs)=vI (.agg cs) (dO n d (i+1) s rs):=rfl
theorem aRr {n d i:Nat} {l f:Bool} {xs rs:List AV}:dO n d i s (.list l f xs::rs)=vI (.list l f xs) (dO n d (i+1) s rs):=rfl
theorem aRs {n:Nat} {as:List AV}:pA n as=⟨n,(as.zipIdx 0).map fun p=>(p.2,p.1),[]⟩:=rfl
def sS (a:Option AV) (r:Option (List AV)):Option (List AV):=match a,r with
 |some a,some as=>some (a::as)
 |_,_=>none
theorem aRt {a:AV} {r:List AV}:sS (some a) (some r)=some (a::r):=rfl
theorem aRu:eV P s []=some []:=rfl
theorem aRv {r:ResultVar} {rs:List ResultVar}:eV P s (r::rs)=sS (oZ P s r) (eV P s rs):=by
 simp only[eV,sS];cases oZ P s r<;>cases eV P s rs<;>rfl
theorem aRw {t:Nat}:oZ P s (.tmp t)=lk s.t t:=rfl
def yK (p:Option AV) (t:TypeId) (P:Program) [Glob P] (o:aF):Option AV:=match p with
 |some (.ptr L i k)=>(kZ P t (.ptr L i k) o).map (·.val)
 |_=>none
theorem aRx {a:Nat} {t:TypeId}:oZ P s (.cell a t)=yK (lk s.t a) t P s.o:=by first|rfl|(simp only[oZ,yK];done)|(simp only[oZ,yK];repeat' split)<;>simp_all
theorem aRy {L i k:Nat} {t:TypeId} {o:aF}:yK (some (.ptr L i k)) t P o=(kZ P t (.ptr L i k) o).map (·.val):=rfl
theorem aRz:jL [] s=some s:=rfl
def yL (x:Option AObj) (L:Nat) (r:List Nat) (s:ASt):Option ASt:=match x with
 |some x=>if x.arr=true then jL r (s.frz L x)else none
 |none=>none
theorem aR0 {L:Nat} {r:List Nat}:jL (L::r) s=yL (lk s.o L) L r s:=by first|rfl|(simp only[jL,yL];done)|(simp only[jL,yL];repeat' split)<;>simp_all
theorem aR1 {kd:Nat} {fz pin:Bool} {es L:Nat} {xs:List AV} {r:List Nat}:yL (some ⟨true,fz,pin,es,xs,kd⟩) L r s=jL r {s with o:=(L,⟨true,true,pin,es,xs,kd⟩)::s.o}:=rfl
def yM (x:Option (ASt×List AV)):Option AV:=match x with
 |some (s2,ys)=>if mH (eW ys)=true then(lH s2.o ys).map gC else none
 |none=>none
theorem aR2 {s2:ASt} {ys:List AV}:yM (some (s2,ys))=if mH (eW ys)=true then(lH s2.o ys).map gC else none:=rfl
def I1 (xs:Option (List AV)) (s1:Option ASt):Option AV:=match xs,s1 with
 |some xs,some s1=>yM (lG s1 xs)
 |_,_=>none
theorem aR3 {rs:List ResultVar} {fs:List Nat}:nQ P rs fs s=I1 (eV P s rs) (jL fs s):=by
 simp only[nQ,I1]
 cases eV P s rs with
 |none=>rfl
 |some xs=>cases jL fs s with
  |none=>rfl
  |some s1=>simp only[yM];cases lG s1 xs<;>rfl
theorem aR4 {xs:List AV} {s1:ASt}:I1 (some xs) (some s1)=yM (lG s1 xs):=rfl
theorem aR5:lG s []=some (s,[]):=rfl
theorem aR6 {a:AV} {r:List AV}:lG s (a::r)=nR (mY s a) r lG:=by first|rfl|(simp only[lG,nR];done)|(simp only[lG,nR];repeat' split)<;>simp_all
theorem aR7 {L lo n:Nat}:mY s (.ref L lo n)=some (s,.ref L lo n):=rfl
theorem aR8 {v:Value}:mY s (.sc v)=some (s,.sc v):=by simp[mY,share,gV,AV.pure]
theorem aR9 {cs:List AV}:mY s (.agg cs)=H8 (jH s cs):=rfl
theorem aSa {f:Bool} {xs:List AV}:mY s (.list false f xs)=some (s,.list false f xs):=by simp[mY,share,gV,AV.pure]
theorem aSb {g:FuncId} {cs:List AV}:mY s (.clo g cs)=if AV.pureL cs=true then some (s,.clo g cs)else none:=rfl
theorem aSc {o:aF}:lH o []=some []:=rfl
theorem aSd {o:aF} {a:AV} {r:List AV}:lH o (a::r)=sS (jO o a) (lH o r):=by first|rfl|(simp only[lH,sS];done)|(simp only[lH,sS];repeat' split)<;>simp_all
theorem aSe {o:aF} {v:Value}:jO o (.sc v)=some (.sc v):=by simp[jO,AV.pure]
theorem aSf {o:aF} {cs:List AV}:jO o (.agg cs)=if AV.pureL cs=true then some (.agg cs)else none:=rfl
theorem aSg {o:aF} {g:FuncId} {cs:List AV}:jO o (.clo g cs)=if AV.pureL cs=true then some (.clo g cs)else none:=rfl
theorem aSh {o:aF} {f:Bool} {xs:List AV}:jO o (.list false f xs)=some (.list false f xs):=by simp[jO,AV.pure]
def sU (x:Option AObj) (lo n:Nat):Option AV:=match x with
 |some x=>if x.arr=true then(if x.fz=true then some (.list false false (bS x.xs lo n))else if x.pin=false∧lo=0∧n=x.xs.length then some (.own x.es x.xs)else none)else none
 |none=>none
theorem aSi {o:aF} {L lo n:Nat}:jO o (.ref L lo n)=sU (lk o L) lo n:=by first|rfl|(simp only[jO,sU];done)|(simp only[jO,sU];repeat' split)<;>simp_all
theorem aSj {kd:Nat} {pin:Bool} {es lo n:Nat} {xs:List AV}:sU (some ⟨true,true,pin,es,xs,kd⟩) lo n=some (.list false false (bS xs lo n)):=rfl
theorem aSk {kd:Nat} {es lo n:Nat} {xs:List AV}:sU (some ⟨true,false,false,es,xs,kd⟩) lo n=if lo=0∧n=xs.length then some (.own es xs)else none:=by simp[sU]
theorem aSl:eW []= []:=rfl
theorem aSm {L lo n:Nat} {r:List AV}:eW (.ref L lo n::r)=L::eW r:=rfl
theorem aSn {v:Value} {r:List AV}:eW (.sc v::r)=eW r:=rfl
theorem aSo {cs:List AV} {r:List AV}:eW (.agg cs::r)=eW r:=rfl
theorem aSp {l f:Bool} {xs r:List AV}:eW (.list l f xs::r)=eW r:=rfl
theorem aSq {g:FuncId} {cs:List AV} {r:List AV}:eW (.clo g cs::r)=eW r:=rfl
theorem aSr:mH []=true:=rfl
theorem aSs {a:Nat} {r:List Nat}:mH (a::r)=(!r.contains a&&mH r):=rfl
theorem aSt {r:AV}:gC [r]=r:=rfl
theorem aSu:gC []= .tup []:=rfl
theorem aSv {a b:AV} {r:List AV}:gC (a::b::r)= .tup (a::b::r):=rfl
def I2 (x:Option AV) (R:AV→Prop):Prop:=match x with
 |some r=>R r
 |none=>False
theorem aSw {rs:List ResultVar} {fs:List Nat} {R:AV→Prop}:yD P rs fs R s=I2 (nQ P rs fs s) R:=by simp only[yD,I2]
theorem aSx {r:AV} {R:AV→Prop}:I2 (some r) R=R r:=rfl
def vJ (x:Option AV) (want:Bool):GV:=match x with
 |some (.sc (.bool b))=> .test b want
 |some (.tup [])=> .skip
 |_=> .bad
theorem aSy {want:Bool}:vJ (some (.tup [])) want= .skip:=rfl
theorem aSz {ops:Array Oper} {j:Nat} {want:Bool}:eU ops (some (j,want)) s=vJ ((lE ops j).bind (lk s.t)) want:=by first|rfl|(simp only[eU,vJ];done)|(simp only[eU,vJ];repeat' split)<;>simp_all
theorem aS0 {b want:Bool}:vJ (some (.sc (.bool b))) want= .test b want:=rfl
theorem aS1 {ops:Array Oper} {j:Nat}:lE ops j=(ops[j]?).bind (·.dst):=rfl
end
attribute [go_sem ↓] aIz aI0 aI1 aI2 aI3 aI4 aI5 aI6 aI7 aI8 aI9 aJa aJf aJg aJl aJm aJn aJo aJp aJx aJy aJ0 aJz List.filter_cons List.filter_nil aJ1 aJ2 aJ3 aJ4 aJ5 aJ6 aKa
attribute [go_sem] aSy aJi aJj aJk aJ9 aKb aKc
attribute [go_sem] aJb aJc aJh aSz aS0 aS1 aJs aJt aJu aJv aKd aKe aKf aKg aKh aKi aKj aKk aKl aKm aKn aKo aKp aKq
 aAg aAh aAi aAj aAk aAl aAn aAo aAp aAq aAr aKs aAs aAt aKt aAu aKu aKv aKw aAm aKr
 aKx aKy aKz aK0 aK1 aK2 aK3 aK4 aK5 aK6 aK7 aK8 aK9 aLa aLb aLc aLd aLe aLf aLg aLh
attribute [go_sem] aLi aLj aLk aLl aLm aLs aLt aLu aLv aLw aLx aLz aL0 aL1 aL2 aL3 aL4 aL7 aL8 aL9 aMa aMb aMc
attribute [go_sem] aMd aMe aMf aMg aMh aMi aMj aMk aMl aMm aMn
attribute [go_sem] aMo aMp aMq aMr aMs aMt aMu aMv aMw aMx aMy aMz aM0 aM1 aM2 aM3 aM4 aM5 aM6 aM7 aM8
 aM9 aNa aNb aNc aNd aNe aNf aNg aNh aNi aNj aNk aNl aNm aNn aNo aNp aNq aNr aNs aNt
attribute [go_sem] aNu aNv aNw aNx aNy nF qQ tV pS aNz aN0 aN1 aN2 aN3 aN4 aN5 aN6 aN7 aN8 aN9 aOa aOb aOc aOd
 aOe aOf aOg aOh aOi aOj aOk aOl aOm aOn aOp aOq aOr aOs aOt aOu aOw aOx aOy aOv zbS_zero zbS_succ aOz aQi aQj aQk aQl
 aO0 aO1 aO2 aO3 aO4 aO5 aO6 aO7 aO8 aO9 aPa aPb aPc aPd
attribute [go_sem] aPe aPf aPg aPh aPi aPj aPk aPl aPm aPn aPo aPu aPv aPw aPx
 aPy aPz aP0 aP1 aP2 aP3 aP4 aP5 aP6 aP7 aP8 aP9 aQa aQb aQc aQd aQe aQf aQh aQm aQn aQo
 aQp aQq aQr aQs aQt aQu aQv aQw aQx aQy aQz aQ0 aQ1 aQ2 aQ3 aQ4 aQ5 aQ6 aQ7 aQ8 aQ9 aRa aRb aRc aRd aRe
attribute [go_sem] aRf aRg aRh aRi aRj aRk aRl aRm aRn aRo aRp aRq aRr aRs aRt aRu aRv aRw aRx aRy aRz aR0 aR1 aR2 aR3 aR4
 aR5 aR6 aR7 aR8 aR9 aSa aSb aSc aSd aSe aSf aSg aSh aSi aSj aSk aSl aSm aSn aSo aSp aSq aSr aSs aSt aSu aSv aSw aSx
 aPt aPp aPq aPr aPs
attribute [go_sem] List.getElem?_cons_zero List.getElem?_cons_succ List.getElem?_nil List.map_cons List.map_nil List.length_cons List.length_nil List.take_zero List.take_succ_cons List.take_nil List.drop_zero List.drop_succ_cons List.drop_nil List.cons_append List.nil_append List.append_nil
 List.set_cons_zero List.set_cons_succ List.zipIdx_cons List.zipIdx_nil Option.map_some Option.map_none Option.bind_some Option.bind_none List.getElem?_toArray Nat.zero_add Nat.add_zero Int.toNat_natCast Int.toNat_zero List.contains_nil
 Bool.not_true Bool.not_false and_true true_and and_false false_and and_self or_true true_or or_false false_or if_true if_false ite_true ite_false ne_eq not_true_eq_false not_false_eq_true Bool.false_eq_true Bool.true_and Bool.and_true Bool.false_and Bool.and_false Bool.or_false Bool.false_or Bool.or_true Bool.true_or eq_self implies_true decide_true decide_false
section
variable {P : Program} [Glob P] {Q : Exit → ASt → Prop} {s : ASt} {k : ASt → Prop}
section asteps
variable {dd : Option Nat} {d : Nat} {ty : TypeId} {pos : String} {af : Array Edge} {g : Option (Nat × Bool)}
theorem aS2 {x:Operand}:bO P ⟨dd,.move x,ty,pos,af,g⟩ k s=bU P (aW P ⟨dd,.move x,ty,pos,af,g⟩ s) dd k s:=rfl
theorem aS3 {x:Operand}:bO P ⟨dd,.assign x,ty,pos,af,g⟩ k s=bU P (aW P ⟨dd,.assign x,ty,pos,af,g⟩ s) dd k s:=rfl
theorem aS4 {c x y:Operand}:bO P ⟨dd,.pick c x y,ty,pos,af,g⟩ k s=bU P (aW P ⟨dd,.pick c x y,ty,pos,af,g⟩ s) dd k s:=rfl
theorem aS5 {t:TypeId}:bO P ⟨dd,.alloc t,ty,pos,af,g⟩ k s=bU P (aW P ⟨dd,.alloc t,ty,pos,af,g⟩ s) dd k s:=rfl
theorem aS6 {t:TypeId} {x:Operand}:bO P ⟨dd,.box t x,ty,pos,af,g⟩ k s=bU P (aW P ⟨dd,.box t x,ty,pos,af,g⟩ s) dd k s:=rfl
theorem aS7 {t:TypeId} {ps:Array (Nat×Operand)}:bO P ⟨dd,.build t ps,ty,pos,af,g⟩ k s=bU P (aW P ⟨dd,.build t ps,ty,pos,af,g⟩ s) dd k s:=rfl
theorem aS8 {t:TypeId} {l:Nat} {ps:Array (Nat×Operand)}:bO P ⟨dd,.buildSlice t l ps,ty,pos,af,g⟩ k s=bU P (aW P ⟨dd,.buildSlice t l ps,ty,pos,af,g⟩ s) dd k s:=rfl
theorem aS9 {t:TypeId} {x:Operand}:bO P ⟨dd,.load t x,ty,pos,af,g⟩ k s=bU P (aW P ⟨dd,.load t x,ty,pos,af,g⟩ s) dd k s:=rfl
theorem aTa {t:TypeId} {x y:Operand}:bO P ⟨dd,.store t x y,ty,pos,af,g⟩ k s=bU P (aW P ⟨dd,.store t x y,ty,pos,af,g⟩ s) dd k s:=rfl
theorem aTb {x:Operand}:bO P ⟨dd,.nilCheck x,ty,pos,af,g⟩ k s=bU P (aW P ⟨dd,.nilCheck x,ty,pos,af,g⟩ s) dd k s:=rfl
theorem aTc {u:UnOp} {t:TypeId} {x:Operand}:bO P ⟨dd,.unOp u t x,ty,pos,af,g⟩ k s=bU P (aW P ⟨dd,.unOp u t x,ty,pos,af,g⟩ s) dd k s:=rfl
theorem aTd {t:TypeId} {x:Operand} {i:Nat}:bO P ⟨dd,.fieldAddr t x i,ty,pos,af,g⟩ k s=bU P (aW P ⟨dd,.fieldAddr t x i,ty,pos,af,g⟩ s) dd k s:=rfl
theorem aTe {t:TypeId} {x:Operand} {i:Nat}:bO P ⟨dd,.field t x i,ty,pos,af,g⟩ k s=bU P (aW P ⟨dd,.field t x i,ty,pos,af,g⟩ s) dd k s:=rfl
theorem aTf {t:TypeId} {x y:Operand}:bO P ⟨dd,.indexAddr t x y,ty,pos,af,g⟩ k s=bU P (aW P ⟨dd,.indexAddr t x y,ty,pos,af,g⟩ s) dd k s:=rfl
theorem aTg {t:TypeId} {x y:Operand}:bO P ⟨dd,.index t x y,ty,pos,af,g⟩ k s=bU P (aW P ⟨dd,.index t x y,ty,pos,af,g⟩ s) dd k s:=rfl
theorem aTh {t:TypeId} {x:Operand} {l h:Option Operand}:bO P ⟨dd,.slice t x l h none,ty,pos,af,g⟩ k s=bU P (aW P ⟨dd,.slice t x l h none,ty,pos,af,g⟩ s) dd k s:=by
 cases l<;>cases h<;>rfl
theorem aTi {x:Operand} {i:Nat}:bO P ⟨dd,.extract x i,ty,pos,af,g⟩ k s=bU P (aW P ⟨dd,.extract x i,ty,pos,af,g⟩ s) dd k s:=rfl
theorem aTj {fn:Fn} {a c:Array Operand}:bO P ⟨dd,.makeFunc fn a c,ty,pos,af,g⟩ k s=bU P (aW P ⟨dd,.makeFunc fn a c,ty,pos,af,g⟩ s) dd k s:=rfl
theorem aTk {t:TypeId} {x:Operand}:bO P ⟨dd,.makeMap t (some x),ty,pos,af,g⟩ k s=bU P (aW P ⟨dd,.makeMap t (some x),ty,pos,af,g⟩ s) dd k s:=rfl
theorem aTl {t:TypeId} {x:Operand}:bO P ⟨dd,.makeInterface t x,ty,pos,af,g⟩ k s=bU P (aW P ⟨dd,.makeInterface t x,ty,pos,af,g⟩ s) dd k s:=rfl
theorem aTm {x:Operand} {xs:Array Operand} {ts:Array TypeId}:bO P ⟨dd,.call ⟨.value x,xs,ts⟩,ty,pos,af,g⟩ k s=bU P (aW P ⟨dd,.call ⟨.value x,xs,ts⟩,ty,pos,af,g⟩ s) dd k s:=rfl
theorem aTn {xs:Array Operand} {ts:Array TypeId}:bO P ⟨dd,.call ⟨.builtin .len,xs,ts⟩,ty,pos,af,g⟩ k s=bU P (aW P ⟨dd,.call ⟨.builtin .len,xs,ts⟩,ty,pos,af,g⟩ s) dd k s:=rfl
theorem aTo {xs:Array Operand} {ts:Array TypeId}:bO P ⟨dd,.call ⟨.builtin .min,xs,ts⟩,ty,pos,af,g⟩ k s=bU P (aW P ⟨dd,.call ⟨.builtin .min,xs,ts⟩,ty,pos,af,g⟩ s) dd k s:=rfl
theorem aTp {xs:Array Operand} {ts:Array TypeId}:bO P ⟨dd,.call ⟨.builtin .max,xs,ts⟩,ty,pos,af,g⟩ k s=bU P (aW P ⟨dd,.call ⟨.builtin .max,xs,ts⟩,ty,pos,af,g⟩ s) dd k s:=rfl
theorem aTq {xs:Array Operand} {ts:Array TypeId}:bO P ⟨dd,.call ⟨.builtin .unsafeSliceData,xs,ts⟩,ty,pos,af,g⟩ k s=bU P (aW P ⟨dd,.call ⟨.builtin .unsafeSliceData,xs,ts⟩,ty,pos,af,g⟩ s) dd k s:=rfl
theorem aTr {xs:Array Operand} {ts:Array TypeId}:bO P ⟨dd,.call ⟨.builtin .cap,xs,ts⟩,ty,pos,af,g⟩ k s=bU P (aW P ⟨dd,.call ⟨.builtin .cap,xs,ts⟩,ty,pos,af,g⟩ s) dd k s:=rfl
theorem aTs {xs:Array Operand} {ts:Array TypeId}:bO P ⟨dd,.call ⟨.builtin .delete,xs,ts⟩,ty,pos,af,g⟩ k s=bU P (aW P ⟨dd,.call ⟨.builtin .delete,xs,ts⟩,ty,pos,af,g⟩ s) dd k s:=rfl
theorem aTt {t yt:TypeId} {x y:Operand}:bO P ⟨dd,.binOp .add t x y yt,ty,pos,af,g⟩ k s=bU P (aW P ⟨dd,.binOp .add t x y yt,ty,pos,af,g⟩ s) dd k s:=rfl
theorem aTu {t yt:TypeId} {x y:Operand}:bO P ⟨dd,.binOp .sub t x y yt,ty,pos,af,g⟩ k s=bU P (aW P ⟨dd,.binOp .sub t x y yt,ty,pos,af,g⟩ s) dd k s:=rfl
theorem aTv {t yt:TypeId} {x y:Operand}:bO P ⟨dd,.binOp .mul t x y yt,ty,pos,af,g⟩ k s=bU P (aW P ⟨dd,.binOp .mul t x y yt,ty,pos,af,g⟩ s) dd k s:=rfl
theorem aTw {t yt:TypeId} {x y:Operand}:bO P ⟨dd,.binOp .quo t x y yt,ty,pos,af,g⟩ k s=bU P (aW P ⟨dd,.binOp .quo t x y yt,ty,pos,af,g⟩ s) dd k s:=rfl
theorem aTx {t yt:TypeId} {x y:Operand}:bO P ⟨dd,.binOp .rem t x y yt,ty,pos,af,g⟩ k s=bU P (aW P ⟨dd,.binOp .rem t x y yt,ty,pos,af,g⟩ s) dd k s:=rfl
theorem aTy {t yt:TypeId} {x y:Operand}:bO P ⟨dd,.binOp .and t x y yt,ty,pos,af,g⟩ k s=bU P (aW P ⟨dd,.binOp .and t x y yt,ty,pos,af,g⟩ s) dd k s:=rfl
theorem aTz {t yt:TypeId} {x y:Operand}:bO P ⟨dd,.binOp .or t x y yt,ty,pos,af,g⟩ k s=bU P (aW P ⟨dd,.binOp .or t x y yt,ty,pos,af,g⟩ s) dd k s:=rfl
theorem aT0 {t yt:TypeId} {x y:Operand}:bO P ⟨dd,.binOp .xor t x y yt,ty,pos,af,g⟩ k s=bU P (aW P ⟨dd,.binOp .xor t x y yt,ty,pos,af,g⟩ s) dd k s:=rfl
theorem aT1 {t yt:TypeId} {x y:Operand}:bO P ⟨dd,.binOp .shl t x y yt,ty,pos,af,g⟩ k s=bU P (aW P ⟨dd,.binOp .shl t x y yt,ty,pos,af,g⟩ s) dd k s:=rfl
theorem aT2 {t yt:TypeId} {x y:Operand}:bO P ⟨dd,.binOp .shr t x y yt,ty,pos,af,g⟩ k s=bU P (aW P ⟨dd,.binOp .shr t x y yt,ty,pos,af,g⟩ s) dd k s:=rfl
theorem aT3 {t yt:TypeId} {x y:Operand}:bO P ⟨dd,.binOp .andNot t x y yt,ty,pos,af,g⟩ k s=bU P (aW P ⟨dd,.binOp .andNot t x y yt,ty,pos,af,g⟩ s) dd k s:=rfl
theorem aT4 {t yt:TypeId} {x y:Operand}:bO P ⟨dd,.binOp .eql t x y yt,ty,pos,af,g⟩ k s=uV (iU P t y (ev s.t x)) P (aW P ⟨dd,.binOp .eql t x y yt,ty,pos,af,g⟩ s) dd k s:=rfl
theorem aT5 {r:Res}:uV false P r dd k s=bU P r dd k s:=rfl
theorem aT6 {r:Res} {d:Nat}:uV true P r (some d) k s=(d<s.n∧W7 fun b=>k (s.put d (bl b))):=rfl
theorem aT7 {t:TypeId} {y:Operand}:iU P t y none=false:=rfl
theorem aT8 {t:TypeId} {y:Operand} {v:Value}:iU P t y (some (.sc v))=false:=rfl
theorem aT9 {t:TypeId} {y:Operand} {v:List AV}:iU P t y (some (.agg v))=false:=rfl
theorem aUa {t:TypeId} {y:Operand} {L lo n:Nat}:iU P t y (some (.ref L lo n))=false:=rfl
theorem aUb {t:TypeId} {y:Operand} {L lo n:Nat}:iU P t y (some (.ptr L lo n))=false:=rfl
theorem aUc {t:TypeId} {y:Operand} {l:Bool} {xs:List AV} {i o:Nat}:iU P t y (some (.iptr l xs i o))=false:=rfl
theorem aUd {t:TypeId} {y:Operand} {f:FuncId} {v:List AV}:iU P t y (some (.clo f v))=false:=rfl
theorem aUe {t:TypeId} {y:Operand} {L:Nat}:iU P t y (some (.mp L))=false:=rfl
theorem aUf {t:TypeId} {y:Operand} {l f:Bool} {x:AV} {xs:List AV}:iU P t y (some (.list l f (x::xs)))=false:=rfl
theorem aUg {t:TypeId} {l f:Bool}:iU P t (.const (.slice none 0 0)) (some (.list l f []))=decide (bP P t=1):=by
 unfold iU
 rw[decide_eq_decide]
 exact⟨fun h=>h.2,fun h=>⟨rfl,h⟩⟩
theorem aUh {t:TypeId} {i:Nat} {a:Option AV}:iU P t (.tmp i) a=false:=by
 unfold iU;split
 ·simp[lB]
 ·rfl
theorem aUi {t yt:TypeId} {x y:Operand}:bO P ⟨dd,.binOp .lss t x y yt,ty,pos,af,g⟩ k s=bU P (aW P ⟨dd,.binOp .lss t x y yt,ty,pos,af,g⟩ s) dd k s:=rfl
theorem aUj {t yt:TypeId} {x y:Operand}:bO P ⟨dd,.binOp .leq t x y yt,ty,pos,af,g⟩ k s=bU P (aW P ⟨dd,.binOp .leq t x y yt,ty,pos,af,g⟩ s) dd k s:=rfl
theorem aUk {t yt:TypeId} {x y:Operand}:bO P ⟨dd,.binOp .gtr t x y yt,ty,pos,af,g⟩ k s=bU P (aW P ⟨dd,.binOp .gtr t x y yt,ty,pos,af,g⟩ s) dd k s:=rfl
theorem aUl {t yt:TypeId} {x y:Operand}:bO P ⟨dd,.binOp .geq t x y yt,ty,pos,af,g⟩ k s=bU P (aW P ⟨dd,.binOp .geq t x y yt,ty,pos,af,g⟩ s) dd k s:=rfl
def fH (r:Option St) (k:ASt→Prop) (z:Prop):Prop:=match r with
 |some r=>r.need∧k r.st
 |none=>z
theorem aUm {n:Bool} {st:ASt} {z:Prop}:fH (some ⟨n,st⟩) k z=(n∧k st):=rfl
theorem aUn {z:Prop}:fH none k z=z:=rfl
def sV (v:Option AV) (d:Nat) (s:ASt):Option St:=match v with
 |some v=>some ⟨decide (d<s.n),s.put d v⟩
 |none=>none
theorem aUo {v:AV}:sV (some v) d s=some ⟨decide (d<s.n),s.put d v⟩:=rfl
theorem aUp:sV none d s=none:=rfl
def yN (b:Bool) (d:Nat) (s:ASt):Option St:=match b with
 |true=>some ⟨decide (d<s.n),s.put d (bl false)⟩
 |false=>none
theorem aUq:yN true d s=some ⟨decide (d<s.n),s.put d (bl false)⟩:=rfl
theorem aUr:yN false d s=none:=rfl
theorem aUs {a b:TypeId} {x:Operand}:bO P ⟨some d,.convert a b x,ty,pos,af,g⟩ k s=fH (sV (oV P a b s.o (ev s.t x)) d s) k (bU P (aW P ⟨some d,.convert a b x,ty,pos,af,g⟩ s) (some d) k s):=by
 simp only[bO,kG,fH,sV];cases oV P a b s.o (ev s.t x)<;>rfl
theorem aUt {t yt:TypeId} {x y:Operand}:bO P ⟨some d,.binOp .neq t x y yt,ty,pos,af,g⟩ k s=fH (yN (mE P t (ev s.t x) (ev s.t y)) d s) k (bU P (aW P ⟨some d,.binOp .neq t x y yt,ty,pos,af,g⟩ s) (some d) k s):=by
 simp only[bO,kG,fH,yN];cases mE P t (ev s.t x) (ev s.t y)<;>rfl
theorem aUu {x y:Operand} {pt it:TypeId}:bO P ⟨some d,.call ⟨.builtin .unsafeString,#[x,y],#[pt,it]⟩,ty,pos,af,g⟩ k s=fH (uS P pt d s (ev s.t x) (ev s.t y)) k (bU P (aW P ⟨some d,.call ⟨.builtin .unsafeString,#[x,y],#[pt,it]⟩,ty,pos,af,g⟩ s) (some d) k s):=by
 simp only[bO,kG,fH];rfl
theorem aUv {t:TypeId}:bO P ⟨some d,.makeMap t none,ty,pos,af,g⟩ k s=(decide (d<s.n)=true∧k (s.renew d d d sK (.mp d))):=rfl
theorem aUw {t:TypeId} {x y:Operand} {b:Bool}:bO P ⟨some d,.lookup t x y b,ty,pos,af,g⟩ k s=fH (xR P t b d s (ev s.t x) (ev s.t y)) k (bU P (aW P ⟨some d,.lookup t x y b,ty,pos,af,g⟩ s) (some d) k s):=by
 simp only[bO,kG,fH];rfl
theorem aUx {t:TypeId} {x y z:Operand}:bO P ⟨none,.mapUpdate t x y z,ty,pos,af,g⟩ k s=fH (uU P t s (ev s.t x) (ev s.t y) (ev s.t z)) k (bU P (aW P ⟨none,.mapUpdate t x y z,ty,pos,af,g⟩ s) none k s):=by
 simp only[bO,kG,fH];rfl
theorem aUy {t:TypeId} {b:Bool} {L:Nat} {v:Value}:xR P t b d s (some (.mp L)) (some (.sc v))=uT P t b d v s (lk s.o L):=rfl
def sW (z:Option AV) (ok:Bool) (m:Option (Option (Nat×AV))):Option AV:=match z,m with
 |some z,some none=>some (if ok=true then .tup [z,bl false]else z)
 |some _,some (some (_,v))=>some (if ok=true then .tup [v,bl true]else v)
 |_,_=>none
theorem aUz {z:AV} {ok:Bool}:sW (some z) ok (some none)=some (if ok=true then .tup [z,bl false]else z):=rfl
theorem aU0 {z v:AV} {ok:Bool} {i:Nat}:sW (some z) ok (some (some (i,v)))=some (if ok=true then .tup [v,bl true]else v):=rfl
theorem aU1 {t:TypeId} {b:Bool} {v:Value} {ar fz pin:Bool} {es kd:Nat} {xs:List AV}:uT P t b d v s (some ⟨ar,fz,pin,es,xs,kd⟩)=if gN P t v=true then sV (sW (qX P t) b (kE v xs 0)) d s else none:=by
 simp only[uT,sV]
 have e:uM P t v b xs=sW (qX P t) b (kE v xs 0):=by
  unfold uM sW
  cases qX P t with
  |none=>rfl
  |some z=>cases kE v xs 0 with
   |none=>rfl
   |some q=>cases q<;>rfl
 rw[e]
 cases sW (qX P t) b (kE v xs 0)<;>rfl
def I3 (r:Option ASt):Option St:=match r with
 |some r=>some ⟨true,r⟩
 |none=>none
theorem aU2 {r:ASt}:I3 (some r)=some ⟨true,r⟩:=rfl
def I4 (P:Program) [Glob P] (t:TypeId) (L:Nat) (v:Value) (r:Option (ASt×AV)):Option ASt:=match r with
 |some (s1,v1)=>match lk s1.o L with
  |some x=>if gN P t v=true∧x.kd=1∧x.fz=false∧v1.pure=true then match oT v v1 x.xs with
   |some ys=>if ys.length≤cK then some {s1 with o:=cF s1.o L {x with xs:=ys}} else none
   |none=>none
   else none
  |none=>none
 |none=>none
def I5 (P:Program) [Glob P] (t:TypeId) (L:Nat) (v:Value) (s1:ASt) (v1:AV) (x:Option AObj):Option ASt:=match x with
 |some x=>if gN P t v=true∧x.kd=1∧x.fz=false∧v1.pure=true then match oT v v1 x.xs with
  |some ys=>if ys.length≤cK then some {s1 with o:=cF s1.o L {x with xs:=ys}} else none
  |none=>none
  else none
 |none=>none
def I6 (L:Nat) (s1:ASt) (x:AObj) (ys:Option (List AV)):Option ASt:=match ys with
 |some ys=>if ys.length≤cK then some {s1 with o:=cF s1.o L {x with xs:=ys}} else none
 |none=>none
theorem aU3 {t:TypeId} {L:Nat} {v:Value} {b:AV}:uU P t s (some (.mp L)) (some (.sc v)) (some b)=I3 (I4 P t L v (share s b)):=by
 simp only[uU,I3,xJ,I4]
 cases share s b with
 |none=>rfl
 |some q=>
  obtain⟨s1,v1⟩:=q
  simp only
  cases lk s1.o L with
  |none=>rfl
  |some x=>
   simp only
   split
   ·cases oT v v1 x.xs with
    |none=>rfl
    |some ys=>simp only;split<;>rfl
   ·rfl
theorem aU4 {t:TypeId} {L:Nat} {v:Value} {s1:ASt} {v1:AV}:I4 P t L v (some (s1,v1))=I5 P t L v s1 v1 (lk s1.o L):=rfl
theorem aU5 {t:TypeId} {L:Nat} {v:Value} {s1:ASt} {v1:AV} {ar pin:Bool} {es:Nat} {xs:List AV}:I5 P t L v s1 v1 (some ⟨ar,false,pin,es,xs,1⟩)=if gN P t v=true∧v1.pure=true then I6 L s1 ⟨ar,false,pin,es,xs,1⟩ (oT v v1 xs)else none:=by
 simp only[I5,I6,true_and]
theorem aU6 {L:Nat} {s1:ASt} {x:AObj} {ys:List AV}:I6 L s1 x (some ys)=if ys.length≤cK then some {s1 with o:=cF s1.o L {x with xs:=ys}} else none:=rfl
theorem aU7:sK=⟨true,false,false,0,[],1⟩:=rfl
theorem aU8 {t:TypeId} {x y:Operand}:bO P ⟨some d,.makeSlice t x y,ty,pos,af,g⟩ k s=fH (pY P t d s (ev s.t x) (ev s.t y)) k (bU P (aW P ⟨some d,.makeSlice t x y,ty,pos,af,g⟩ s) (some d) k s):=by
 simp only[bO,kG,fH];rfl
def yO (P:Program) [Glob P] (d:Nat) (s:ASt) (l c:Int) (e es b:Nat) (z:Option AV):Option St:=match z with
 |some z=>if z.pure=true∧z.cells.length=es then some ⟨decide (d<s.n∧0≤l∧l≤c∧(b:Int)*c≤281474976710656∧c≤140737488355328),s.fresh d (cD es (List.replicate l.toNat z)) (.ref d 0 l.toNat)⟩else none
 |none=>none
def I7 (P:Program) [Glob P] (d:Nat) (s:ASt) (l c:Int):Option (TypeId×Nat×Nat)→Option St
 |some (e,es,b)=>yO P d s l c e es b (aQ P e)
 |none=>none
theorem aU9 {l c:Int} {e es b:Nat}:I7 P d s l c (some (e,es,b))=yO P d s l c e es b (aQ P e):=rfl
theorem aVa {l c:Int} {e es b:Nat} {z:AV}:yO P d s l c e es b (some z)=if z.pure=true∧z.cells.length=es then some ⟨decide (d<s.n∧0≤l∧l≤c∧(b:Int)*c≤281474976710656∧c≤140737488355328),s.fresh d (cD es (List.replicate l.toNat z)) (.ref d 0 l.toNat)⟩else none:=rfl
theorem aVb {t:TypeId} {kl kc:IntKind} {l c:Int}:pY P t d s (some (.sc (.int kl l))) (some (.sc (.int kc c)))=I7 P d s l c (bK P t):=by
 simp only[pY]
 cases bK P t with
 |none=>rfl
 |some q=>obtain⟨e,es,b⟩:=q;simp only[I7,yO];cases aQ P e<;>rfl
theorem aVc {x:Operand} {t:TypeId}:bO P ⟨none,.call ⟨.builtin .clear,#[x],#[t]⟩,ty,pos,af,g⟩ k s=fH (sL P t s (ev s.t x)) k (bU P (aW P ⟨none,.call ⟨.builtin .clear,#[x],#[t]⟩,ty,pos,af,g⟩ s) none k s):=by
 simp only[bO,kG,fH];rfl
def yP (s:ASt) (L lo n es:Nat):Option AV→Option AObj→Option St
 |some z,some x=>if x.arr=true∧x.fz=false∧x.kd≠1∧z.pure=true∧z.cells.length=es then
  some ⟨decide (x.es=es∧lo+n≤x.xs.length),{s with o:=cF s.o L {x with xs:=splice x.xs (List.replicate n z) lo}}⟩else none
 |_,_=>none
def I8 (P:Program) [Glob P] (s:ASt) (L lo n:Nat):Option (TypeId×Nat×Nat)→Option St
 |some (e,es,_)=>yP s L lo n es (aQ P e) (lk s.o L)
 |none=>none
theorem aVd {x y:Operand} {st xt:TypeId}:bO P ⟨some d,.call ⟨.builtin .append,#[x,y],#[st,xt]⟩,ty,pos,af,g⟩ k s=fH (pZ P st xt d s (ev s.t x) (ev s.t y)) k (bU P (aW P ⟨some d,.call ⟨.builtin .append,#[x,y],#[st,xt]⟩,ty,pos,af,g⟩ s) (some d) k s):=by
 simp only[bO,kG,fH];rfl
theorem aVe {t:TypeId} {x l h m:Operand}:bO P ⟨some d,.slice t x (some l) (some h) (some m),ty,pos,af,g⟩ k s=fH (xS P t d s (ev s.t x) (ev s.t l) (ev s.t h) (ev s.t m)) k (bU P (aW P ⟨some d,.slice t x (some l) (some h) (some m),ty,pos,af,g⟩ s) (some d) k s):=by
 simp only[bO,kG,fH];rfl
theorem aVf {st xt:TypeId} {l f:Bool} {xs:List AV} {b:Option AV}:pZ P st xt d s (some (.list l f xs)) b=none:=rfl
theorem aVg {st xt:TypeId} {L lo n:Nat} {b:Option AV}:pZ P st xt d s (some (.ref L lo n)) b=none:=rfl
theorem aVh {st xt:TypeId} {v:Value} {b:Option AV}:pZ P st xt d s (some (.sc v)) b=none:=rfl
theorem aVi {st xt:TypeId} {L lo n c:Nat} {v:Value}:pZ P st xt d s (some (.rc L lo n c)) (some (.sc v))=none:=rfl
def apC (d:Nat) (s:ASt) (L lo n c:Nat):Option (TypeId×Nat×Nat)→Bool→Option (List AV)→Option AObj→Option St
 |some (_,es,_),true,some ys,some x=>if x.arr=true∧x.fz=false∧x.kd≠1 then
  some ⟨decide (d<s.n∧(∀y∈ys,y.cells.length=es)∧x.es=es∧n+ys.length≤x.xs.length∧lo=0∧n+ys.length≤c),{s with o:=cF s.o L {x with xs:=splice x.xs ys n}}.put d (.rc L 0 (n+ys.length) c)⟩else none
 |_,_,_,_=>none
theorem aVj {st xt:TypeId} {L lo n c L' lo' n' c':Nat}:pZ P st xt d s (some (.rc L lo n c)) (some (.rc L' lo' n' c'))=apC d s L lo n c (bK P st) (fB P xt) (gA s.o (.rc L' lo' n' c')) (lk s.o L):=rfl
theorem aVk {L lo n c e es bt:Nat} {ys:List AV} {x:AObj}:apC d s L lo n c (some (e,es,bt)) true (some ys) (some x)=if x.arr=true∧x.fz=false∧x.kd≠1 then
 some ⟨decide (d<s.n∧(∀y∈ys,y.cells.length=es)∧x.es=es∧n+ys.length≤x.xs.length∧lo=0∧n+ys.length≤c),{s with o:=cF s.o L {x with xs:=splice x.xs ys n}}.put d (.rc L 0 (n+ys.length) c)⟩else none:=rfl
theorem aVl {t:TypeId} {L lo n:Nat}:sL P t s (some (.ref L lo n))=nK P t s (some (.ref L lo n)):=rfl
def I9 (n:Nat) (z:Option St):Option AObj→Option St
 |some x=>if n≤x.xs.length then z else none
 |none=>none
theorem aVm {t:TypeId} {L lo n c:Nat}:sL P t s (some (.rc L lo n c))=I9 (lo+n) (nK P t s (some (.ref L lo n))) (lk s.o L):=rfl
theorem aA8 {n:Nat} {z:Option St} {x:AObj} (h:n≤x.xs.length):I9 n z (some x)=z:=if_pos h
def s3 (d:Nat) (s:ASt) (b c:Nat) (l h m:Int):Option (TypeId×Nat×Nat)→Option St
 |some _=>some ⟨decide (d<s.n∧0≤l∧l≤h∧h≤m∧(b:Int)+m≤c),s.put d .dead⟩
 |none=>none
theorem aVn {t:TypeId} {L b n c:Nat} {k1 k2 k3:IntKind} {l h m:Int}:xS P t d s (some (.rc L b n c)) (some (.sc (.int k1 l))) (some (.sc (.int k2 h))) (some (.sc (.int k3 m)))=s3 d s b c l h m (bK P t):=rfl
theorem aVo {b c:Nat} {l h m:Int} {q:TypeId×Nat×Nat}:s3 d s b c l h m (some q)=some ⟨decide (d<s.n∧0≤l∧l≤h∧h≤m∧(b:Int)+m≤c),s.put d .dead⟩:=rfl
theorem aVp {t:TypeId} {L lo n:Nat}:nK P t s (some (.ref L lo n))=I8 P s L lo n (bK P t):=by
 simp only[nK]
 cases bK P t with
 |none=>rfl
 |some q=>obtain⟨e,es,b⟩:=q;simp only[I8,yP];cases aQ P e<;>cases lk s.o L<;>rfl
theorem aVq {L lo n:Nat} {e es b:Nat}:I8 P s L lo n (some (e,es,b))=yP s L lo n es (aQ P e) (lk s.o L):=rfl
theorem aVr {L lo n es:Nat} {z:AV} {x:AObj}:yP s L lo n es (some z) (some x)=if x.arr=true∧x.fz=false∧x.kd≠1∧z.pure=true∧z.cells.length=es then
 some ⟨decide (x.es=es∧lo+n≤x.xs.length),{s with o:=cF s.o L {x with xs:=splice x.xs (List.replicate n z) lo}}⟩else none:=rfl
theorem aVs {x y:Operand} {pt it:TypeId}:bO P ⟨some d,.call ⟨.builtin .copy,#[x,y],#[pt,it]⟩,ty,pos,af,g⟩ k s=fH (qZ P pt d s (ev s.t x) (ev s.t y)) k (bU P (aW P ⟨some d,.call ⟨.builtin .copy,#[x,y],#[pt,it]⟩,ty,pos,af,g⟩ s) (some d) k s):=by
 simp only[bO,kG,fH];rfl
def yS (d:Nat) (s:ASt) (L lo n:Nat) (es:Nat) (ys:List AV):Option AObj→Option St
 |some x=>if x.arr=true∧x.fz=false∧x.kd≠1 then
  some ⟨decide (d<s.n∧(∀y∈ys,y.cells.length=es)∧x.es=es∧ys.length≤n∧(ys≠ []∨lo=0)∧lo+n≤x.xs.length),{s with o:=cF s.o L {x with xs:=splice x.xs ys lo}}.put d (nt .i64 ys.length)⟩
  else none
 |none=>none
def J0 (d:Nat) (s:ASt) (L lo n:Nat) (t:Option (TypeId×Nat×Nat)) (r:Option (List AV)):Option St:=match t,r with
 |some (_,es,_),some ys=>yS d s L lo n es ys (lk s.o L)
 |_,_=>none
theorem aVt {t:TypeId} {L lo n:Nat} {b:AV}:qZ P t d s (some (.ref L lo n)) (some b)=J0 d s L lo n (bK P t) (gA s.o b):=by
 simp only[qZ,uN,J0]
 cases bK P t with
 |none=>rfl
 |some q=>
  obtain⟨e,es,b'⟩:=q
  cases gA s.o b with
  |none=>rfl
  |some ys=>simp only;cases lk s.o L<;>rfl
theorem aVu {L lo n e es b:Nat} {ys:List AV}:J0 d s L lo n (some (e,es,b)) (some ys)=yS d s L lo n es ys (lk s.o L):=rfl
theorem aVv {L lo n es kd:Nat} {ys xs:List AV} {pin:Bool} {e:Nat}:yS d s L lo n es ys (some ⟨true,false,pin,e,xs,kd⟩)=if kd≠1 then
 some ⟨decide (d<s.n∧(∀y∈ys,y.cells.length=es)∧e=es∧ys.length≤n∧(ys≠ []∨lo=0)∧lo+n≤xs.length),{s with o:=cF s.o L ⟨true,false,pin,e,splice xs ys lo,kd⟩}.put d (nt .i64 ys.length)⟩else none:=by
 simp only[yS,true_and]
theorem aVw {a b:TypeId} {o:aF} {v:Value}:oV P a b o (some (.sc v))=none:=rfl
theorem aVx {a b:TypeId} {o:aF} {l f:Bool} {xs:List AV}:oV P a b o (some (.list l f xs))=none:=rfl
theorem aVy {a b:TypeId} {o:aF} {L lo n:Nat}:oV P a b o (some (.ref L lo n))=uQ P a b (gW o (.ref L lo n)):=rfl
def aA9:Option (List UInt8)→Option AV
 |some l=>some (.sc (.string ⟨l.toArray⟩))
 |none=>none
theorem aVz {l:List UInt8}:aA9 (some l)=some (.sc (.string ⟨l.toArray⟩)):=rfl
theorem aV0 {a b:TypeId} {ys:List AV}:uQ P a b (some ys)=if uP P a b=true then aA9 (bytesOf ys)else none:=by
 simp only[uQ];cases bytesOf ys<;>rfl
theorem aV1:bytesOf []=some []:=rfl
theorem aV2 {n:Int} {r:List AV}:bytesOf (.sc (.int .u8 n)::r)=if 0≤n∧n<256 then(bytesOf r).map (UInt8.ofNat n.toNat:: ·)else none:=rfl
theorem aV3 {n:Int} {r:List AV}:bytesOf (nt .u8 n::r)=if 0≤n∧n<256 then(bytesOf r).map (UInt8.ofNat n.toNat:: ·)else none:=rfl
attribute [go_sem] uP aVz aV0 aV1 aV2 aV3
theorem aV4 {a b:TypeId} {o:aF} {cs:List AV}:oV P a b o (some (.agg cs))=none:=rfl
theorem aV5 {a b:TypeId} {o:aF} {L:Nat}:oV P a b o (some (.ptr L 0 0))=uO P a b L (lk o L):=rfl
theorem aV6 {a b:TypeId} {L:Nat} {fz pin:Bool} {es e:Nat} {xs:List AV}:uO P a b L (some ⟨false,fz,pin,es+1,xs,e+2⟩)=if E1 P a b e (es+1)=true then some (.ptr L 0 0)else none:=by
 simp[uO]
theorem aV7 {t:TypeId} {v:Value} {y:Option AV}:mE P t (some (.sc v)) y=false:=rfl
theorem aV8 {t:TypeId} {l f:Bool} {xs:List AV} {y:Option AV}:mE P t (some (.list l f xs)) y=false:=rfl
theorem aV9 {t:TypeId} {cs:List AV} {y:Option AV}:mE P t (some (.agg cs)) y=false:=rfl
theorem aWa {t:TypeId} {L lo n:Nat} {y:Option AV}:mE P t (some (.ref L lo n)) y=false:=rfl
theorem aWb {t:TypeId} {f:FuncId} {cs:List AV} {y:Option AV}:mE P t (some (.clo f cs)) y=false:=rfl
theorem aWc {t:TypeId} {l:Bool} {xs:List AV} {i o:Nat} {y:Option AV}:mE P t (some (.iptr l xs i o)) y=false:=rfl
theorem aWd {t:TypeId} {L i o:Nat} {v:Value}:mE P t (some (.ptr L i o)) (some (.sc v))=false:=rfl
theorem aWe {t:TypeId} {L i o L' i' o':Nat}:mE P t (some (.ptr L i o)) (some (.ptr L' i' o'))=(decide (L=L'∧i=i'∧o=o')&&E2 P t):=rfl
theorem aWf {pt:TypeId} {v:Value} {y:Option AV}:uS P pt d s (some (.sc v)) y=none:=rfl
theorem aWg {pt:TypeId} {L:Nat} {m:Int}:uS P pt d s (some (.ptr L 0 0)) (some (.sc (.int .i64 m)))=uR P pt L d m s (lk s.o L):=rfl
theorem aWh {st xt:TypeId} {l f:Bool} {xs:List AV} {b:AV}:nH P st xt (.list l f xs) b d s=oR P st xt (.list l f xs) b d s:=rfl
theorem aWi {st xt:TypeId} {L lo n:Nat} {b:AV}:nH P st xt (.ref L lo n) b d s=oR P st xt (.ref L lo n) b d s:=rfl
attribute [go_sem] aT5 aT6 aT7 aT8 aT9 aUa aUb aUc aUd aUe aUf aUg aUh
attribute [go_sem] aVe aVf aVg aVh aVi aVj aVk aVl aVm aA8 aVn aVo
attribute [go_sem] aS2 aS3 aS4 aS5 aS6 aS7 aS8 aS9 aTa aTb aTc aTd aTe aTf aTg aTh aTi aTj aUv aTk aUy aUz aU0 aU1 aU2 aU3 aU4 aU5 aU6 aU7 aU8 aU9 aVa aVb aTl aUw aUx aTm aTn aVd aTo aTp aTq aVs aVt aVu aVv aTr aVc aVp aVq aVr aTs aTt aTu aTv aTw aTx aTy aTz aT0 aT1 aT2 aT3 aT4 aUi aUj aUk aUl aUm aUn aUo aUp aUq aUr aUs aUt aUu aVw aVx aVy aV4 aV5 aV6 aV7 aV8 aV9 aWa aWb aWc aWd aWe aWf aWg aWh aWi
end asteps
end
end Go.Ab
namespace Go.Ab
open Go.RowKit
mutual
def AV.okIn (o:aF):AV→Bool
 | .agg cs=>AV.okInL o cs
 | .tup cs=>AV.okInL o cs
 | .clo _ cs=>AV.okInL o cs
 | .ref L _ _=>(lk o L).isSome
 | .ptr L _ _=>(lk o L).isSome
 | .aref L _ _ _ _=>(lk o L).isSome
 | .mp L=>(lk o L).isSome
 | .yl L=>(lk o L).isSome
 | .rc L _ _ _=>(lk o L).isSome
 |_=>true
def AV.okInL (o:aF):List AV→Bool
 | []=>true
 |a::r=>a.okIn o&&AV.okInL o r
end
mutual
theorem aBa {o:aF} {L:Nat}: ∀{a:AV},a.okIn o=true→a.has L=true→(lk o L).isSome=true
 | .agg cs,h,hh=>by simp only[AV.okIn]at h;simp only[AV.has]at hh;exact vK h hh
 | .tup cs,h,hh=>by simp only[AV.okIn]at h;simp only[AV.has]at hh;exact vK h hh
 | .clo g cs,h,hh=>by simp only[AV.okIn]at h;simp only[AV.has]at hh;exact vK h hh
 | .ref L' _ _,h,hh=>by simp[AV.has]at hh;subst hh;simpa[AV.okIn]using h
 | .ptr L' _ _,h,hh=>by simp[AV.has]at hh;subst hh;simpa[AV.okIn]using h
 | .aref L' _ _ _ _,h,hh=>by simp[AV.has]at hh;subst hh;simpa[AV.okIn]using h
 | .mp L',h,hh=>by simp[AV.has]at hh;subst hh;simpa[AV.okIn]using h
 | .yl L',h,hh=>by simp[AV.has]at hh;subst hh;simpa[AV.okIn]using h
 | .rc L' _ _ _,h,hh=>by simp[AV.has]at hh;subst hh;simpa[AV.okIn]using h
 | .lh _,_,hh=>by simp[AV.has]at hh
 | .sc _,_,hh=>by simp[AV.has]at hh
 | .list _ _ _,_,hh=>by simp[AV.has]at hh
 | .iptr _ _ _ _,_,hh=>by simp[AV.has]at hh
 | .own _ _,_,hh=>by simp[AV.has]at hh
 | .dead,_,hh=>by simp[AV.has]at hh
theorem vK {o:aF} {L:Nat}: ∀{cs:List AV},AV.okInL o cs=true→AV.hasL L cs=true→(lk o L).isSome=true
 | [],_,hh=>by simp[AV.hasL]at hh
 |c::cs,h,hh=>by
  simp only[AV.okInL,Bool.and_eq_true]at h
  simp only[AV.hasL,Bool.or_eq_true]at hh
  rcases hh with hh|hh
  ·exact aBa h.1 hh
  ·exact vK h.2 hh
end
theorem nS {α:Type}: ∀{l:List (Nat×α)} {i:Nat} {a:α},lk l i=some a→(i,a)∈l
 | [],i,a,h=>by simp[lk]at h
 |(k,b)::l,i,a,h=>by
  simp only[lk]at h
  by_cases hk:k=i
  ·subst hk;rw[if_pos rfl]at h;obtain rfl:=Option.some.inj h;simp
  ·rw[if_neg hk]at h;simp[nS h]
def rF (o:aF) (x:AObj):Bool:=x.arr||AV.okInL o x.xs
theorem Le.sub {s0 s:ASt} (hn:s0.n=s.n) (ht: ∀p∈s0.t,lk s.t p.1=some p.2) (ho: ∀p∈s0.o,lk s.o p.1=some p.2) (hr: ∀p∈s0.t,p.2.okIn s0.o=true) (hb: ∀p∈s0.o,rF s0.o p.2=true):Le s0 s:=by
 intro C F μ a w hs
 have hlo: ∀L x,lk s0.o L=some x→lk s.o L=some x:=fun L x hx=>ho _ (nS hx)
 have hloc: ∀L,(lk s0.o L).isSome=true→aG s0.o μ L=aG s.o μ L:=fun L hL=>by
  obtain⟨x,hx⟩:=Option.isSome_iff_exists.1 hL
  simp[aG,hx,hlo L x hx]
 refine⟨F,μ,⟨hs.sw.facts,hs.sw.sub,hs.sw.lentc,hs.sw.grow,hs.sw.newf,hs.sw.fr,fun L x hx=>?_,fun L x L' x' b c c' hx hx'=>hs.sw.dist L x L' x' b c c' (hlo L x hx) (hlo L' x' hx'),
  fun L x b c hx=>hs.sw.excl L x b c (hlo L x hx),fun L x b c hx=>hs.sw.mine L x b c (hlo L x hx),fun L x x0 h0 hx=>hs.sw.keep L x x0 h0 (hlo L x hx)⟩,hs.defers,by rw[hn];exact hs.n,fun i x hx=>?_⟩
 ·have:=hs.sw.obj L x (hlo L x hx)
  cases hm:μ L with
  |none=>rw[hm]at this;exact this
  |some p=>
   obtain⟨b,cap⟩:=p
   rw[hm]at this
   cases harr:x.arr with
   |true=>
    rcases this with⟨c,e,q1,q2,q3,q4,q5,q6,q7⟩|this|⟨_,k2,_⟩
    rotate_left
    ·exact .inr (.inl this)
    ·rw[harr]at k2;cases k2
    refine .inl ⟨c,e,q1,q2,q3,q4,q5,fun i y j a hy hj=>?_,q7⟩
    obtain⟨v,g1,g2,g3,g4⟩:=q6 i y j a hy hj
    rw[harr]at g3
    exact⟨v,g1,g2,by rw[harr];exact g3,g4⟩
   |false=>
    refine this.congr rfl (FLe.refl _) fun L' hL'=>hloc L' ?_
    have:=hb _ (nS hx)
    simp[rF,harr]at this
    exact vK this hL'
 ·have hx':=ht _ (nS hx)
  exact(hs.slot i x hx').congr (FLe.refl _) fun L hL=>hloc L (aBa (hr _ (nS hx)) hL)
theorem Le.nil {s:ASt} {i T es:Nat} {l:Bool} (h:lk s.t i=some (.list l true [])):Le {n:=s.n,t:=(i,.ref T 0 0)::eS T (eS T s.t),o:=(T,cD es [])::killO T (killO T (eF s.o T))} s:=by
 intro C F μ a w hs
 have h1:=hs.renew0 (L:=T) (T:=T) (x:=cD es []) (p:=none) rfl rfl rfl (Fr.refl _ _) (by rfl) (fun b c hbc=>by cases hbc)
 refine⟨F,bN μ T none,h1.sw,h1.defers,h1.n,fun j x hx=>?_⟩
 simp only[lk]at hx
 by_cases hij:i=j
 ·subst hij
  rw[if_pos rfl]at hx
  obtain rfl:=Option.some.inj hx
  have hv:=hs.slot i _ h
  generalize a.tmps.getD i undef=v at hv
  have hl:aG ((T,cD es [])::killO T (killO T (eF s.o T))) (bN μ T none) T=some ⟨none,es,0,false⟩:=by simp[aG,lk,bN,cD,bV]
  cases hv with
  |nil=>exact .refNil hl
  |list g1 g2 g3 g4=>
   have:=g4 rfl
   simp at this
   subst this
   exact .refNil hl
 ·rw[if_neg hij]at hx
  exact h1.slot j x hx
theorem Le.move {s:ASt} {i T T' lo n:Nat} {x:AObj} (h:lk s.t i=some (.ref T lo n)) (hk:x.kd≠1) (hx:lk s.o T=some x) (ha:x.arr=true) (hz:x.fz=false):
 Le {n:=s.n,t:=(i,.ref T' lo n)::eS T (eS T' s.t),o:=(T',{x with pin:=false})::killO T (killO T' (eF s.o T))} s:=by
 intro C F μ a w hs
 have ho:=hs.sw.obj T x hx
 have h1:=hs.renew0 (L:=T) (T:=T') (x:= {x with pin:=false}) (p:=μ T) hz rfl ha (Fr.refl _ _) (by
  cases hm:μ T with
  |none=>rw[hm]at ho;exact ho
  |some q=>
   obtain⟨b,cap⟩:=q
   rw[hm]at ho
   obtain⟨c,e,q1,q2,q3,q4,q5,q6,q7⟩:=ObjAt.std ho hk
   refine .inl ⟨c,e,q1,q2,q3,q4,q5,fun i y j a hy hj=>?_,q7⟩
   obtain⟨v,g1,g2,g3,g4⟩:=q6 i y j a hy hj
   rw[ha]at g3
   exact⟨v,g1,g2,by show RV (oF x.arr F) (oL x.arr bJ) a v;rw[ha];exact g3,g4⟩) (fun b c hbc=> .inr ⟨x,c,hx,hz,hbc⟩)
 refine⟨F,bN μ T' (μ T),h1.sw,h1.defers,h1.n,fun j y hy=>?_⟩
 simp only[lk]at hy
 by_cases hij:i=j
 ·subst hij
  rw[if_pos rfl]at hy
  obtain rfl:=Option.some.inj hy
  have hv:=hs.slot i _ h
  generalize a.tmps.getD i undef=v at hv
  have hl0:aG s.o μ T=some ⟨μ T,x.es,x.xs.length,false⟩:=by simp[aG,hx,jY hk]
  have hl:aG ((T',{x with pin:=false})::killO T (killO T' (eF s.o T))) (bN μ T' (μ T)) T'=some ⟨μ T,x.es,x.xs.length,false⟩:=by simp[aG,lk,bN,bV,hk]
  rcases Z5 hv hl0 with⟨hm,rfl,rfl,q,rfl⟩|⟨b,cap,o,c,hm,rfl,g1,g2,g3,g4⟩
  ·simp only at hm
   exact .refNil (hl.trans (by rw[hm]))
  ·simp only at hm
   exact .ref (hl.trans (by rw[hm])) g1 g2 g3 g4
 ·rw[if_neg hij]at hy
  exact h1.slot j y hy
theorem AWp.bound {P c Q} [Glob P] {s:ASt} {i:Nat} {l f:Bool} {xs:List AV} (h:lk s.t i=some (.list l f xs)) (k:xs.length≤cK→AWp none P c Q s):AWp none P c Q s:=by
 intro C _ F μ a w hm hs
 refine k ?_ C F μ a w hm hs
 have hv:=hs.slot i _ h
 generalize a.tmps.getD i undef=v at hv
 cases hv with
 |nil=>simp
 |list g1 g2 g3=>exact g3
theorem ACall.bound {P f} [Glob P] {args:List AV} {R:AV→Prop} {i:Nat} {l fl:Bool} {xs:List AV} (h:args[i]?=some (.list l fl xs)) (hc: ∀cargs w,(callFunc f cargs).run P w= .ok (.enter f cargs) w) (k:xs.length≤cK→ACall P f args R):ACall P f args R:=by
 refine⟨hc,fun w F cargs h0 h1 h2 h3=>?_⟩
 have hi:i<cargs.size:=by rw[←h2];exact(List.getElem?_eq_some_iff.1 h).1
 refine(k ?_).2 w F cargs h0 h1 h2 h3
 have hv:=h3 i _ cargs[i] h (by simp[hi])
 generalize cargs[i]=v at hv
 cases hv with
 |nil=>simp
 |list g1 g2 g3=>exact g3
theorem aWj {o:aF} {v:Value}:(AV.sc v).okIn o=true:=rfl
theorem aWk {o:aF} {l f:Bool} {xs:List AV}:(AV.list l f xs).okIn o=true:=rfl
theorem aWl {o:aF} {l:Bool} {xs:List AV} {i k:Nat}:(AV.iptr l xs i k).okIn o=true:=rfl
theorem aWm {o:aF}:AV.dead.okIn o=true:=rfl
theorem aWn {o:aF} {L a b:Nat}:(AV.ref L a b).okIn o=(lk o L).isSome:=rfl
theorem aWo {o:aF} {L a b:Nat}:(AV.ptr L a b).okIn o=(lk o L).isSome:=rfl
theorem aWp {o:aF} {L:Nat}:(AV.mp L).okIn o=(lk o L).isSome:=rfl
theorem aWq {o:aF} {cs:List AV}:(AV.agg cs).okIn o=AV.okInL o cs:=by simp[AV.okIn]
theorem aWr {o:aF} {cs:List AV}:(AV.tup cs).okIn o=AV.okInL o cs:=by simp[AV.okIn]
theorem aWs {o:aF} {g:FuncId} {cs:List AV}:(AV.clo g cs).okIn o=AV.okInL o cs:=by simp[AV.okIn]
theorem aWt {o:aF}:AV.okInL o []=true:=rfl
theorem aWu {o:aF} {a:AV} {r:List AV}:AV.okInL o (a::r)=(a.okIn o&&AV.okInL o r):=by simp[AV.okInL]
theorem aWv {o:aF} {fz pin:Bool} {es kd:Nat} {xs:List AV}:rF o ⟨true,fz,pin,es,xs,kd⟩=true:=rfl
theorem aWw {o:aF} {fz pin:Bool} {es kd:Nat} {xs:List AV}:rF o ⟨false,fz,pin,es,xs,kd⟩=AV.okInL o xs:=rfl
attribute [go_sem] aWj aWk aWl aWm aWn aWo aWq aWp aWr aWs aWt aWu aWv aWw Option.isSome_some
theorem J1 {P:Program} [Glob P] {b:Code} {Q:Exit→ASt→Prop} {s:ASt} (I:Nat→ASt→Prop) (n:Nat) (s0:ASt) (hle:Le s0 s) (h0:I n s0) (hr: ∀n s,I n s→bY P b (mG (Again I n) Q) s):bY P (.loop b) Q s:=⟨I,⟨n,s0,hle,h0⟩,hr⟩
theorem Again.mk {I:Nat→ASt→Prop} {n:Nat} {s:ASt} (n':Nat) (s0:ASt) (hn:n'<n) (hle:Le s0 s) (h:I n' s0):Again I n s:=⟨n',s0,hn,hle,h⟩
end Go.Ab
namespace Go.Ab
open Go.RowKit
theorem AWp.post {ro P c} [Glob P] {Q Q':Exit→ASt→Prop} {s:ASt} (h:AWp ro P c Q s) (hq: ∀e s,Q e s→ ∃s0,Le s0 s∧Q' e s0):AWp ro P c Q' s:=fun C _ F μ a w hm hs=>
 wpIn_mono (h C F μ a w hm hs) fun e a' w' ⟨F',μ',s',h1,hm',h2⟩=>by
  obtain⟨s0,h3,h4⟩:=hq e s' h1
  obtain⟨F2,μ2,h5⟩:=h3 _ F' μ' a' w' h2
  exact⟨F2,μ2,s0,h4,hm',h5⟩
theorem AWp.seq {ro P x y} [Glob P] {Q:Exit→ASt→Prop} {s:ASt} (h:AWp ro P x (mG (AWp ro P y Q) Q) s):AWp ro P (.seq x y) Q s:=fun C _ F μ a w hm hs=>by
 refine wpIn_seq (wpIn_mono (h C F μ a w hm hs) ?_)
 rintro e a' w' ⟨F',μ',s',hq,hm',hs'⟩
 cases e with
 |normal=>exact hq C F' μ' a' w' hm' hs'
 |_=>exact⟨F',μ',s',hq,hm',hs'⟩
theorem AWp.cond {ro P c x y} [Glob P] {Q:Exit→ASt→Prop} {s:ASt} {b:Bool} (hb:ev s.t c=some (.sc (.bool b))) (h:AWp ro P (if b=true then x else y) Q s):AWp ro P (.cond c x y) Q s:=fun C _ F μ a w hm hs=>by
 have hrv:=dH hs c _ hb
 generalize hv:a.eval c=v at hrv
 cases hrv
 cases b with
 |true=>exact wpIn_cond_true hv (h C F μ a w hm hs)
 |false=>exact wpIn_cond_false hv (h C F μ a w hm hs)
theorem AWp.block {ro P id b} [Glob P] {Q:Exit→ASt→Prop} {s:ASt} (h:AWp ro P b (qF id Q) s):AWp ro P (.block id b) Q s:=fun C _ F μ a w hm hs=>by
 refine wpIn_block (wpIn_mono (h C F μ a w hm hs) ?_)
 rintro e a' w' ⟨F',μ',s',hq,hm',hs'⟩
 cases e with
 |exit id'=>
  simp only[Exit.inBlock]
  simp only[qF]at hq
  split
  ·rename_i hid;rw[if_pos hid]at hq;exact⟨F',μ',s',hq,hm',hs'⟩
  ·rename_i hid;rw[if_neg hid]at hq;exact⟨F',μ',s',hq,hm',hs'⟩
 |_=>exact⟨F',μ',s',hq,hm',hs'⟩
theorem AWp.loop {ro P b} [Glob P] {Q:Exit→ASt→Prop} (I:Nat→ASt→Prop) {n:Nat} {s:ASt} (h0:I n s) (hr: ∀n s,I n s→AWp ro P b (mG (fun s=> ∃n',n'<n∧I n' s) Q) s):AWp ro P (.loop b) Q s:=fun C _ F μ a w hm hs=>by
 refine Z3 (fun n a w=> ∃F μ s,I n s∧Mk C w a.defers∧SR (C.at a.defers) F μ s a w) n ⟨F,μ,s,h0,hm,hs⟩ ?_
 rintro n a w ⟨F,μ,s,hI,hm,hs⟩
 refine wpIn_mono (hr n s hI C F μ a w hm hs) ?_
 rintro e a' w' ⟨F',μ',s',hq,hm',hs'⟩
 cases e with
 |normal=>
  obtain⟨n',hlt,hI'⟩:=hq
  exact⟨n',hlt,F',μ',s',hI',hm',hs'⟩
 |_=>exact⟨F',μ',s',hq,hm',hs'⟩
def dd {α:Type}:List (Nat×α)→List (Nat×α)
 | []=> []
 |p::r=>p::(dd r).filter fun q=> !(q.1==p.1)
def aBb (s:ASt):ASt:=if s.t.length≤2*s.n+16 then s else{n:=s.n,t:=dd s.t,o:=dd s.o}
def aBc (P:Program) [Glob P] (g:FuncId):Bool:=match P.funcs[g]? with
 |some fn=> !(fn.name== "runtime.NumGoroutine")&&fn.body.isSome
 |none=>false
def aBd (P:Program) [Glob P] (call:FuncId→List AV→Nat→ASt→Option ASt) (o:Oper) (s:ASt):Option ASt:=
 match kG P o s with
 |some r=>if r.need=true then some r.st else none
 |none=>match aW P o s,o.dst with
 | .v r,some d=>if(r.need&&decide (d<s.n))=true then some (s.put d r.val)else none
 | .h r,_=>if r.need=true then some r.st else none
 | .c g as,some d=>if d<s.n then call g as d s else none
 |_,_=>none
def qH (P:Program) [Glob P] (call:FuncId→List AV→Nat→ASt→Option ASt) (ops:Array Oper):List Oper→ASt→Option ASt
 | [],s=>some s
 |o::r,s=>match eU ops o.guard s with
  | .run=>match aBd P call o s with
   |some s1=>qH P call ops r s1
   |none=>none
  | .test b want=>match b==want with
   |true=>match aBd P call o s with
    |some s1=>qH P call ops r s1
    |none=>none
   |false=>match o.dst with
    |some d=>if d<s.n then qH P call ops r (s.put d (.tup []))else none
    |none=>qH P call ops r s
  | .skip=>match o.dst with
   |some d=>if d<s.n then qH P call ops r (s.put d (.tup []))else none
   |none=>qH P call ops r s
  | .bad=>none
def aBe (P:Program) [Glob P]:List Oper→ASt→Option ASt
 | [],s=>some s
 |o::r,s=>match o.op,o.dst with
  | .alloc t,some d=>match aQ P t with
   |some z=>if(z.plain&&decide (d<s.n))=true then aBe P r ((s.adopt d (fZ z)).put d (.ptr d 0 0))else none
   |none=>none
  |_,_=>none
def aBf (P:Program) [Glob P] (call:FuncId→List AV→Option AV) (o:Oper) (s:ASt):Option ASt:=
 match eI o with
 |true=>match o.dst with
  |some d=>if d<s.n then some (s.put d .dead)else none
  |none=>none
 |false=>match aW P o s,o.dst with
 | .v r,some d=>if(r.need&&decide (d<s.n))=true then some (s.put d r.val)else none
 | .c g as,some d=>if d<s.n then match gX s.o as with
  |some bs=>match call g bs with
   |some v=>if vB v=true then some (s.put d v)else none
   |none=>none
  |none=>none
  else none
 |_,_=>none
def vL (P:Program) [Glob P] (call:FuncId→List AV→Nat→ASt→Option ASt) (pcall:FuncId→List AV→Option AV) (ops:Array Oper):Nat→List Oper→ASt→Option ASt
 |0,l,s=>match aBe P ((ops.toList.take (ops.size - l.length)).filter eI) s with
  |some s1=>qH P call ops l s1
  |none=>none
 |_+1,[],s=>none
 |m+1,o::r,s=>match eU ops o.guard s with
  | .run=>match aBf P pcall o s with
   |some s1=>vL P call pcall ops m r s1
   |none=>none
  | .test b want=>match b==want with
   |true=>match aBf P pcall o s with
    |some s1=>vL P call pcall ops m r s1
    |none=>none
   |false=>match o.dst with
    |some d=>if d<s.n then vL P call pcall ops m r (s.put d (.tup []))else none
    |none=>none
  | .skip=>match o.dst with
   |some d=>if d<s.n then vL P call pcall ops m r (s.put d (.tup []))else none
   |none=>none
  | .bad=>none
def J2 (ops:Array Oper):Nat→Nat
 |0=>0
 |m+1=>if jN ops m=true then J2 ops m else m+1
def vM (o:aF):Nat:=o.foldl (fun m p=>max m p.1) 0
def yT:List AV→List Nat
 | []=> []
 | .ref L _ _::r=>L::yT r
 |_::r=>yT r
structure Orc where
 p:FuncId→Option (List AV→Option AV)
 m:FuncId→Option (List AV→aF→Option (AV×aF))
 e:FuncId→Bool:=fun _=>false
 u:FuncId→Bool:=fun _=>false
def aWx (P:Program) [Glob P] (ih:Code→ASt→Option (Exit×ASt)) (g:FuncId) (as:List AV) (d:Nat) (s:ASt):Option ASt:=
 match P.funcs[g]? with
 |some fn=>match fn.body with
  |some c=>match aBc P g&&decide (as.length≤fn.ntmps)&&lD (max s.n (vM s.o+1)) s.o with
   |true=>match ih c (mI fn.ntmps (as.map (AV.ren (· +fn.ntmps))) (oS fn.ntmps s.o))with
    |some (.normal,s')=>match eV P s' fn.results.toList with
     |some xs=>some (pX fn.ntmps (max s.n (vM s.o+1)) s d (gC xs) s'.o)
     |none=>none
    |some (.ret,s')=>match eV P s' fn.results.toList with
     |some xs=>some (pX fn.ntmps (max s.n (vM s.o+1)) s d (gC xs) s'.o)
     |none=>none
    |_=>none
   |false=>none
  |none=>none
 |none=>none
def aBg (P:Program) [Glob P] (O:Orc) (ih:Code→ASt→Option (Exit×ASt)) (g:FuncId) (bs:List AV):Option AV:=
 match O.p g with
 |some f=>f bs
 |none=>match P.funcs[g]? with
 |some fn=>match fn.body with
  |some c=>match aBc P g&&decide (bs.length≤fn.ntmps)with
   |true=>match ih c (pA fn.ntmps bs)with
    |some (.normal,s')=>nQ P fn.results.toList (yT ((eV P s' fn.results.toList).getD [])) s'
    |some (.ret,s')=>nQ P fn.results.toList (yT ((eV P s' fn.results.toList).getD [])) s'
    |_=>none
   |false=>none
  |none=>none
 |none=>none
def aBh (P:Program) [Glob P] (O:Orc) (ih:Code→ASt→Option (Exit×ASt)) (g:FuncId) (as:List AV) (d:Nat) (s:ASt):Option ASt:=
 match O.p g with
 |some f=>match gX s.o as with
  |some bs=>match f bs with
   |some v=>some (lY s d v)
   |none=>none
  |none=>none
 |none=>match O.u g with
 |true=>match gX s.o as with
  |some bs=>match aBg P O ih g bs with
   |some v=>some (lY s d v)
   |none=>none
  |none=>none
 |false=>match O.m g with
  |some f=>match lD (max s.n (vM s.o+1)) s.o with
   |true=>match f (as.map (AV.ren (· +64))) (oS 64 s.o)with
    |some (r,o')=>some (pX 64 (max s.n (vM s.o+1)) s d r o')
    |none=>none
   |false=>none
  |none=>match O.e g with
   |true=>match as with
    | [a]=>some (s.put d a)
    |_=>none
   |false=>aWx P ih g as d s
def aWy (P:Program) [Glob P] (O:Orc) (ih:Code→ASt→Option (Exit×ASt)) (c:Code) (s:ASt):Option (Exit×ASt):=
 match c with
 | .skip=>some (.normal,s)
 | .region _ ops draw=>match draw with
  |false=>match qH P (aBh P O ih) ops ops.toList s with
   |some s'=>some (.normal,aBb s')
   |none=>none
  |true=>match P.follows .mixedOrders with
   |true=>match jN ops (J2 ops ops.size)with
    |true=>match vL P (aBh P O ih) (aBg P O ih) ops (J2 ops ops.size) ops.toList s with
     |some s'=>some (.normal,aBb s')
     |none=>none
    |false=>none
   |false=>none
 | .seq a b=>match ih a s with
  |some (.normal,s1)=>ih b s1
  |r=>r
 | .cond c x y=>match ev s.t c with
  |some (.sc (.bool b))=>ih (if b=true then x else y) s
  |_=>none
 | .block id b=>match ih b s with
  |some (.exit id',s1)=>if id'=id then some (.normal,s1)else some (.exit id',s1)
  |r=>r
 | .loop b=>match ih b s with
  |some (.normal,s1)=>ih (.loop b) s1
  |r=>r
 | .exit id=>some (.exit id,s)
 | .ret=>some (.ret,s)
 |_=>none
def ax (P:Program) [Glob P] (O:Orc):Nat→Code→ASt→Option (Exit×ASt)
 |0=>fun _ _=>none
 |k+1=>aWy P O (ax P O k)
end Go.Ab
namespace Go.Ab
open Go.RowKit Go.ChangeShapes Go.WideShapes
section
variable {H : Type} {enc : TypeId × Value → H} {P : Program} [Glob P] {T : TypeId → Prop}
theorem aWz {W W':World} {base:Nat} {sp':Nat→Bool} (K:Kids P T) (hz: ∀t e,T t→P.underlying t=some (.slice e)→0<P.cellsOf e) {t:TypeId} (hT:T t) {v:Value} {d:DataW H} {ps:List MemPlace}
 (h:DataW.Trod enc P W base (fun _=>true) true t v d ps) (hsame: ∀p∈ps,W.sameAt W' p) (hs: ∀p∈ps,sp' p.block=true):DataW.Trod enc P W' base sp' true t v d ps:=by
 obtain⟨n,hn⟩:=h
 exact⟨n,DataW.trod_stays K (fun {t e}=>hz t e) (fun h=>by cases h) hT hn hsame hs⟩
theorem aBi {W W':World} {base:Nat} {sp':Nat→Bool} (K:Kids P T) (hz: ∀t e,T t→P.underlying t=some (.slice e)→0<P.cellsOf e):
 ∀{ts:List TypeId} {vs:List Value} {ds:List (DataW H)} {ps:List MemPlace},(∀t∈ts,T t)→DataW.TrodAll enc P W base (fun _=>true) true ts vs ds ps→(∀p∈ps,W.sameAt W' p)→(∀p∈ps,sp' p.block=true)→
  DataW.TrodAll enc P W' base sp' true ts vs ds ps
 | [],[],[],_,_,h,_,_=>h
 |_::_,_::_,_::_,_,hT,⟨p,q,h1,h2,e⟩,hm,hs=>⟨p,q,aWz K hz (hT _ (List.mem_cons.2 (Or.inl rfl))) h1 (fun x hx=>hm x (by rw[e];exact List.mem_append_left _ hx)) (fun x hx=>hs x (by rw[e];exact List.mem_append_left _ hx)),
  aBi K hz (fun t ht=>hT t (List.mem_cons.2 (Or.inr ht))) h2 (fun x hx=>hm x (by rw[e];exact List.mem_append_right _ hx)) (fun x hx=>hs x (by rw[e];exact List.mem_append_right _ hx)),e⟩
theorem aW0 {W W':World} (hfr:Fr (fun _=>False) W W') (may:MemPlace→Prop):W.keptBut W' may:=by
 refine⟨hfr.os,hfr.output,fun i hi=>?_⟩
 rw[hfr.block i hi (fun h=>h)]
 split
 ·rename_i h1 h2
  rw[h1]at h2
  cases h2
  exact⟨rfl,rfl,rfl,fun _ _=>rfl⟩
 ·rename_i h1 h2
  rw[h1]at h2
  cases h2
  exact .inr ⟨rfl,rfl⟩
 ·rfl
theorem aW1 {W W':World} (hfr:Fr (fun _=>False) W W') {p:MemPlace} (hp:p.block<W.heap.size):W.sameAt W' p:=by
 cases p with
 |cell b off=>exact oI (hfr.block b hp (fun h=>h))
 |map b=>exact hfr.block b hp (fun h=>h)
theorem bZ6 (K:Kids P T) (hz: ∀t e,T t→P.underlying t=some (.slice e)→0<P.cellsOf e) {f:Func} {s:ChangeSpec} {apart fresh handsOn again:Bool} {W W':World} {args:Array Value} {ds gs:List (DataW H)} {before:List MemPlace} {bt:TypeId}
 (hT: ∀t∈f.params.toList,T t) (hrt:f.resultTypes= #[bt]) (hbt:P.underlying bt=some .bool) (hvars:s.vars= []) (hW:DataW.Whole enc P f.params.toList s.vars apart W args.toList ds gs before)
 (hfn:s.fn H ds= {results:= [.lit (.bool true)],args:=ds}) (hfr:Fr (fun _=>False) W W'):s.post enc P f apart fresh handsOn again W args (.bool true) W':=by
 have hW':=hW
 obtain⟨p,q,hA,hV,rfl,hzf,hn⟩:=hW
 rw[hvars]at hV
 obtain⟨rfl,rfl⟩:=trodVars_none hV
 have hlt: ∀x∈p,x.block<W.heap.size:=DataW.TrodAll.lt hA
 have hargs: ∀sp:Nat→Bool,(∀x∈p,sp x.block=true)→DataW.TrodAll enc P W' 0 sp true f.params.toList args.toList ds p:=fun sp hs=>
  aBi K hz hT hA (fun x hx=>aW1 hfr (hlt x hx)) hs
 have hres: ∀(b:Nat) (sp:Nat→Bool) (hd:Bool),DataW.TrodAll enc P W' b sp hd f.resultTypes.toList ((Value.bool true).resultList f.resultTypes.size) [.lit (.bool true)] []:=fun b sp hd=>by
  rw[hrt]
  exact trodAll_cons_mk (shut_bool hbt _) trodAll_mk0
 have hvs: ∀sp:Nat→Bool,DataW.TrodVars enc P W' sp s.vars ([]:List (DataW H)) []:=fun sp=>by rw[hvars];rfl
 simp only[List.append_nil]at hW' hzf hn
 refine⟨ds,[],p,[],p,[],hW',?_,?_,?_,aW0 hfr _,fun _=>⟨?_,?_⟩⟩
 ·simp only[List.append_nil,hfn];exact hres _ _ _
 ·simp only[List.append_nil,hfn];exact hargs _ (fun x hx=>by simpa using hlt x hx)
 ·simp only[List.append_nil,hfn];exact hvs _
 ·exact ok_one hrt rfl (okWide_bool_mk hbt _)
 ·refine⟨_,[],[]++p,⟨[]++p,[],trodAll_append (hargs _ (fun _ _=>rfl)) (hres 0 _ _),hvs _,by simp,fun b off hp=>?_,fun ha=>?_⟩,fun x hx _=>by simpa using hx⟩
  ·have hb:b<W.heap.size:=hlt (.cell b off) (by simpa using hp)
   have:W'.frozen? ⟨b,off,none⟩=W.frozen? ⟨b,off,none⟩:=by simp only[World.frozen?,hfr.block b hb (fun h=>h)]
   rw[this]
   exact hzf b off (by simpa using hp)
  ·simpa using hn ha
end
end Go.Ab
namespace Go.Ab
open Go.RowKit
structure Hide (K T:ASt→Prop):Prop where
 to: ∀s,T s→K s
theorem Hide.go {P:Program} [Glob P] {Q:Exit→ASt→Prop} {K:ASt→Prop} {c:Code} {s:ASt} (h:Hide K (bY P c Q)) (k:bY P c Q s):K s:=h.to s k
theorem iJ {P:Program} [Glob P] {a b:Code} {Q:Exit→ASt→Prop} {s:ASt} (h: ∀K,Hide K (bY P b Q)→bY P a (mG K Q) s):bY P (.seq a b) Q s:=h (G2 (bY P b Q)) ⟨fun s k=>⟨s,Le.refl s,k⟩⟩
theorem aBj {P:Program} [Glob P] {a b:Code} {Q:Exit→ASt→Prop} {s:ASt} (s1:ASt) (h: ∀K,(∀s',Le s1 s'→K s')→bY P a (mG K Q) s) (hb:bY P b Q s1):bY P (.seq a b) Q s:=h (G2 (bY P b Q)) (fun _ hl=>⟨s1,hl,hb⟩)
theorem qI {P:Program} [Glob P] {id:Nat} {ops:Array Oper} {b:Code} {Q:Exit→ASt→Prop} {s:ASt} (h:False):bY P (.seq (.region id ops true) b) Q s:=h.elim
def bt (s:ByteArray) (i:Nat):Int:=((s.data.toList.getD i 0).toNat:Int)
theorem aW2 (s:ByteArray) (i:Nat):0≤bt s i∧bt s i≤255:=by
 have:=(s.data.toList.getD i 0).toNat_lt
 unfold bt;omega
theorem aW3 {P:Program} [Glob P] {t:TypeId} {s:ByteArray} {k:IntKind} {i:Int}:sE P t (.sc (.string s)) (.sc (.int k i))=if kB P t=true then some ⟨decide (0≤i∧i<s.size),nt .u8 (bt s i.toNat)⟩else none:=aOo
attribute [go_sem] aW3
theorem aW4 (a b:Int):(if b>a then b else a)=max a b:=by
 rw[Int.max_def];split<;>split<;>omega
theorem aW5 (a b:Int):(if b<a then b else a)=min a b:=by
 rw[Int.min_def];split<;>split<;>omega
theorem aW6 {P:Program} [Glob P] {d:Option Nat} {x y:Operand} {ts:Array TypeId} {ty:TypeId} {pos:String} {af g} {ρ:Operand→Option AV} {k k':IntKind} {a b:Int}
 (hx:ρ x=some (.sc (.int k a))) (hy:ρ y=some (.sc (.int k' b))):eE P ⟨d,.call ⟨.builtin .max,#[x,y],ts⟩,ty,pos,af,g⟩ ρ=some ⟨true,.sc (.int k (max a b))⟩:=by
 unfold eE
 rw[if_pos ⟨rfl,by simp[Op.operands,Call.operands,hx,hy,eZ,mR]⟩]
 have e:oN P (execOp (fun z=>mT ((ρ z).bind eZ)) ⟨d,.call ⟨.builtin .max,#[x,y],ts⟩,ty,pos,af,g⟩)=some (.value (.int k (if b>a then b else a))):=by
  simp only[execOp,resolve,Array.map,hx,hy]
  simp[hx,hy,eZ,mR,mT]
  rfl
 rw[e,aW4]
 rfl
theorem aW7 {P:Program} [Glob P] {d:Option Nat} {x y:Operand} {ts:Array TypeId} {ty:TypeId} {pos:String} {af g} {ρ:Operand→Option AV} {k k':IntKind} {a b:Int}
 (hx:ρ x=some (.sc (.int k a))) (hy:ρ y=some (.sc (.int k' b))):eE P ⟨d,.call ⟨.builtin .min,#[x,y],ts⟩,ty,pos,af,g⟩ ρ=some ⟨true,.sc (.int k (min a b))⟩:=by
 unfold eE
 rw[if_pos ⟨rfl,by simp[Op.operands,Call.operands,hx,hy,eZ,mR]⟩]
 have e:oN P (execOp (fun z=>mT ((ρ z).bind eZ)) ⟨d,.call ⟨.builtin .min,#[x,y],ts⟩,ty,pos,af,g⟩)=some (.value (.int k (if b<a then b else a))):=by
  simp only[execOp,resolve,Array.map,hx,hy]
  simp[hx,hy,eZ,mR,mT]
  rfl
 rw[e,aW5]
 rfl
def vN (f:Int→Int→Int) (z:Option Sv):Option AV→Option AV→Option Sv
 |some (.sc (.int k a)),some (.sc (.int _ b))=>some ⟨true,.sc (.int k (f a b))⟩
 |_,_=>z
theorem aW8 {f:Int→Int→Int} {z:Option Sv} {k k':IntKind} {a b:Int}:vN f z (some (.sc (.int k a))) (some (.sc (.int k' b)))=some ⟨true,.sc (.int k (f a b))⟩:=rfl
theorem aBk {f:Int→Int→Int} {z:Option Sv} {x y:Option AV} (h: ∀k k' a b,x=some (.sc (.int k a))→y=some (.sc (.int k' b))→z=some ⟨true,.sc (.int k (f a b))⟩):z=vN f z x y:=by
 unfold vN
 split
 ·exact h _ _ _ _ rfl rfl
 ·rfl
theorem aW9 {P:Program} [Glob P] {d:Nat} {x y:Operand} {ts:Array TypeId} {ty:TypeId} {pos:String} {af g} {s:ASt}:aW P ⟨some d,.call ⟨.builtin .max,#[x,y],ts⟩,ty,pos,af,g⟩ s=
 dC (vN max (eE P ⟨some d,.call ⟨.builtin .max,#[x,y],ts⟩,ty,pos,af,g⟩ (bW P s.t)) (bW P s.t x) (bW P s.t y)):=
 aL6.trans (congrArg dC (aBk fun k k' a b hx hy=>aW6 hx hy))
theorem aXa {P:Program} [Glob P] {d:Nat} {x y:Operand} {ts:Array TypeId} {ty:TypeId} {pos:String} {af g} {s:ASt}:aW P ⟨some d,.call ⟨.builtin .min,#[x,y],ts⟩,ty,pos,af,g⟩ s=
 dC (vN min (eE P ⟨some d,.call ⟨.builtin .min,#[x,y],ts⟩,ty,pos,af,g⟩ (bW P s.t)) (bW P s.t x) (bW P s.t y)):=
 aL5.trans (congrArg dC (aBk fun k k' a b hx hy=>aW7 hx hy))
attribute [go_sem] aW9 aXa aW8
theorem gD (a b:ByteArray):(a==b)=decide (a=b):=by
 rw[Bool.eq_iff_iff,decide_eq_true_eq]
 constructor
 ·intro h
  obtain⟨a⟩:=a;obtain⟨b⟩:=b
  have h':(a==b)=true:=h
  rw[eq_of_beq h']
 ·rintro rfl
  obtain⟨a⟩:=a
  show(a==a)=true
  simp
def lI (P:Program) [Glob P] (e:TypeId):Option Nat:=(dB P e).map fun v=>v.cells.size
def J3 (q:Option Nat) (kk es bytes:Nat) (ys xs:List AV) (d:Nat) (s:ASt):Option St:=match q with
 |some n=>some ⟨decide (d<s.n∧n=es∧(∀y∈ys,y.cells.length=es)∧(∀y∈xs,y.cells.length=es)∧bytes≠0∧(2*(xs.length+ys.length)+200)*bytes≤2^48∧(xs= []∨ys≠ [])),s.renew d d d (fR es (xs++ys) kk) (.ref d 0 (xs++ys).length)⟩
 |none=>none
theorem aXb {n kk es bytes d:Nat} {ys xs:List AV} {s:ASt}:J3 (some n) kk es bytes ys xs d s=some ⟨decide (d<s.n∧n=es∧(∀y∈ys,y.cells.length=es)∧(∀y∈xs,y.cells.length=es)∧bytes≠0∧(2*(xs.length+ys.length)+200)*bytes≤2^48∧(xs= []∨ys≠ [])),s.renew d d d (fR es (xs++ys) kk) (.ref d 0 (xs++ys).length)⟩:=rfl
theorem aXc {P:Program} [Glob P] {e:TypeId} {es bytes:Nat} {ys xs:List AV} {l:Bool} {d:Nat} {s:ASt}:
 sR (some (e,es,bytes)) true (some ys) (dB P) (dL P) (.list l true xs) d s=J3 (lI P e) (dL P e) es bytes ys xs d s:=by
 simp only[sR,J3,lI]
 cases dB P e with
 |none=>rfl
 |some v=>simp
def J4 (q:Option Nat) (x:Option AObj) (L n es bytes kk d:Nat) (ys:List AV) (s:ASt):Option St:=match q with
 |some z=>match x with
  |some x=>if x.arr=true∧x.fz=false then some ⟨decide (d<s.n∧z=es∧(∀y∈ys,y.cells.length=es)∧x.es=es∧bytes≠0∧(2*(n+ys.length)+200)*bytes≤2^48∧n≤x.xs.length),
   s.renew L (if x.pin=true then d else L) d (fR es (bS x.xs 0 n++ys) (if x.kd=kk then kk else 0)) (.ref (if x.pin=true then d else L) 0 (n+ys.length))⟩else none
  |none=>none
 |none=>none
theorem aXd {z:Nat} {kd kk:Nat} {L n es es' bytes d:Nat} {xs ys:List AV} {pin:Bool} {s:ASt}:J4 (some z) (some ⟨true,false,pin,es',xs,kd⟩) L n es bytes kk d ys s=some ⟨decide (d<s.n∧z=es∧(∀y∈ys,y.cells.length=es)∧es'=es∧bytes≠0∧(2*(n+ys.length)+200)*bytes≤2^48∧n≤xs.length),
 s.renew L (if pin=true then d else L) d (fR es (bS xs 0 n++ys) (if kd=kk then kk else 0)) (.ref (if pin=true then d else L) 0 (n+ys.length))⟩:=rfl
theorem aXe {P:Program} [Glob P] {e:TypeId} {es bytes:Nat} {ys:List AV} {L n d:Nat} {s:ASt}:
 sR (some (e,es,bytes)) true (some ys) (dB P) (dL P) (.ref L 0 n) d s=J4 (lI P e) (lk s.o L) L n es bytes (dL P e) d ys s:=by
 simp only[sR,J4,lI]
 cases dB P e with
 |none=>rfl
 |some v=>
  cases lk s.o L with
  |none=>rfl
  |some x=>simp
theorem aXf (c:UInt8):(fQ c).cells= [fQ c]:=rfl
attribute [go_sem] aXb aXc aXd aXe aXf List.forall_mem_map
section
variable {P : Program} [Glob P] {Q : Exit → ASt → Prop} {s : ASt} {k : ASt → Prop}
theorem zqd {p:Prop} [Decidable p] {x y:Code} (h1:p→bY P x Q s) (h2: ¬p→bY P y Q s):pB P (some (.sc (.bool (decide p)))) x y Q s:=aJd h1 h2
theorem zqn {p:Prop} [Decidable p] {x y:Code} (h1: ¬p→bY P x Q s) (h2:p→bY P y Q s):pB P (some (.sc (.bool (!decide p)))) x y Q s:=aJe h1 h2
theorem zgd {p:Prop} [Decidable p] {want:Bool} {o:Oper} (h1:p→gK P (.test true want) o k s) (h2: ¬p→gK P (.test false want) o k s):gK P (.test (decide p) want) o k s:=aJq h1 h2
theorem zgn {p:Prop} [Decidable p] {want:Bool} {o:Oper} (h1: ¬p→gK P (.test true want) o k s) (h2:p→gK P (.test false want) o k s):gK P (.test (!decide p) want) o k s:=aJr h1 h2
theorem zdd {p:Prop} [Decidable p] {want:Bool} {o:Oper} (h1:p→eG P (.test true want) o k s) (h2: ¬p→eG P (.test false want) o k s):eG P (.test (decide p) want) o k s:=aJ7 h1 h2
theorem zdn {p:Prop} [Decidable p] {want:Bool} {o:Oper} (h1: ¬p→eG P (.test true want) o k s) (h2:p→eG P (.test false want) o k s):eG P (.test (!decide p) want) o k s:=aJ8 h1 h2
end
theorem Le.sub4 {s0 s:ASt} (hn:s0.n=s.n) (h:(∀p∈s0.t,lk s.t p.1=some p.2)∧(∀p∈s0.o,lk s.o p.1=some p.2)∧(∀p∈s0.t,p.2.okIn s0.o=true)∧(∀p∈s0.o,rF s0.o p.2=true)):Le s0 s:=Le.sub hn h.1 h.2.1 h.2.2.1 h.2.2.2
end Go.Ab
namespace Go.Ab
open Go.RowKit Go.ChangeShapes Go.WideShapes
theorem bZ7 {P:Program} [Glob P] {f:FuncId} {as:List AV} (h:ACall P f as (fun r=>r=bl true)) {W:World} {F:Bool→aY} {cargs:Array Value} (hg:GlF P F) (hF:Fok F W) (hl:as.length=cargs.size)
 (ha: ∀(i:Nat) (a:AV) (v:Value),as[i]?=some a→cargs[i]?=some v→RV F bJ a v):Calls P f cargs W fun e W'=>e= .returned (.bool true)∧Fr (fun _=>False) W W':=
 (h.2 W F cargs hg hF hl ha).mono fun e W' ⟨v,r,F',he,hr,hp,hv⟩=>by
  subst hr
  obtain⟨p,hv⟩:=(show ∃p,ResV1 F' W' W.heap.size p v (bl true)from hv)
  obtain⟨_,hv⟩:=(show AV.pure (bl true)=true∧RV F' bJ (bl true) v from hv)
  cases hv
  exact⟨he,hp.fr⟩
def noF:Bool→aY:=fun _ _ _=>none
theorem aXg (w:World):Fok noF w:=⟨fun _ _ _ _ h=>(by cases h),fun _ _ _ h=>(by cases h)⟩
end Go.Ab
namespace Go.Ab
open Go.RowKit
def wF (w:World):Bool→aY:=fun _ b k=>w.cell? ⟨b,k,none⟩
theorem bZ8 (w:World):Fok (wF w) w:=⟨fun _ _ _ _ h=>h,fun _ _ _ h=>h⟩
def CellsR (w:World) (cs:List AV) (vs:List Value):Prop:=cs.length=vs.length∧ ∀(j:Nat) (a:AV) (v:Value),cs[j]?=some a→vs[j]?=some v→RV (wF w) bJ a v∧one v=true
theorem CellsR.nil {w:World}:CellsR w [] []:=⟨rfl,fun j a v h=>by simp at h⟩
theorem CellsR.one1 {w:World} {a:AV} {v:Value} (h:RV (wF w) bJ a v) (ho:one v=true):CellsR w [a] [v]:=⟨rfl,fun j b u hb hu=>by
 cases j with
 |zero=>simp at hb hu;subst hb;subst hu;exact⟨h,ho⟩
 |succ j=>simp at hb⟩
theorem CellsR.append {w:World} {cs cs':List AV} {vs vs':List Value} (h:CellsR w cs vs) (h':CellsR w cs' vs'):CellsR w (cs++cs') (vs++vs'):=by
 refine⟨by simp[h.1,h'.1],fun j a v ha hv=>?_⟩
 by_cases hj:j<cs.length
 ·rw[List.getElem?_append_left hj]at ha
  rw[List.getElem?_append_left (by rw[←h.1];exact hj)]at hv
  exact h.2 j a v ha hv
 ·rw[List.getElem?_append_right (by omega)]at ha
  rw[List.getElem?_append_right (by rw[←h.1];omega),←h.1]at hv
  exact h'.2 _ a v ha hv
section
variable {H : Type} {enc : TypeId × Value → H} {P : Program} [Glob P] {w : World}
def Came (enc:TypeId×Value→H) (P:Program) [Glob P] (w:World) {α:Type} (n:Nat) (t:TypeId) (en:α→AV) (ok:α→Prop):Prop:=
 ∀cs d ps,DataW.trod enc P w 0 (fun _=>true) true n t cs=some (d,ps)→(∀m∈d.weights P t,m≤reachBytes)→ ∃x,ok x∧CellsR w (en x).cells cs
theorem Came.zero {α:Type} {t:TypeId} {en:α→AV} {ok:α→Prop}:Came enc P w 0 t en ok:=fun cs d ps h=>by simp[DataW.trod]at h
theorem Came.bool {n:Nat} {t:TypeId} (hu:P.underlying t=some .bool):Came enc P w n t (fun b:Bool=> .sc (.bool b)) (fun _=>True):=by
 intro cs d ps h hw
 cases n with
 |zero=>simp[DataW.trod]at h
 |succ n=>
  rw[DataW.trod_step]at h
  unfold DataW.trodStep at h
  rw[hu]at h
  split at h<;>first|(rename_i b _ _;exact⟨_,trivial,CellsR.one1 (.sc rfl) rfl⟩)|simp_all
theorem Came.int {n:Nat} {t:TypeId} {k:IntKind} (hu:P.underlying t=some (.int k)):Came enc P w n t (fun i:Int=> .sc (.int k i)) (fun i=>k.min≤i∧i≤k.max):=by
 intro cs d ps h hw
 cases n with
 |zero=>simp[DataW.trod]at h
 |succ n=>
  rw[DataW.trod_step]at h
  unfold DataW.trodStep at h
  rw[hu]at h
  split at h
  case h_2 k0 k' m hk=>
   obtain rfl:k=k0:=by simpa using hk
   split at h
   ·rename_i hc
    obtain⟨rfl,hc⟩:=hc
    exact⟨m,by simpa[Lit.wf]using hc,CellsR.one1 (.sc rfl) rfl⟩
   ·cases h
  all_goals simp_all
def I64 (i:Int):Prop:= -9223372036854775808≤i∧i≤9223372036854775807
theorem I64.of {i:Int} (h:IntKind.i64.min≤i∧i≤IntKind.i64.max):I64 i:=by
 have e1:IntKind.i64.min= -9223372036854775808:=by decide+kernel
 have e2:IntKind.i64.max=9223372036854775807:=by decide+kernel
 rw[e1,e2]at h;exact h
theorem Came.i64 {n:Nat} {t:TypeId} (hu:P.underlying t=some (.int .i64)):Came enc P w n t (fun i:Int=>nt .i64 i) I64:=by
 intro cs d ps h hw
 obtain⟨x,a,b⟩:=Came.int hu cs d ps h hw
 exact⟨x,I64.of a,b⟩
theorem Came.string {n:Nat} {t:TypeId} (hu:P.underlying t=some .string):Came enc P w n t (fun s:ByteArray=> .sc (.string s)) (fun s=>s.size≤reachBytes):=by
 intro cs d ps h hw
 cases n with
 |zero=>simp[DataW.trod]at h
 |succ n=>
  rw[DataW.trod_step]at h
  unfold DataW.trodStep at h
  rw[hu]at h
  split at h
  case h_4 s hk=>
   split at h
   ·obtain⟨rfl,rfl⟩:=Prod.mk.inj (Option.some.inj h)
    exact⟨s,by have:=hw s.data.toList.length (by simp only[DataW.weights,List.mem_singleton]);rw[Array.length_toList]at this;exact this,CellsR.one1 (.sc rfl) rfl⟩
   ·cases h
  all_goals simp_all
theorem J5 {e:TypeId}: ∀{ds:List (DataW H)} {d:DataW H},d∈ds→ ∀m∈d.weights P e,m∈DataW.weightsAll P e ds
 | [],_,h,_,_=>by simp at h
 |d0::ds,d,h,m,hm=>by
  simp only[DataW.weightsAll,List.mem_append]
  rcases List.mem_cons.1 h with rfl|h
  ·exact .inl hm
  ·exact .inr (J5 h m hm)
theorem Came.slice {n:Nat} {t e:TypeId} {α:Type} {en:α→AV} {ok:α→Prop} (hu:P.underlying t=some (.slice e)) (hes:0<P.cellsOf e) (hb:0<P.bytesOf e) (h1:Came enc P w n e en ok):
 Came enc P w (n+1) t (fun l:List α=> .list false false (l.map en)) (fun l=>(∀x∈l,ok x)∧l.length*P.bytesOf e≤reachBytes):=by
 intro cs d ps h hw
 rw[DataW.trod_step]at h
 unfold DataW.trodStep at h
 rw[hu]at h
 split at h
 case h_7=>
  exact⟨[],⟨by simp,by simp⟩,CellsR.one1 .nil rfl⟩
 case h_8 e' a len cap hk=>
  obtain rfl:e=e':=by simpa using hk
  simp only at h
  split at h
  ·rename_i hc
   obtain⟨hc1,hc2,hc3⟩:=hc
   simp only[if_true,Option.map_eq_some_iff,Option.bind_eq_some_iff]at h
   obtain⟨elems,he,rest,hrest,hd⟩:=h
   obtain⟨rfl,rfl⟩:=Prod.mk.inj hd
   have hlen:elems.length=len:=by simpa using mapM_some_length he
   have hrl:rest.length=cap - len:=by simpa using mapM_some_length hrest
   have hel: ∀i,i<len→ ∃x:α,ok x∧ ∃vs:List Value,CellsR w (en x).cells vs∧vs.length=P.cellsOf e∧ ∀j,j<P.cellsOf e→w.cell? ((a.add (i*P.cellsOf e)).add j)=vs[j]?:=by
    intro i hi
    have hy:=mapM_some_get he i i (by simp[hi])
    have hlt:i<elems.length:=by omega
    rw[List.getElem?_eq_getElem hlt]at hy
    simp only[Option.bind_eq_some_iff]at hy
    obtain⟨vs,hv1,hv2⟩:=hy
    obtain⟨_,c2,c3⟩:=World.cells?_some hv1
    obtain⟨x,hx1,hx2⟩:=h1 vs elems[i].1 elems[i].2 hv2 (fun m hm=>hw m (by
     simp only[DataW.weights,hu,List.mem_cons,List.mem_append]
     exact .inr (.inl (J5 (List.mem_map.2 ⟨_,List.getElem_mem hlt,rfl⟩) m hm))))
    exact⟨x,hx1,vs,hx2,c2,c3⟩
   have hwt:(len+(cap - len))*P.bytesOf e≤reachBytes:=by
    have:=hw ((elems.length+rest.length)*P.bytesOf e) (by simp[DataW.weights,hu])
    rw[hlen,hrl]at this;exact this
   have hwl:len*P.bytesOf e≤reachBytes:=Nat.le_trans (Nat.mul_le_mul_right _ (by omega)) hwt
   have hch: ∃l:List α,l.length=len∧ ∀(i:Nat) (x:α),l[i]?=some x→ok x∧ ∃vs:List Value,CellsR w (en x).cells vs∧vs.length=P.cellsOf e∧ ∀j,j<P.cellsOf e→w.cell? ((a.add (i*P.cellsOf e)).add j)=vs[j]?:=by
    clear he hrest hw hd hwt hwl hc2 hlen hrl
    induction len with
    |zero=>exact⟨[],rfl,fun i x hx=>by simp at hx⟩
    |succ m ih=>
     obtain⟨l,g1,g2⟩:=ih (fun i hi=>hel i (by omega))
     obtain⟨x,hx⟩:=hel m (by omega)
     refine⟨l++ [x],by simp[g1],fun i y hy=>?_⟩
     by_cases hi:i<l.length
     ·rw[List.getElem?_append_left hi]at hy;exact g2 i y hy
     ·rw[List.getElem?_append_right (by omega)]at hy
      cases hq:i - l.length with
      |zero=>
       rw[hq]at hy;simp at hy;subst hy
       obtain rfl:i=m:=by omega
       exact hx
      |succ q=>rw[hq]at hy;simp at hy
   obtain⟨l,g1,g2⟩:=hch
   refine⟨l,⟨fun x hx=>?_,by rw[g1];exact hwl⟩,CellsR.one1 ?_ rfl⟩
   ·obtain⟨i,hi⟩:=List.getElem?_of_mem hx
    exact(g2 i x hi).1
   ·by_cases hcap:cap=0
    ·subst hcap
     have hl0:len=0:=by omega
     subst hl0
     obtain rfl:l= []:=List.eq_nil_of_length_eq_zero g1
     exact .nil
    ·have hsp:a.spot=none:=by
      by_cases hl0:len=0
      ·have hr0:0<rest.length:=by omega
       have hy:=mapM_some_get hrest 0 0 (by rw[List.getElem?_range (by omega)])
       rw[List.getElem?_eq_getElem hr0]at hy
       simp only[Option.bind_eq_some_iff]at hy
       obtain⟨vs,hv1,hv2⟩:=hy
       obtain⟨_,c2,c3⟩:=World.cells?_some hv1
       have c0:=c3 0 hes
       rw[List.getElem?_eq_getElem (by omega)]at c0
       simpa[Addr.add,hl0]using World.cell?_spot c0
      ·have h0:0<l.length:=by omega
       obtain⟨_,vs,c1,c2,c3⟩:=g2 0 l[0] (by simp[h0])
       have c0:=c3 0 hes
       rw[List.getElem?_eq_getElem (by omega)]at c0
       simpa[Addr.add]using World.cell?_spot c0
     obtain⟨b,off,spot⟩:=a
     simp only at hsp
     subst hsp
     have hadd: ∀k,(Addr.mk b off none).add k=⟨b,off+k,none⟩:=fun k=>by
      unfold Addr.add;split
      ·rename_i hk;subst hk;rfl
      ·rfl
     have hadd2: ∀k j,((Addr.mk b off none).add k).add j=⟨b,off+k+j,none⟩:=fun k j=>by
      rw[hadd];unfold Addr.add;split
      ·rename_i hk;subst hk;rfl
      ·rfl
     simp only[hadd2]at g2
     have key:= @RV.list (wF w) bJ false false (l.map en) b off off cap (P.cellsOf e) (fun i j=>(w.cell? ⟨b,off+i*P.cellsOf e+j,none⟩).getD .nilIface)
      (fun y hy=>by
       obtain⟨x,hx,rfl⟩:=List.mem_map.1 hy
       obtain⟨i,hi⟩:=List.getElem?_of_mem hx
       obtain⟨_,vs,c1,c2,c3⟩:=g2 i x hi
       rw[c1.1,c2])
      (by rw[List.length_map,g1];exact hc2)
      (by
       rw[List.length_map,g1]
       have:len≤len*P.bytesOf e:=Nat.le_mul_of_pos_right _ hb
       have h47:=reachBytes_lt
       unfold cK;omega)
      (fun hf=>by cases hf) (fun _=>rfl)
      (fun i y j c hy hj=>by
       simp only[List.getElem?_map,Option.map_eq_some_iff]at hy
       obtain⟨x,hx,rfl⟩:=hy
       obtain⟨_,vs,c1,c2,c3⟩:=g2 i x hx
       have hjl:j<P.cellsOf e:=by rw[←c2,←c1.1];exact(List.getElem?_eq_some_iff.1 hj).1
       show w.cell? _=_
       rw[c3 j hjl,List.getElem?_eq_getElem (by omega)];rfl)
      (fun i y j c hy hj=>by
       simp only[List.getElem?_map,Option.map_eq_some_iff]at hy
       obtain⟨x,hx,rfl⟩:=hy
       obtain⟨_,vs,c1,c2,c3⟩:=g2 i x hx
       have hjl:j<P.cellsOf e:=by rw[←c2,←c1.1];exact(List.getElem?_eq_some_iff.1 hj).1
       have hv:vs[j]?=some vs[j]:=List.getElem?_eq_getElem (by omega)
       rw[c3 j hjl,hv]
       exact(c1.2 j c vs[j] hj hv).1)
      (fun i y j c hy hj=>by
       simp only[List.getElem?_map,Option.map_eq_some_iff]at hy
       obtain⟨x,hx,rfl⟩:=hy
       obtain⟨_,vs,c1,c2,c3⟩:=g2 i x hx
       have hjl:j<P.cellsOf e:=by rw[←c2,←c1.1];exact(List.getElem?_eq_some_iff.1 hj).1
       have hv:vs[j]?=some vs[j]:=List.getElem?_eq_getElem (by omega)
       rw[c3 j hjl,hv]
       exact(c1.2 j c vs[j] hj hv).2)
     rw[List.length_map,g1]at key
     exact key
  ·cases h
 all_goals simp_all
def CameF (enc:TypeId×Value→H) (P:Program) [Glob P] (w:World) {α:Type} (n N:Nat) (fs:List Field) (off:Nat) (en:α→List AV) (ok:α→Prop):Prop:=
 ∀(cs:List Value) (xs:List (DataW H×List MemPlace)),cs.length=N→fs.mapM (fun f=>DataW.trod enc P w 0 (fun _=>true) true n f.type ((cs.drop f.offset).take (P.cellsOf f.type)))=some xs→(∀m∈DataW.weightsEach P (fs.map (·.type)) (xs.map (·.1)),m≤reachBytes)→
  ∃x,ok x∧CellsR w (en x) (cs.drop off)
theorem CameF.nil {n N:Nat}:CameF enc P w n N [] N (fun _:Unit=> []) (fun _=>True):=by
 intro cs xs hN h hw
 refine⟨(),trivial,?_⟩
 rw[List.drop_of_length_le (by omega)]
 exact CellsR.nil
theorem CameF.cons {n N off:Nat} (k:Nat) {f:Field} {fs:List Field} {α β:Type} {en:α→AV} {ok:α→Prop} {enr:β→List AV} {okr:β→Prop} (ho:f.offset=off) (hk:P.cellsOf f.type=k)
 (h1:Came enc P w n f.type en ok) (h2:CameF enc P w n N fs (off+k) enr okr):CameF enc P w n N (f::fs) off (fun x:α×β=>(en x.1).cells++enr x.2) (fun x=>ok x.1∧okr x.2):=by
 intro cs xs hN h hw
 subst ho;subst hk
 simp only[List.mapM_cons]at h
 cases hy:DataW.trod enc P w 0 (fun _=>true) true n f.type ((cs.drop f.offset).take (P.cellsOf f.type))with
 |none=>simp[hy]at h
 |some y=>
  cases hz:fs.mapM (fun f=>DataW.trod enc P w 0 (fun _=>true) true n f.type ((cs.drop f.offset).take (P.cellsOf f.type)))with
  |none=>simp[hy,hz]at h
  |some ys=>
   simp[hy,hz]at h
   subst h
   simp only[List.map_cons,DataW.weightsEach,List.mem_append]at hw
   obtain⟨x,a1,a2⟩:=h1 _ y.1 y.2 hy (fun m hm=>hw m (.inl hm))
   obtain⟨z,b1,b2⟩:=h2 cs ys hN hz (fun m hm=>hw m (.inr hm))
   refine⟨(x,z),⟨a1,b1⟩,?_⟩
   have e:cs.drop f.offset=(cs.drop f.offset).take (P.cellsOf f.type)++cs.drop (f.offset+P.cellsOf f.type):=by
    rw[←List.drop_drop,List.take_append_drop]
   rw[e]
   exact a2.append b2
theorem Came.struct {n N:Nat} {t:TypeId} {fs:Array Field} {l:List Field} {α:Type} {en:α→List AV} {ok:α→Prop} (hu:P.underlying t=some (.struct fs)) (hl:fs.toList=l) (hN:P.cellsOf t=N)
 (h1:CameF enc P w n N l 0 en ok):Came enc P w (n+1) t (fun x:α=> .agg (en x)) ok:=by
 intro cs d ps h hw
 rw[DataW.trod_step]at h
 unfold DataW.trodStep at h
 rw[hu]at h
 split at h
 case h_9 cs0 fs' hk=>
  obtain rfl:fs=fs':=by simpa using hk
  split at h
  ·rename_i hc
   simp only[Option.map_eq_some_iff]at h
   obtain⟨xs,hx,hd⟩:=h
   obtain⟨rfl,rfl⟩:=Prod.mk.inj hd
   rw[hl]at hx
   obtain⟨x,a1,a2⟩:=h1 _ xs (by omega) hx (fun m hm=>hw m (by simpa[DataW.weights,hu,hl]using hm))
   exact⟨x,a1,by rw[List.drop_zero]at a2;exact a2⟩
  ·cases h
 all_goals simp_all
theorem Came.map {n:Nat} {t:TypeId} {α β:Type} {en:α→AV} {ok:α→Prop} {en':β→AV} {ok':β→Prop} (h:Came enc P w n t en ok) (g:α→β) (hg: ∀x,ok x→ok' (g x)∧en' (g x)=en x):Came enc P w n t en' ok':=by
 intro cs d ps h1 h2
 obtain⟨x,a1,a2⟩:=h cs d ps h1 h2
 obtain⟨b1,b2⟩:=hg x a1
 exact⟨g x,b1,by rw[b2];exact a2⟩
theorem Came.arg {t:TypeId} {α:Type} {en:α→AV} {ok:α→Prop} {base:Nat} {v:Value} {d:DataW H} {ps:List MemPlace} (h: ∀n,Came enc P w n t en ok) (ht:DataW.Trod enc P w 0 (fun _=>true) true t v d ps)
 (hv:Value.okWide P w .any base t v) (hw: ∀m∈d.weights P t,m≤reachBytes) (hag: ∀x cs,en x= .agg cs→kX P t=true) (hna:kX P t=true→ ∀x,∃cs,en x= .agg cs): ∃x,ok x∧RV (wF w) bJ (en x) v:=by
 obtain⟨n,ht⟩:=ht
 obtain⟨x,a1,a2,a3⟩:=h n _ d ps ht hw
 refine⟨x,a1,?_⟩
 unfold Value.okWide at hv
 by_cases hA:kX P t=true
 ·obtain⟨cs,hcs⟩:=hna hA x
  rw[hcs]at a2 a3 ⊢
  have: ∃vs:Array Value,v= .agg vs:=by
   unfold kX at hA
   split at hA<;>split at hv<;>simp_all<;>(obtain⟨vs,rfl,_⟩:=hv;exact⟨vs,rfl⟩)
  obtain⟨vs,rfl⟩:=this
  refine .agg (by simpa[AV.cells,Value.cells]using a2) (fun i a v ha hv=>(a3 i a v (by simpa[AV.cells]using ha) (by simpa[Value.cells]using hv)).1) (fun i v hv=>?_)
  have hl:cs.length=vs.size:=by simpa[AV.cells,Value.cells]using a2
  have hi:i<cs.length:=by rw[hl];exact(Array.getElem?_eq_some_iff.1 hv).1
  exact(a3 i cs[i] v (by simp[AV.cells,hi]) (by simpa[Value.cells]using hv)).2
 ·have hc:(en x).cells= [en x]:=by
   cases he:en x with
   |agg cs=>exact absurd (hag x cs he) hA
   |_=>rfl
  rw[hc]at a2 a3
  have hvc:v.cells.toList= [v]:=by
   unfold Value.cells at a2 ⊢
   split
   ·exfalso
    unfold kX at hA
    split at hv
    ·simp_all
    ·simp_all
    ·unfold Cell.okWide Cell.ok at hv
     split at hv<;>simp_all
   ·rfl
  rw[hvc]at a3
  exact(a3 0 (en x) v rfl rfl).1
end
end Go.Ab
namespace Go.Ab
open Go.RowKit
def kI (live:List Nat):List (Nat×AV)→List (Nat×AV)
 | []=> []
 |p::r=>if live.contains p.1=true then p::kI live r else kI live r
def kJ (out:List Nat):aF→aF
 | []=> []
 |p::r=>if out.contains p.1=true then kJ out r else p::kJ out r
theorem aXh {live:List Nat}:kI live []= []:=rfl
theorem aXi {live:List Nat} {p:Nat×AV} {r:List (Nat×AV)}:kI live (p::r)=if live.contains p.1=true then p::kI live r else kI live r:=rfl
theorem aXj {out:List Nat}:kJ out []= []:=rfl
theorem aXk {out:List Nat} {p:Nat×AObj} {r:aF}:kJ out (p::r)=if out.contains p.1=true then kJ out r else p::kJ out r:=rfl
attribute [go_sem] aXh aXi aXj aXk
structure HideA {α:Type} (A:ASt→Prop) (S:α→ASt) (meas:α→Nat) (inv:α→Prop) (x:α):Prop where
 go: ∀s y,Le (S y) s→meas y<meas x→inv y→A s
inductive OweX (p:Prop):Type
 |mk
structure Owe (p:Prop) (x:OweX p):Prop where
 it:p
theorem HideA.next {α:Type} {A:ASt→Prop} {S:α→ASt} {meas:α→Nat} {inv:α→Prop} {x:α} {s:ASt} (h:HideA A S meas inv x) (y:α) (hl:Le (S y) s) (hm:meas y<meas x) (hi:Owe (inv y) .mk):A s:=h.go s y hl hm hi.it
theorem cL {α:Type} {P:Program} [Glob P] {b:Code} {Q:Exit→ASt→Prop} {n:Nat} {t:List (Nat×AV)} {o:aF} (live out:List Nat) (f:α→List (Nat×AV)) (g:α→aF) (meas:α→Nat) (inv:α→Prop) (x0:α)
 (h0:Le ⟨n,f x0++kI live t,g x0++kJ out o⟩ ⟨n,t,o⟩) (hi:Owe (inv x0) .mk)
 (hr: ∀x,inv x→ ∀A,HideA A (fun x=>⟨n,f x++kI live t,g x++kJ out o⟩) meas inv x→bY P b (mG A Q) ⟨n,f x++kI live t,g x++kJ out o⟩):bY P (.loop b) Q ⟨n,t,o⟩:=by
 refine⟨fun m s=> ∃x,m=meas x∧inv x∧s=⟨n,f x++kI live t,g x++kJ out o⟩,⟨meas x0,_,h0,x0,rfl,hi.it,rfl⟩,?_⟩
 rintro m s ⟨x,rfl,hx,rfl⟩
 exact hr x hx _ ⟨fun s y hl hm hi=>⟨meas y,_,hm,hl,y,rfl,hi,rfl⟩⟩
end Go.Ab
namespace Go.Ab
open Go.RowKit
def sY (σ:Nat→Nat) (s:ASt):ASt:= {n:=s.n,t:=s.t.map fun p=>(p.1,p.2.ren σ),o:=gY σ (fun _ b=>b) s.o}
theorem Le.ren {s:ASt} (σ τ:Nat→Nat) (h1: ∀p∈s.o,τ (σ p.1)=p.1) (h2: ∀p∈s.o,p.2.pin=true→σ p.1=p.1):Le (sY σ s) s:=by
 intro C F μ a w hs
 have h:=hs.sw
 have hlk: ∀{M y},lk (gY σ (fun _ b=>b) s.o) M=some y→ ∃x,M=σ (τ M)∧lk s.o (τ M)=some x∧y= {cP σ x with pin:=x.pin}:=fun {M y} hy=>by
  obtain⟨x,g1,g2,g3⟩:=qV (σ:=σ) (τ:=τ) h1 hy
  exact⟨x,g1,g2,g3⟩
 have htau: ∀{L x},lk s.o L=some x→τ (σ L)=L:=fun {L x} hx=>h1 _ (nS hx)
 have hloc: ∀L,aG s.o μ L≠none→aG (sY σ s).o (fun M=>μ (τ M)) (σ L)=aG s.o μ L:=fun L hL=>
  D6 (σ:=σ) (τ:=τ) (q:=fun _ b=>b) (μ':=fun M=>μ (τ M)) h1 (fun L x hx=>by show μ (τ (σ L))=μ L;rw[htau hx]) hL
 refine⟨F,fun M=>μ (τ M),⟨h.facts,h.sub,h.lentc,h.grow,h.newf,h.fr,fun M y hy=>?_,fun M y M' y' b c c' hy hy' hm hm'=>?_,fun M y b c hy hm hz=>?_,fun M y b c hy hm=>?_,fun M y y0 h0 hy hp=>?_⟩,hs.defers,hs.n,fun i x hx=>?_⟩
 ·obtain⟨x,g1,g2,rfl⟩:=hlk hy
  exact xD (h.obj _ x g2) fun L hL=>hloc L hL
 ·obtain⟨x,g1,g2,rfl⟩:=hlk hy
  obtain⟨x',g1',g2',rfl⟩:=hlk hy'
  rw[g1,g1',h.dist _ x _ x' b c c' g2 g2' hm hm']
 ·obtain⟨x,g1,g2,rfl⟩:=hlk hy
  exact h.excl _ x b c g2 hm (by simpa[xB]using hz)
 ·obtain⟨x,g1,g2,rfl⟩:=hlk hy
  exact h.mine _ x b c g2 hm
 ·obtain⟨x,g1,g2,rfl⟩:=hlk hy
  have hp:x.pin=true:=hp
  have e:σ (τ M)=τ M:=h2 _ (nS g2) hp
  have hM:M=τ M:=g1.trans e
  rw[hM]at h0
  have:=h.keep _ x y0 h0 g2 hp
  rw[←hM]at this
  show μ (τ M)=_∧_
  rw[←hM]
  exact⟨this.1,by rw[sJ];exact this.2.1,by show(cP _ x).arr=_;rw[xA];exact this.2.2⟩
 ·simp only[sY]at hx
  rw[qU (fun y:AV=>y.ren σ)]at hx
  cases hy:lk s.t i with
  |none=>simp[hy]at hx
  |some y=>
   simp[hy]at hx
   subst hx
   have hv:=hs.slot i y hy
   exact hv.ren fun L hL=>hloc L (hv.has_loc L hL)
def yU (P:Program) [Glob P] (rs:List ResultVar) (R:AV→aF→Prop):Exit→ASt→Prop
 | .normal,s=> ∃s0 xs,Le s0 s∧eV P s0 rs=some xs∧R (gC xs) s0.o
 | .ret,s=> ∃s0 xs,Le s0 s∧eV P s0 rs=some xs∧R (gC xs) s0.o
 |_,_=>False
theorem eM {P:Program} [Glob P] {f:FuncId} {fn:Func} {c:Code} {args:List AV} {o:aF} {R:AV→aF→Prop} (hf:P.funcs[f]?=some fn) (hc: ∀cargs w,(callFunc f cargs).run P w= .ok (.enter f cargs) w) (hb:fn.body=some c)
 (hn:args.length≤fn.ntmps) (h:bY P c (yU P fn.results.toList R) (mI fn.ntmps args o)):MCall P f args o R:=by
 refine aAb hf hc hb hn fun C _ F μ a w hm hs=>?_
 refine wpIn_mono (oY c _ _ (.inl rfl) h C F μ a w hm hs) ?_
 rintro e a' w' ⟨F',μ',s',hq,hm',hs'⟩
 cases e with
 |normal=>
  obtain⟨s0,xs,hl,h1,h2⟩:=hq
  obtain⟨F2,μ2,hs2⟩:=hl _ F' μ' a' w' hs'
  exact⟨F2,μ2,s0,⟨xs,h1,h2⟩,hm',hs2⟩
 |ret=>
  obtain⟨s0,xs,hl,h1,h2⟩:=hq
  obtain⟨F2,μ2,hs2⟩:=hl _ F' μ' a' w' hs'
  exact⟨F2,μ2,s0,⟨xs,h1,h2⟩,hm',hs2⟩
 |_=>exact hq.elim
end Go.Ab
namespace Go.Ab
open Go.RowKit
def dI (ps:List (Nat×Nat)) (L:Nat):Nat:=match lk ps L with
 |some M=>M
 |none=>L
theorem aXl {L:Nat}:dI [] L=L:=rfl
theorem aXm {k v L:Nat} {r:List (Nat×Nat)}:dI ((k,v)::r) L=if k=L then v else dI r L:=by
 unfold dI;simp only[lk];by_cases h:k=L
 ·rw[if_pos h,if_pos h]
 ·rw[if_neg h,if_neg h]
theorem bG {P:Program} [Glob P] {s:ASt} {k:ASt→Prop} {g:FuncId} {as:List AV} {d:Nat} (ps qs:List (Nat×Nat)) (B:Nat) (oc:aF) (ac:List AV) {r0:AV} {o0:aF} (hf:Fits (dI ps) (dI qs) B oc s.o) (hac:AV.labsL (dG oc) ac=true) (has:as=ac.map (AV.ren (dI ps)))
 (hc:MCall P g ac oc (fun r o'=>r=r0∧o'=o0)) (hd:d<s.n) (hrest:nM (dI ps) (dI qs) oc o0 s.o=true) (hk:k (mD (dI ps) (dI qs) B oc s d r0 o0)):bU P (.c g as) (some d) k s:=
 aAd (dI ps) (dI qs) B oc ac hf hac has hc hd fun r o' h=>by obtain⟨rfl,rfl⟩:=h;exact⟨hrest,hk⟩
theorem aXn {P:Program} [Glob P] {s:ASt} {k:ASt→Prop} {g:FuncId} {as:List AV} {d:Nat} (ks:List Nat) (ps qs:List (Nat×Nat)) (B:Nat) (oc:aF) (ac:List AV) {r0:AV} {o0:aF} (hf:Fits (dI ps) (dI qs) B oc (killOs ks s.o)) (hac:AV.labsL (dG oc) ac=true) (has:as=ac.map (AV.ren (dI ps)))
 (hc:MCall P g ac oc (fun r o'=>r=r0∧o'=o0)) (hd:d<s.n) (hrest:nM (dI ps) (dI qs) oc o0 (killOs ks s.o)=true) (hk:k (mD (dI ps) (dI qs) B oc {s with o:=killOs ks s.o} d r0 o0)):bU P (.c g as) (some d) k s:=
 ⟨hd,.inr (.inr (.inr ⟨ks,dI ps,dI qs,B,oc,ac,_,hf,hac,has,hc,fun r o' h=>by obtain⟨rfl,rfl⟩:=h;exact⟨hrest,hk⟩⟩))⟩
theorem aXo {o:aF}:killOs [] o=o:=rfl
theorem aXp {T:Nat} {r:List Nat} {o:aF}:killOs (T::r) o=killOs r (killO T o):=rfl
attribute [go_sem] aXo aXp
def rG (q:Nat→Bool):List (Nat×AV)→List (Nat×AV)
 | []=> []
 |p::r=>(p.1,if p.2.labs q=true then p.2 else .dead)::rG q r
theorem aBm (q:Nat→Bool): ∀t:List (Nat×AV),t.map (fun p=>(p.1,if p.2.labs q=true then p.2 else .dead))=rG q t
 | []=>rfl
 |p::r=>by simp only[List.map_cons,rG,aBm q r]
theorem aXq {q:Nat→Bool}:rG q []= []:=rfl
theorem aXr {q:Nat→Bool} {p:Nat×AV} {r:List (Nat×AV)}:rG q (p::r)=(p.1,if p.2.labs q=true then p.2 else .dead)::rG q r:=rfl
def rH (σ:Nat→Nat) (q:Nat→Bool):aF→aF
 | []=> []
 |p::r=>(σ p.1,{cP σ p.2 with pin:=q p.1})::rH σ q r
theorem aXs {σ:Nat→Nat} {q:Nat→Bool}:rH σ q []= []:=rfl
theorem aXt {σ:Nat→Nat} {q:Nat→Bool} {p:Nat×AObj} {r:aF}:rH σ q (p::r)=(σ p.1,{cP σ p.2 with pin:=q p.1})::rH σ q r:=rfl
theorem aBn (σ:Nat→Nat) (q:Nat→Bool): ∀o:aF,gY σ (fun L _=>q L) o=rH σ q o
 | []=>rfl
 |p::r=>by simp only[gY,List.map_cons,rH]at*;rw[←aBn σ q r];rfl
theorem aXu {σ τ:Nat→Nat} {B:Nat} {oc:aF} {s:ASt} {d:Nat} {r:AV} {o':aF}:mD σ τ B oc s d r o'=
 ⟨s.n,(d,r.ren (fN σ B oc o'))::rG (oU σ τ oc o') s.t,rH (fN σ B oc o') (fun L=>jK oc o' L&&gZ s.o (σ L)) o'++hZ σ oc s.o⟩:=by
 unfold mD nL
 rw[aBm,aBn]
theorem aXv {σ:Nat→Nat} {oc:aF}:hZ σ oc []= []:=rfl
theorem aXw {σ:Nat→Nat} {oc:aF} {p:Nat×AObj} {r:aF}:hZ σ oc (p::r)=if iS σ oc p.1=true then hZ σ oc r else p::hZ σ oc r:=by
 unfold hZ;rw[List.filter_cons];cases iS σ oc p.1<;>simp
theorem aXx {σ:Nat→Nat} {M:Nat}:iS σ [] M=false:=rfl
theorem aXy {σ:Nat→Nat} {p:Nat×AObj} {oc:aF} {M:Nat}:iS σ (p::oc) M=(decide (σ p.1=M)||iS σ oc M):=by
 unfold iS;rw[List.any_cons];rfl
theorem aXz {L:Nat}:dG [] L=false:=rfl
theorem aX0 {p:Nat×AObj} {o:aF} {L:Nat}:dG (p::o) L=(decide (p.1=L)||dG o L):=by
 unfold dG;obtain⟨k,x⟩:=p;simp only[lk];by_cases h:k=L
 ·simp[h]
 ·simp[h]
theorem aX1 {L:Nat}:gZ [] L=false:=rfl
theorem aX2 {p:Nat×AObj} {o:aF} {L:Nat}:gZ (p::o) L=if p.1=L then p.2.pin else gZ o L:=by
 unfold gZ;obtain⟨k,x⟩:=p;simp only[lk];by_cases h:k=L
 ·rw[if_pos h,if_pos h]
 ·rw[if_neg h,if_neg h]
theorem aX3 {oc o':aF} {L:Nat}:jK oc o' L=(dG oc L&&gZ o' L):=rfl
theorem aX4 {σ τ:Nat→Nat} {oc o':aF} {M:Nat}:oU σ τ oc o' M=(!iS σ oc M||jK oc o' (τ M)):=rfl
theorem aX5 {σ:Nat→Nat} {B:Nat} {oc o':aF} {L:Nat}:fN σ B oc o' L=if jK oc o' L=true then σ L else L+B:=rfl
theorem aX6 {σ τ:Nat→Nat} {oc o' s:aF}:nM σ τ oc o' s=(hZ σ oc s).all fun p=>p.2.arr||AV.labsL (oU σ τ oc o') p.2.xs:=rfl
theorem aX7 {σ:Nat→Nat} {fz pin:Bool} {es kd:Nat} {xs:List AV}:cP σ ⟨true,fz,pin,es,xs,kd⟩=⟨true,fz,pin,es,xs,kd⟩:=rfl
theorem aX8 {σ:Nat→Nat} {fz pin:Bool} {es kd:Nat} {xs:List AV}:cP σ ⟨false,fz,pin,es,xs,kd⟩=⟨false,fz,pin,es,xs.map (AV.ren σ),kd⟩:=rfl
theorem aX9 {σ:Nat→Nat} {x y:AObj}:D8 σ x (some y)=(y.kd=x.kd∧y.arr=x.arr∧y.fz=x.fz∧y.es=x.es∧y.xs=(cP σ x).xs):=rfl
theorem aYa {B:Nat}:lD B []=true:=rfl
theorem aYb {B:Nat} {p:Nat×AObj} {o:aF}:lD B (p::o)=(decide (p.1<B)&&lD B o):=rfl
attribute [go_sem] aXl aXm aXq aXr aXs aXt aXu aXv aXw aXx aXy aXz aX0 aX1 aX2 aX3 aX4 aX5 aX6 aX7 aX8 aX9 aYa aYb
 AV.ren AV.renL AV.labs AV.labsL List.all_cons List.all_nil List.forall_mem_cons
def yV (q:Option (List AV)) (z y:Option St):Option St:=match q with
 |some []=>z
 |_=>y
def J6 (a:Option (TypeId×Nat×Nat)) (b:Bool) (d:Nat) (s:ASt):Option St:=match a,b with
 |some _,true=>some ⟨decide (d<s.n),s.put d (.sc (.slice none 0 0))⟩
 |_,_=>none
theorem aYc {P:Program} [Glob P] {st xt:TypeId} {b:AV} {d:Nat} {s:ASt}:nH P st xt (.sc (.slice none 0 0)) b d s=yV (gA s.o b) (J6 (bK P st) (fB P xt) d s) (oR P st xt (.list false true []) b d s):=by
 unfold nH yV J6
 cases gA s.o b with
 |none=>rfl
 |some l=>cases l<;>rfl
theorem aYd {z y:Option St}:yV (some []) z y=z:=rfl
theorem aYe {a:AV} {l:List AV} {z y:Option St}:yV (some (a::l)) z y=y:=rfl
theorem aYf {q:TypeId×Nat×Nat} {d:Nat} {s:ASt}:J6 (some q) true d s=some ⟨decide (d<s.n),s.put d (.sc (.slice none 0 0))⟩:=rfl
attribute [go_sem] aYc aYd aYe aYf
def yW (n L:Nat) (x:Option AObj):Option Sv:=match x with
 |some x=>if x.arr=true then some ⟨decide (n≠0),.ptr L 0 0⟩else none
 |none=>none
def vO (z:Option Sv) (o:aF):Option AV→Option Sv
 |some (.ref L 0 n)=>yW n L (lk o L)
 |_=>z
theorem aYg {z:Option Sv} {o:aF} {L n:Nat}:vO z o (some (.ref L 0 n))=yW n L (lk o L):=rfl
theorem aYh {z:Option Sv} {o:aF} {v:Value}:vO z o (some (.sc v))=z:=rfl
theorem aYi {n L:Nat} {fz pin:Bool} {es kd:Nat} {xs:List AV}:yW n L (some ⟨true,fz,pin,es,xs,kd⟩)=some ⟨decide (n≠0),.ptr L 0 0⟩:=rfl
theorem aYj {P:Program} [Glob P] {d:Nat} {x:Operand} {ts:Array TypeId} {ty:TypeId} {pos:String} {af g} {s:ASt}:aW P ⟨some d,.call ⟨.builtin .unsafeSliceData,#[x],ts⟩,ty,pos,af,g⟩ s=
 dC (vO (eE P ⟨some d,.call ⟨.builtin .unsafeSliceData,#[x],ts⟩,ty,pos,af,g⟩ (bW P s.t)) s.o (bW P s.t x)):=by
 have e:aW P ⟨some d,.call ⟨.builtin .unsafeSliceData,#[x],ts⟩,ty,pos,af,g⟩ s=dC (match bW P s.t x with
  |some (.ref L lo n)=>qT L lo n s.o
  |_=>eE P ⟨some d,.call ⟨.builtin .unsafeSliceData,#[x],ts⟩,ty,pos,af,g⟩ (bW P s.t)):=rfl
 rw[e]
 cases hx:bW P s.t x with
 |none=>rfl
 |some a=>
  cases a with
  |ref L lo n=>
   cases lo with
   |zero=>
    simp only[vO,yW,qT]
    cases lk s.o L with
    |none=>rfl
    |some x=>simp
   |succ lo=>
    have:qT L (lo+1) n s.o=none:=by
     unfold qT
     cases lk s.o L with
     |none=>rfl
     |some x=>simp
    simp only[vO,this]
    unfold eE
    rw[if_neg]
    rintro⟨_,h⟩
    have:=h x (by simp[Op.operands,Call.operands])
    rw[hx]at this
    simp[eZ,mR]at this
  |_=>rfl
attribute [go_sem] aYj aYg aYh aYi
theorem aBo: ∀l:List UInt8,bytesOf (l.map fQ)=some l
 | []=>rfl
 |c::l=>by
  have h:=c.toNat_lt
  simp only[List.map_cons,fQ,bytesOf,aBo l]
  rw[if_pos (by constructor<;>omega)]
  simp
theorem aYk {P:Program} [Glob P] {pt:TypeId} {L d:Nat} {s:ASt} {l:List UInt8} {pin:Bool} {kd:Nat}:uR P pt L d (l.length:Int) s (some ⟨true,false,pin,1,l.map fQ,kd⟩)=
 if E3 P pt kd=true then some ⟨decide (d<s.n∧l≠ []),(s.renew0 L L (cD 1 [])).put d (.sc (.string ⟨l.toArray⟩))⟩else none:=by
 simp only[uR,aBo]
 simp
attribute [go_sem] aYk
theorem aYl {n:Nat} {t:List (Nat×AV)} {o:aF} {L T:Nat} {x:AObj}:ASt.renew0 ⟨n,t,o⟩ L T x=⟨n,eS L (eS T t),(T,x)::killO L (killO T (eF o L))⟩:=rfl
attribute [go_sem] aYl
theorem aYm {P:Program} [Glob P] {t:TypeId}:lU P t (.sc (.slice none 0 0))=rE (bK P t) 0:=rfl
attribute [go_sem] aYm
theorem aYn:cK=140737488355328:=rfl
attribute [go_sem] aYn
theorem aYo {n:Nat} {as:List AV} {o:aF}:mI n as o=⟨n,(as.zipIdx 0).map fun p=>(p.2,p.1),o⟩:=rfl
theorem Fits.mk' {σ τ:Nat→Nat} {B:Nat} {oc s:aF} (h1:lD B s=true) (h2: ∀p∈oc,τ (σ p.1)=p.1∧p.2.pin=true∧D8 σ p.2 (lk s (σ p.1))∧(p.2.arr||AV.labsL (dG oc) p.2.xs)=true):Fits σ τ B oc s:=⟨h1,h2⟩
theorem cV {P:Program} [Glob P] {rs:List ResultVar} {R:AV→aF→Prop} {s:ASt} (s0:ASt) (xs:List AV) (hl:Le s0 s) (h1:eV P s0 rs=some xs) (h2:R (gC xs) s0.o):yU P rs R .ret s:=⟨s0,xs,hl,h1,h2⟩
theorem rI {P:Program} [Glob P] {rs:List ResultVar} {R:AV→aF→Prop} {s:ASt} (s0:ASt) (xs:List AV) (hl:Le s0 s) (h1:eV P s0 rs=some xs) (h2:R (gC xs) s0.o):yU P rs R .normal s:=⟨s0,xs,hl,h1,h2⟩
theorem Le.renSub {s0 s:ASt} (ps qs:List (Nat×Nat)) (h1: ∀p∈s.o,dI qs (dI ps p.1)=p.1) (h2: ∀p∈s.o,p.2.pin=true→dI ps p.1=p.1) (hl:Le s0 (sY (dI ps) s)):Le s0 s:=hl.trans (Le.ren _ _ h1 h2)
def rJ (σ:Nat→Nat):List (Nat×AV)→List (Nat×AV)
 | []=> []
 |p::r=>(p.1,p.2.ren σ)::rJ σ r
theorem aYp {σ:Nat→Nat}:rJ σ []= []:=rfl
theorem aYq {σ:Nat→Nat} {p:Nat×AV} {r:List (Nat×AV)}:rJ σ (p::r)=(p.1,p.2.ren σ)::rJ σ r:=rfl
def rK (σ:Nat→Nat):aF→aF
 | []=> []
 |p::r=>(σ p.1,{cP σ p.2 with pin:=p.2.pin})::rK σ r
theorem aYr {σ:Nat→Nat}:rK σ []= []:=rfl
theorem aYs {σ:Nat→Nat} {p:Nat×AObj} {r:aF}:rK σ (p::r)=(σ p.1,{cP σ p.2 with pin:=p.2.pin})::rK σ r:=rfl
theorem aYt {σ:Nat→Nat} {n:Nat} {t:List (Nat×AV)} {o:aF}:sY σ ⟨n,t,o⟩=⟨n,rJ σ t,rK σ o⟩:=by
 have h1: ∀t:List (Nat×AV),t.map (fun p=>(p.1,p.2.ren σ))=rJ σ t:=fun t=>by
  induction t with
  |nil=>rfl
  |cons p r ih=>simp only[List.map_cons,rJ,ih]
 have h2: ∀o:aF,gY σ (fun _ b=>b) o=rK σ o:=fun o=>by
  induction o with
  |nil=>rfl
  |cons p r ih=>simp only[gY,List.map_cons,rK]at*;rw[ih]
 simp only[sY,h1,h2]
attribute [go_sem] aYp aYq aYr aYs aYt aYo
theorem zHg {P:Program} [Glob P] {Q:Exit→ASt→Prop} {K:ASt→Prop} {c:Code} {s:ASt} (k:bY P c Q s) (h:Hide K (bY P c Q):=by assumption):K s:=Hide.go h k
theorem zAo {a b:Prop} (hb:b) (ha:a:=by omega):a∧b:=⟨ha,hb⟩
theorem zDr {P:Program} [Glob P] {id:Nat} {ops:Array Oper} {Q:Exit→ASt→Prop} {s:ASt} (m:Nat) (hm:P.follows .mixedOrders=true) (h:jM P ops m ops.toList (Q .normal) s) (hok:jN ops m=true:=by decide+kernel):bY P (.region id ops true) Q s:=aAe m hm hok h
theorem zT:(∀i:Decidable True,@decide True i=true)∧(∀i:Decidable False,@decide False i=false)∧((¬False)=True):=⟨fun _=>by simp,fun _=>by simp,by simp⟩
end Go.Ab
