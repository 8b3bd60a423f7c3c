import Derived.Test.YtgmibdiofkmmbaaGreatDoorA3
import Derived.ProofKit
import Derived.OpenShut
import Derived.ReadAgain
import Derived.ChangeStays
import Derived.ChangeSame
import Derived.SizedLaws
import Derived.ChangeReads
set_option linter.all false
namespace Go.Ab
open Go.RowKit
section
variable {P : Program} [Glob P] {Q : Exit -> ASt -> Prop} {s : ASt} {k : ASt -> Prop}
theorem aYr:cY P .skip Q s=Q .normal s:=rfl
theorem aYs {id:Nat} {ops:Array Oper}:cY P (.region id ops false) Q s=pI P ops ops.toList (Q .normal) s:=by simp[cY]
def pO (P:Program) [Glob P] (v:Option AV) (x y:Code) (Q:Exit->ASt->Prop) (s:ASt):Prop:=
 match v with
 |some (.sc (.bool b))=>(b=true->cY P x Q s)/\(b=false->cY P y Q s)
 |_=>False
theorem aYt {c:Operand} {x y:Code}:cY P (.cond c x y) Q s=pO P (ev s.t c) x y Q s:=rfl
theorem aYu {id:Nat} {b:Code}:cY P (.block id b) Q s=cY P b (wE id Q) s:=rfl
theorem aYv {id:Nat}:cY P (.exit id) Q s=Q (.exit id) s:=rfl
theorem aYw:cY P .ret Q s=Q .ret s:=rfl
theorem aYx {K:ASt->Prop}:rK K Q .normal s=K s:=rfl
theorem aYy {K:ASt->Prop}:rK K Q .ret s=Q .ret s:=rfl
theorem aYz {K:ASt->Prop} {id:Nat}:rK K Q (.exit id) s=Q (.exit id) s:=rfl
theorem aY0 {id:Nat}:wE id Q .normal s=Q .normal s:=rfl
theorem aY1 {id:Nat}:wE id Q .ret s=Q .ret s:=rfl
theorem aY2 {id id':Nat}:wE id Q (.exit id') s=if id'=id then Q .normal s else Q (.exit id') s:=rfl
theorem aY3 {x y:Code}:pO P (some (.sc (.bool true))) x y Q s=cY P x Q s:=by simp[pO]
theorem aY4 {x y:Code}:pO P (some (.sc (.bool false))) x y Q s=cY P y Q s:=by simp[pO]
theorem aY5 {b:Bool} {x y:Code} (h1:b=true->cY P x Q s) (h2:b=false->cY P y Q s):pO P (some (.sc (.bool b))) x y Q s:=⟨h1,h2⟩
theorem aY6 {p:Prop} [Decidable p] {x y:Code} (h1:p->cY P x Q s) (h2: ¬p->cY P y Q s):pO P (some (.sc (.bool (decide p)))) x y Q s:=
 ⟨fun h=>h1 (of_decide_eq_true h),fun h=>h2 (of_decide_eq_false h)⟩
theorem aY7 {p:Prop} [Decidable p] {x y:Code} (h1: ¬p->cY P x Q s) (h2:p->cY P y Q s):pO P (some (.sc (.bool (!decide p)))) x y Q s:=
 ⟨fun h=>h1 (by simpa using h),fun h=>h2 (by simpa using h)⟩
def S2 (P:Program) [Glob P] (rs:List ResultVar) (fs:List Nat) (R:AV->Prop) (s:ASt):Prop:=match sO P rs fs s with
 |some r=>R r
 |none=>False
theorem aL {rs:List ResultVar} {R:AV->Prop} (fs:List Nat) (h:S2 P rs fs R s):aKi P rs R .ret s:=by
 unfold S2 at h
 split at h
 ·rename_i r hr;exact⟨fs,r,hr,h⟩
 ·exact h.elim
theorem aY8 {ops:Array Oper}:pI P ops [] k s=k s:=rfl
theorem aY9 {ops:Array Oper} {o:Oper} {r:List Oper}:pI P ops (o::r) k s=gK P (iO ops o.guard s) o (pI P ops r k) s:=rfl
theorem aZa {ops:Array Oper}:iO ops none s= .run:=rfl
theorem aZb {o:Oper}:gK P .skip o k s=vZ o.dst k s:=rfl
theorem aZc {o:Oper}:fD P .skip o k s=wA o.dst k s:=rfl
theorem aZd {d:Nat}:R4 (some d) k s=(d<s.n/\k (s.put d .dead)):=rfl
theorem aZe {o:Oper}:gK P .run o k s=cG P o k s:=rfl
theorem aZf {o:Oper}:gK P (.test true true) o k s=cG P o k s:=by simp[gK]
theorem aZg {o:Oper}:gK P (.test false false) o k s=cG P o k s:=by simp[gK]
theorem aZh {o:Oper}:gK P (.test true false) o k s=vZ o.dst k s:=by simp[gK]
theorem aZi {o:Oper}:gK P (.test false true) o k s=vZ o.dst k s:=by simp[gK]
theorem aC0 {b want:Bool} {o:Oper} (h1:b=true->gK P (.test true want) o k s) (h2:b=false->gK P (.test false want) o k s):gK P (.test b want) o k s:=by
 cases b
 ·exact h2 rfl
 ·exact h1 rfl
theorem aZj {p:Prop} [Decidable p] {want:Bool} {o:Oper} (h1:p->gK P (.test true want) o k s) (h2: ¬p->gK P (.test false want) o k s):gK P (.test (decide p) want) o k s:=
 aC0 (fun h=>h1 (of_decide_eq_true h)) (fun h=>h2 (of_decide_eq_false h))
theorem aZk {p:Prop} [Decidable p] {want:Bool} {o:Oper} (h1: ¬p->gK P (.test true want) o k s) (h2:p->gK P (.test false want) o k s):gK P (.test (!decide p) want) o k s:=
 aC0 (fun h=>h1 (by simpa using h)) (fun h=>h2 (by simpa using h))
theorem aZl {d:Nat}:vZ (some d) k s=(d<s.n/\k (s.put d (.tup []))):=rfl
theorem aZm {n:Bool} {a:AV} {d:Nat}:dB P (.v ⟨n,a⟩) (some d) k s=(n/\d<s.n/\k (s.put d a)):=rfl
theorem aZn {n:Bool} {s':ASt} {d:Option Nat}:dB P (.h ⟨n,s'⟩) d k s=(n/\k s'):=by cases d<;>rfl
theorem aC1 {g:FuncId} {as bs:List AV} {d:Nat} {R:AV->Prop} (fs:List Nat) (s1:ASt) (hf:nE fs s=some s1) (hl:lB s1.o as=some bs) (hc:ACall P g bs R) (hd:d<s.n) (hk: ∀r,R r->k (qG s1 d r)):
 dB P (.c g as) (some d) k s:=⟨hd,.inl ⟨fs,s1,bs,R,hf,hl,hc,hk⟩⟩
theorem aKo {g:FuncId} {as:List AV} {d:Nat} (σ τ:Nat->Nat) (B:Nat) (oc:aK) (ac:List AV) {R:AV->aK->Prop} (hf:Fits σ τ B oc s.o) (hac:AV.labsL (eR oc) ac=true) (has:as=ac.map (AV.ren σ)) (hc:MCall P g ac oc R) (hd:d<s.n)
 (hk: ∀r o',R r o'->qN σ τ oc o' s.o=true/\k (nX σ τ B oc s d r o')):dB P (.c g as) (some d) k s:=⟨hd,.inr (.inr (.inr ⟨[],σ,τ,B,oc,ac,R,hf,hac,has,hc,hk⟩))⟩
theorem aZp {g:FuncId} {as:List AV} {d:Nat} {r:AV} (h:XCall P g as s r) (hd:d<s.n) (hk:k (s.put d r)):dB P (.c g as) (some d) k s:=⟨hd,.inr (.inr (.inl ⟨r,h,hk⟩))⟩
theorem aI {g:FuncId} {as bs:List AV} {d:Nat} {r:AV} (hl:lB s.o as=some bs) (hc:ACall P g bs (fun x=>x=r)) (hd:d<s.n) (hk:k (qG s d r)):
 dB P (.c g as) (some d) k s:=aC1 [] s rfl hl hc hd fun _ h=>h▸hk
theorem aKp {id:Nat} {ops:Array Oper} (m:Nat) (hm:P.follows .mixedOrders=true) (hok:nH ops m=true) (h:nG P ops m ops.toList (Q .normal) s):cY P (.region id ops true) Q s:=⟨s,Le.refl s,hm,.inl ⟨m,hok,h⟩⟩
theorem S3 {id:Nat} {ops:Array Oper} {s0:ASt} (hl:Le s0 s) (h:cY P (.region id ops true) Q s0):cY P (.region id ops true) Q s:=by
 obtain⟨s1,h1,h2⟩:=h
 exact⟨s1,h1.trans hl,h2⟩
theorem aZq {ops:Array Oper} {l:List Oper}:nG P ops 0 l k s=rJ P ((ops.toList.take (ops.size - l.length)).filter hC) (pI P ops l k) s:=rfl
theorem aZr:rJ P [] k s=k s:=rfl
theorem aZs {d:Option Nat} {op:Op} {ty:TypeId} {pos af g}:hC ⟨d,op,ty,pos,af,g⟩=match op,d,g with
 | .alloc _,some _,none=>true
 |_,_,_=>false:=rfl
theorem aZt {t:TypeId} {d:Nat} {ty:TypeId} {pos af g} {r:List Oper}:rJ P (⟨some d,.alloc t,ty,pos,af,g⟩::r) k s=match aR P t with
 |some z=>z.plain=true/\d<s.n/\rJ P r k ((s.adopt d (kB z)).put d (.ptr d 0 0))
 |none=>False:=rfl
theorem aZu {ops:Array Oper} {m:Nat} {o:Oper} {r:List Oper}:nG P ops (m+1) (o::r) k s=fD P (iO ops o.guard s) o (nG P ops m r k) s:=rfl
theorem aZv {o:Oper}:fD P .run o k s=wB P o k s:=rfl
theorem aZw {o:Oper}:fD P (.test true true) o k s=wB P o k s:=by simp[fD]
theorem aZx {o:Oper}:fD P (.test false false) o k s=wB P o k s:=by simp[fD]
theorem aZy {o:Oper}:fD P (.test true false) o k s=wA o.dst k s:=by simp[fD]
theorem aZz {o:Oper}:fD P (.test false true) o k s=wA o.dst k s:=by simp[fD]
theorem aC2 {b want:Bool} {o:Oper} (h1:b=true->fD P (.test true want) o k s) (h2:b=false->fD P (.test false want) o k s):fD P (.test b want) o k s:=by
 cases b
 ·exact h2 rfl
 ·exact h1 rfl
theorem aZ0 {p:Prop} [Decidable p] {want:Bool} {o:Oper} (h1:p->fD P (.test true want) o k s) (h2: ¬p->fD P (.test false want) o k s):fD P (.test (decide p) want) o k s:=
 aC2 (fun h=>h1 (of_decide_eq_true h)) (fun h=>h2 (of_decide_eq_false h))
theorem aZ2 {d:Nat}:wA (some d) k s=(d<s.n/\k (s.put d (.tup []))):=rfl
theorem aZ3 {o:Oper}:wB P o k s=match hC o with
 |true=>R4 o.dst k s
 |false=>zP P (bR P o s) o.dst k s:=rfl
theorem aZ4 {n:Bool} {a:AV} {d:Nat}:zP P (.v ⟨n,a⟩) (some d) k s=(n/\d<s.n/\k (s.put d a)):=rfl
theorem bI {g:FuncId} {as bs:List AV} {d:Nat} {r:AV} (hl:lB s.o as=some bs) (hc:ACall P g bs (fun x=>x=r)) (hf:H7 r=true) (hd:d<s.n) (hk:k (s.put d r)):
 zP P (.c g as) (some d) k s:=⟨hd,bs,r,hl,hc,hf,hk⟩
theorem aZ6 {n:Nat} {t:List (Nat×AV)} {o:aK} {d:Nat} {a:AV}:ASt.put ⟨n,t,o⟩ d a=⟨n,(d,a)::t,o⟩:=rfl
theorem aZ7 {n:Nat} {t:List (Nat×AV)} {o:aK} {d:Nat} {x:AObj} {r:AV}:ASt.fresh ⟨n,t,o⟩ d x r=⟨n,(d,r)::iN d t,(d,x)::killO d o⟩:=rfl
theorem aZ8 {n:Nat} {t:List (Nat×AV)} {o:aK} {L T d:Nat} {x:AObj} {r:AV}:ASt.renew ⟨n,t,o⟩ L T d x r=⟨n,(d,r)::iN L (iN T t),(T,x)::killO L (killO T (cW o L))⟩:=rfl
theorem aZ9 {n:Nat} {t:List (Nat×AV)} {o:aK} {T:Nat} {x:AObj}:ASt.adopt ⟨n,t,o⟩ T x=⟨n,iN T (iN T t),(T,x)::killO T (killO T (cW o T))⟩:=rfl
theorem bAa {α:Type} {i:Nat}:lk ([]:List (Nat×α)) i=none:=rfl
theorem bAb {α:Type} {k i:Nat} {a:α} {r:List (Nat×α)}:lk ((k,a)::r) i=if k=i then some a else lk r i:=rfl
theorem aC3 {L:Nat}:iN L []= []:=rfl
theorem aC4 {L i:Nat} {a:AV} {r:List (Nat×AV)}:iN L ((i,a)::r)=(i,kill1 L a)::iN L r:=rfl
theorem aC5 {L:Nat}:killO L []= []:=rfl
theorem S4 {L i:Nat} {x:AObj} {r:aK}:killO L ((i,x)::r)=(i,eD L x)::killO L r:=rfl
theorem S5 {kd:Nat} {L es:Nat} {fz pin:Bool} {xs:List AV}:eD L ⟨true,fz,pin,es,xs,kd⟩=⟨true,fz,pin,es,xs,kd⟩:=rfl
theorem aC6 {kd:Nat} {L es:Nat} {fz pin:Bool} {xs:List AV}:eD L ⟨false,fz,pin,es,xs,kd⟩=⟨false,fz,pin,es,xs.map (kill1 L),kd⟩:=rfl
theorem aC7 {L:Nat}:cW [] L= []:=rfl
theorem S6 {L i:Nat} {x:AObj} {r:aK}:cW ((i,x)::r) L=if i=L then cW r L else(i,x)::cW r L:=by
 simp only[cW,List.filter_cons]
 by_cases h:i=L<;>simp[h]
theorem aKq {L:Nat} {v:Value}:kl L (.sc v)= .sc v:=by simp[kl,kt,AV.has]
theorem aKr {L:Nat} {l f:Bool} {xs:List AV}:kl L (.list l f xs)= .list l f xs:=by simp[kl,kt,AV.has]
theorem aKs {L i o:Nat} {l:Bool} {xs:List AV}:kl L (.iptr l xs i o)= .iptr l xs i o:=by simp[kl,kt,AV.has]
theorem aKt {L L' a b:Nat}:kl L (.ref L' a b)=if L=L' then .dead else .ref L' a b:=by simp[kl,kt,AV.has]
theorem aKu {L L' a b:Nat}:kl L (.ptr L' a b)=if L=L' then .dead else .ptr L' a b:=by simp[kl,kt,AV.has]
theorem aKw {L L':Nat}:kl L (.mp L')=if L=L' then .dead else .mp L':=by simp[kl,kt,AV.has]
theorem bAc {L L':Nat}:kill1 L (.mp L')=if L=L' then .dead else .mp L':=aKw
theorem aKx {L:Nat}:kl L .dead= .dead:=by simp[kl,kt,AV.has]
theorem aKy {L:Nat} {g:FuncId} {cs:List AV}:kl L (.clo g cs)=if AV.hasL L cs=true then .dead else .clo g cs:=rfl
theorem aKz {L:Nat} {cs:List AV}:kl L (.tup cs)= .tup (cs.map (kt L)):=rfl
theorem bAd {L:Nat} {a:AV}:kt L a=if a.has L=true then .dead else a:=rfl
theorem zS {L:Nat} {v:Value}:kill1 L (.sc v)= .sc v:=aKq
theorem S7 {L:Nat} {l f:Bool} {xs:List AV}:kill1 L (.list l f xs)= .list l f xs:=aKr
theorem aC8 {L i o:Nat} {l:Bool} {xs:List AV}:kill1 L (.iptr l xs i o)= .iptr l xs i o:=aKs
theorem S8 {L L' a b:Nat}:kill1 L (.ref L' a b)=if L=L' then .dead else .ref L' a b:=aKt
theorem S9 {L L' a b:Nat}:kill1 L (.ptr L' a b)=if L=L' then .dead else .ptr L' a b:=aKu
theorem T0 {L:Nat}:kill1 L .dead= .dead:=aKx
theorem aC9 {L:Nat} {g:FuncId} {cs:List AV}:kill1 L (.clo g cs)=if AV.hasL L cs=true then .dead else .clo g cs:=aKy
theorem xT {L:Nat} {cs:List AV}:kill1 L (.tup cs)= .tup (cs.map (kt L)):=aKz
theorem aDa {L:Nat} {cs:List AV}:kill1 L (.agg cs)= .agg (cs.map (kl L)):=rfl
theorem bAf {t:List (Nat×AV)} {i:Nat}:ev t (.tmp i)=lk t i:=rfl
theorem bAg {t:List (Nat×AV)} {v:Value}:ev t (.const v)=kO v:=rfl
theorem bAh {t:List (Nat×AV)} {f:FuncId}:ev t (.func f)=some (.clo f []):=rfl
theorem bAi {P:Program} [Glob P] {t:List (Nat×AV)} {i:Nat}:dI P t (.tmp i)=lk t i:=rfl
theorem bAj {P:Program} [Glob P] {t:List (Nat×AV)} {v:Value}:dI P t (.const v)=kO v:=rfl
theorem bAk {P:Program} [Glob P] {t:List (Nat×AV)} {f:FuncId}:dI P t (.func f)=some (.clo f []):=rfl
theorem bAl {P:Program} [Glob P] {t:List (Nat×AV)} {g:Nat}:dI P t (.global g)=Glob.tab P g:=rfl
theorem bAm {k:IntKind} {n:Int}:kO (.int k n)=some (nt k n):=rfl
theorem bAn {b:Bool}:kO (.bool b)=some (bl b):=rfl
theorem bAo {b:ByteArray}:kO (.string b)=some (.sc (.string b)):=rfl
theorem bAp:kO (.slice none 0 0)=some (.list false true []):=rfl
theorem bAq:kO (.pointer none)=some (.sc (.pointer none)):=rfl
theorem bAr:kO (.map none)=some (.sc (.map none)):=rfl
theorem bAs:kO .nilFunc=some (.sc .nilFunc):=rfl
theorem bAt:kO .nilIface=some (.sc .nilIface):=rfl
theorem aDb {k:IntKind} {n:Int}:nt k n= .sc (.int k n):=rfl
theorem bAu {b:Bool}:bl b= .sc (.bool b):=rfl
theorem bAv {r:Sv}:eZ (some r)= .v r:=rfl
theorem bAw:eZ none= .no:=rfl
theorem bAx {r:St}:kH (some r)= .h r:=rfl
theorem bAy:kH none= .no:=rfl
section ops
variable {d : Nat} {ty : TypeId} {pos : String} {af : Array Edge} {g : Option (Nat × Bool)}
theorem bAz {x:Operand}:bR P ⟨some d,.move x,ty,pos,af,g⟩ s=eZ ((dI P s.t x).map fun a=>⟨true,a⟩):=rfl
theorem bA0 {x:Operand}:bR P ⟨some d,.assign x,ty,pos,af,g⟩ s=eZ ((dI P s.t x).map fun a=>⟨true,a⟩):=rfl
theorem bA1 {c a b:Operand}:bR P ⟨some d,.pick c a b,ty,pos,af,g⟩ s=eZ (match dI P s.t c with
 |some (.sc (.bool c))=>(if c=true then dI P s.t a else dI P s.t b).map fun a=>⟨true,a⟩
 |_=>none):=rfl
theorem bA2 {t:TypeId} {a:Operand}:bR P ⟨some d,.load t a,ty,pos,af,g⟩ s=eZ (match dI P s.t a with
 |some p=>oX P t p s.o
 |none=>none):=rfl
theorem bA3 {op:BinOp} {t yt:TypeId} {x y:Operand}:bR P ⟨some d,.binOp op t x y yt,ty,pos,af,g⟩ s=eZ (match dI P s.t x,dI P s.t y with
 |some a,some b=>match oV P op t a b with
  |some r=>some r
  |none=>match kX P op t a y with
   |some r=>some r
   |none=>match dE P op t a b with
    |some r=>some r
    |none=>gT P ⟨some d,.binOp op t x y yt,ty,pos,af,g⟩ (dI P s.t)
 |_,_=>none):=rfl
theorem bA4 {op:BinOp} {t:TypeId} {a:AV} {i:Nat}:kX P op t a (.tmp i)=none:=by simp[kX,oZ]
attribute [go_sem] bA4
theorem bA9 {op:UnOp} {t:TypeId} {x:Operand}:bR P ⟨some d,.unOp op t x,ty,pos,af,g⟩ s=eZ (match dI P s.t x with
 |some a=>D9 op a
 |none=>none):=rfl
theorem bBa {t u:TypeId} {x:Operand}:bR P ⟨some d,.convert t u x,ty,pos,af,g⟩ s=eZ (match dI P s.t x with
 |some a=>if(P.underlying t).isSome=true then match vO P u a with
  |some r=>some r
  |none=>gT P ⟨some d,.convert t u x,ty,pos,af,g⟩ (dI P s.t)else none
 |none=>none):=rfl
theorem bBb {t:TypeId} {x:Operand} {f:Nat}:bR P ⟨some d,.fieldAddr t x f,ty,pos,af,g⟩ s=eZ (match dI P s.t x with
 |some p=>xH P t f p
 |none=>none):=rfl
theorem bBc {t:TypeId} {x:Operand} {f:Nat}:bR P ⟨some d,.field t x f,ty,pos,af,g⟩ s=eZ (match dI P s.t x with
 |some p=>D7 P t p f
 |none=>none):=rfl
theorem bBd {t:TypeId} {x i:Operand}:bR P ⟨some d,.indexAddr t x i,ty,pos,af,g⟩ s=eZ (match dI P s.t x,dI P s.t i with
 |some a,some b=>rC P t a b s.o
 |_,_=>none):=rfl
theorem bBe {t:TypeId} {x i:Operand}:bR P ⟨some d,.index t x i,ty,pos,af,g⟩ s=eZ (match dI P s.t x,dI P s.t i with
 |some a,some b=>zA P t a b
 |_,_=>none):=rfl
theorem bBf {t:TypeId} {x:Operand} {lo hi:Option Operand}:bR P ⟨some d,.slice t x lo hi none,ty,pos,af,g⟩ s=eZ (match dI P s.t x,lo.map (dI P s.t),hi.map (dI P s.t)with
 |some _,some none,_=>none
 |some _,_,some none=>none
 |some a,l,h=>kA P t a (l.bind id) (h.bind id) s.o
 |none,_,_=>none):=rfl
theorem bBg {x:Operand} {i:Nat}:bR P ⟨some d,.extract x i,ty,pos,af,g⟩ s=eZ (match dI P s.t x with
 |some (.tup vs)=>(vs[i]?).map fun a=>⟨true,a⟩
 |_=>none):=rfl
theorem bBh {t:TypeId} {parts:Array (Nat×Operand)}:bR P ⟨some d,.build t parts,ty,pos,af,g⟩ s=eZ (D8 P t (qF (dI P s.t) parts.toList)):=rfl
theorem bBi {f:FuncId} {first caps:Array Operand}:bR P ⟨some d,.makeFunc (.func f) first caps,ty,pos,af,g⟩ s=eZ (if first.size=0 then(oY (dI P s.t) caps.toList).map fun cs=>⟨true,.clo f cs⟩else none):=rfl
theorem bBj {x:Operand}:bR P ⟨some d,.nilCheck x,ty,pos,af,g⟩ s=eZ (match dI P s.t x with
 |some (.ptr L i o)=>some ⟨true,.ptr L i o⟩
 |some (.iptr l xs i o)=>some ⟨true,.iptr l xs i o⟩
 |_=>none):=rfl
theorem bBk {xs:Array Operand} {ts:Array TypeId}:bR P ⟨some d,.call ⟨.builtin .len,xs,ts⟩,ty,pos,af,g⟩ s=eZ (match xs.toList,ts.toList with
 | [x],[t]=>match dI P s.t x with
  |some a=>qE P t a
  |none=>none
 |_,_=>none):=rfl
theorem bBl {xs:Array Operand} {ts:Array TypeId}:bR P ⟨some d,.call ⟨.builtin .cap,xs,ts⟩,ty,pos,af,g⟩ s=eZ (match xs.toList,ts.toList with
 | [x],[t]=>match dI P s.t x with
  |some a=>D6 P t a
  |none=>none
 |_,_=>none):=rfl
theorem bBn {xs:Array Operand} {ts:Array TypeId}:bR P ⟨some d,.call ⟨.builtin .max,xs,ts⟩,ty,pos,af,g⟩ s=eZ (gT P ⟨some d,.call ⟨.builtin .max,xs,ts⟩,ty,pos,af,g⟩ (dI P s.t)):=rfl
theorem bBo {t:TypeId}:bR P ⟨some d,.alloc t,ty,pos,af,g⟩ s=kH (E5 P t d s):=rfl
theorem bBp {t:TypeId} {x:Operand}:bR P ⟨some d,.box t x,ty,pos,af,g⟩ s=(match ev s.t x with
 |some a=>kH (E6 a d s)
 |none=> .no):=rfl
theorem bBq {t:TypeId} {p x:Operand}:bR P ⟨none,.store t p x,ty,pos,af,g⟩ s=(match ev s.t p,ev s.t x with
 |some a,some b=>kH (zE P t a b s)
 |_,_=> .no):=rfl
theorem bBr {t:TypeId} {len:Nat} {parts:Array (Nat×Operand)}:bR P ⟨some d,.buildSlice t len parts,ty,pos,af,g⟩ s=kH (F4 P t len (qF (ev s.t) parts.toList) d s):=rfl
theorem bBs {xs:Array Operand} {ts:Array TypeId}:bR P ⟨some d,.call ⟨.builtin .append,xs,ts⟩,ty,pos,af,g⟩ s=(match xs.toList,ts.toList with
 | [x,y],[st,xt]=>match ev s.t x,ev s.t y with
  |some a,some b=>kH (sG P st xt a b d s)
  |_,_=> .no
 |_,_=> .no):=rfl
theorem bBt {f:Operand} {xs:Array Operand} {ts:Array TypeId}:bR P ⟨some d,.call ⟨.value f,xs,ts⟩,ty,pos,af,g⟩ s=(match ev s.t f,oY (ev s.t) xs.toList with
 |some (.clo g caps),some as=> .c g (as++caps)
 |some (.yl L),some as=> .y (.yl L::as)
 |_,_=> .no):=rfl
end ops
theorem bBu {n:Int} (h1: -9223372036854775808<=n) (h2:n<=9223372036854775807):IntKind.i64.wrap n=n:=IntWalk.i64_in n ⟨h1,h2⟩
theorem bBv {n:Int} (h1:0<=n) (h2:n<=18446744073709551615):IntKind.u64.wrap n=n:=IntWalk.u64_in n ⟨h1,h2⟩
theorem bBw {n:Int} (h1:0<=n) (h2:n<=255):IntKind.u8.wrap n=n:=IntWalk.u8_in n ⟨h1,h2⟩
theorem bB1 {ρ:Operand->Option AV}:oY ρ []=some []:=rfl
theorem bB2 {ρ:Operand->Option AV} {x:Operand} {r:List Operand}:oY ρ (x::r)=(match ρ x with
 |some a=>match oY ρ r with
  |some as=>some (a::as)
  |none=>none
 |none=>none):=by
 simp only[oY,List.mapM_cons]
 cases ρ x with
 |none=>rfl
 |some a=>
  simp
  cases List.mapM ρ r<;>rfl
theorem bB3 {ρ:Operand->Option AV}:qF ρ []=some []:=rfl
theorem bB4 {ρ:Operand->Option AV} {i:Nat} {x:Operand} {r:List (Nat×Operand)}:qF ρ ((i,x)::r)=(match ρ x with
 |some a=>match qF ρ r with
  |some as=>some ((i,a)::as)
  |none=>none
 |none=>none):=by
 simp only[qF,List.mapM_cons]
 cases ρ x with
 |none=>rfl
 |some a=>
  simp
  cases List.mapM (fun p:Nat×Operand=>Option.map (fun a=>(p.1,a)) (ρ p.2)) r<;>rfl
theorem bB5 {cs:List AV}:(AV.agg cs).cells=cs:=rfl
theorem bB6 {v:Value}:(AV.sc v).cells= [.sc v]:=rfl
theorem bB7 {l f:Bool} {xs:List AV}:(AV.list l f xs).cells= [.list l f xs]:=rfl
theorem bB8 {l:Bool} {xs:List AV} {i o:Nat}:(AV.iptr l xs i o).cells= [.iptr l xs i o]:=rfl
theorem bB9 {a b c:Nat}:(AV.ref a b c).cells= [.ref a b c]:=rfl
theorem bCa {a b c:Nat}:(AV.ptr a b c).cells= [.ptr a b c]:=rfl
theorem bCb {g:FuncId} {cs:List AV}:(AV.clo g cs).cells= [.clo g cs]:=rfl
theorem bCc {cs:List AV}:(AV.agg cs).isAgg=true:=rfl
theorem bCd {v:Value}:(AV.sc v).isAgg=false:=rfl
theorem bCe {l f:Bool} {xs:List AV}:(AV.list l f xs).isAgg=false:=rfl
theorem bCf {l:Bool} {xs:List AV} {i o:Nat}:(AV.iptr l xs i o).isAgg=false:=rfl
theorem bCg {a b c:Nat}:(AV.ref a b c).isAgg=false:=rfl
theorem bCh {a b c:Nat}:(AV.ptr a b c).isAgg=false:=rfl
theorem bCi {g:FuncId} {cs:List AV}:(AV.clo g cs).isAgg=false:=rfl
theorem bCj {cs:List AV}:(AV.agg cs).plain=true:=rfl
theorem bCk {v:Value}:(AV.sc v).plain=true:=rfl
theorem bCl {l f:Bool} {xs:List AV}:(AV.list l f xs).plain=true:=rfl
theorem bCm {l:Bool} {xs:List AV} {i o:Nat}:(AV.iptr l xs i o).plain=true:=rfl
theorem bCn {a b c:Nat}:(AV.ref a b c).plain=true:=rfl
theorem bCo {a b c:Nat}:(AV.ptr a b c).plain=true:=rfl
theorem bCp {g:FuncId} {cs:List AV}:(AV.clo g cs).plain=true:=rfl
theorem bCq {cs:List AV}:(AV.agg cs).pure=AV.pureL cs:=by simp[AV.pure]
theorem bCr {v:Value}:(AV.sc v).pure=true:=by simp[AV.pure]
theorem bCs {l f:Bool} {xs:List AV}:(AV.list l f xs).pure= !l:=by simp[AV.pure]
theorem bCy:AV.pureL []=true:=rfl
theorem bCz {a:AV} {r:List AV}:AV.pureL (a::r)=(a.pure&&AV.pureL r):=by simp[AV.pureL]
theorem bC0 {L:Nat} {cs:List AV}:(AV.agg cs).has L=AV.hasL L cs:=by simp[AV.has]
theorem aDc {L:Nat} {v:Value}:(AV.sc v).has L=false:=rfl
theorem aDd {L:Nat} {l f:Bool} {xs:List AV}:(AV.list l f xs).has L=false:=rfl
theorem aDe {L:Nat} {l:Bool} {xs:List AV} {i o:Nat}:(AV.iptr l xs i o).has L=false:=rfl
theorem bC1 {L a b c:Nat}:(AV.ref a b c).has L=(L==a):=rfl
theorem aDf {L a b c:Nat}:(AV.ptr a b c).has L=(L==a):=rfl
theorem bC2 {L a b c d e:Nat}:(AV.aref a b c d e).has L=(L==a):=rfl
theorem bC3 {L:Nat} {g:FuncId} {cs:List AV}:(AV.clo g cs).has L=AV.hasL L cs:=rfl
theorem bC4 {L:Nat}:AV.dead.has L=false:=rfl
theorem aDg {L:Nat}:AV.hasL L []=false:=rfl
theorem aDh {L:Nat} {a:AV} {r:List AV}:AV.hasL L (a::r)=(a.has L||AV.hasL L r):=rfl
theorem bC5 {op:BinOp} {t:TypeId} {k k':IntKind} {u v:Int}:oV P op t (.sc (.int k u)) (.sc (.int k' v))=if k=k' then sC op k u v else if op= .shr then sC .shr k u v else none:=rfl
theorem bC6 {op:BinOp} {t:TypeId} {u v:ByteArray}:oV P op t (.sc (.string u)) (.sc (.string v))=xG op u v:=rfl
theorem bC7 {t:TypeId} {u v:Bool}:oV P .eql t (.sc (.bool u)) (.sc (.bool v))=if yZ P t=true then some ⟨true,bl (u==v)⟩else none:=rfl
theorem bC8 {t:TypeId} {u v:Bool}:oV P .neq t (.sc (.bool u)) (.sc (.bool v))=if yZ P t=true then some ⟨true,bl (!(u==v))⟩else none:=rfl
theorem bC9 {op:BinOp} {t:TypeId} {a:AV} {cs:List AV}:oV P op t a (.agg cs)=none:=by
 cases a<;>first|rfl|(rename_i v;cases v<;>rfl)
def aDi (d:Option (Bool×Nat)) (e:Option (AV×Nat)):Option Sv:=
 match d,e with
 |some (ag,size),some (y,o)=>(lN y ag size o).map fun a=>⟨true,a⟩
 |_,_=>none
theorem bDa {t:TypeId} {p:AV} {ob:aK}:oX P t p ob=aDi (aQ P t) (mZ ob p):=by
 unfold oX aDi
 cases aQ P t with
 |none=>rfl
 |some q=>obtain⟨a,b⟩:=q;cases mZ ob p<;>rfl
theorem bDb {ag:Bool} {size o:Nat} {y:AV}:aDi (some (ag,size)) (some (y,o))=(lN y ag size o).map fun a=>⟨true,a⟩:=rfl
theorem bDc {y:AV} {size o:Nat}:lN y true size o=if o+size<=y.cells.length then some (if o=0/\size=y.cells.length/\y.isAgg=true then y else .agg ((y.cells.drop o).take size))else none:=rfl
theorem bDd {y:AV} {size o:Nat}:lN y false size o=y.cells[o]?:=rfl
def ptS (x:Option AObj) (i o:Nat):Option (AV×Nat):=
 match x with
 |some x=>(x.xs[i]?).map fun y=>(y,o)
 |none=>none
theorem bDe {ob:aK} {L i o:Nat}:mZ ob (.ptr L i o)=ptS (lk ob L) i o:=by simp only[mZ,ptS];cases lk ob L<;>rfl
theorem bDf {x:AObj} {i o:Nat}:ptS (some x) i o=(x.xs[i]?).map fun y=>(y,o):=rfl
theorem bDg {ob:aK} {l:Bool} {xs:List AV} {i o:Nat}:mZ ob (.iptr l xs i o)=(xs[i]?).map fun y=>(y,o):=rfl
def aDk (d:Option (Nat×TypeId×Nat)) (p:AV):Option Sv:=
 match d with
 |some (off,_,n)=>match p with
  | .iptr l xs i o=>some ⟨decide (n≠0),.iptr l xs i (o+off)⟩
  | .ptr L i o=>some ⟨decide (n≠0),.ptr L i (o+off)⟩
  |_=>none
 |none=>none
theorem bDh {t:TypeId} {f:Nat} {p:AV}:xH P t f p=aDk (cP P t f) p:=rfl
theorem bDi {off n:Nat} {ft:TypeId} {l:Bool} {xs:List AV} {i o:Nat}:aDk (some (off,ft,n)) (.iptr l xs i o)=some ⟨decide (n≠0),.iptr l xs i (o+off)⟩:=rfl
theorem bDj {off n:Nat} {ft:TypeId} {L i o:Nat}:aDk (some (off,ft,n)) (.ptr L i o)=some ⟨decide (n≠0),.ptr L i (o+off)⟩:=rfl
theorem bDk {t:TypeId} {s:ByteArray}:qE P t (.sc (.string s))=if nS P t=true then some ⟨true,nt .i64 s.size⟩else none:=rfl
def xU (d:Option (TypeId×Nat×Nat)) (n:Nat):Option Sv:=match d with
 |some _=>some ⟨true,nt .i64 n⟩
 |none=>none
theorem bDl {q:TypeId×Nat×Nat} {n:Nat}:xU (some q) n=some ⟨true,nt .i64 n⟩:=rfl
theorem bDm {t:TypeId} {l f:Bool} {xs:List AV}:qE P t (.list l f xs)=xU (cI P t) xs.length:=rfl
theorem bDn {t:TypeId} {L lo n:Nat}:qE P t (.ref L lo n)=xU (cI P t) n:=rfl
theorem bDo {t:TypeId} {L i o es n:Nat}:qE P t (.aref L i o es n)=xU (cI P t) n:=rfl
def aK0 (d:Option (TypeId×Nat×Nat)) (l:Bool) (xs:List AV) (i:Int):Option Sv:=match d with
 |some (_,es,_)=>some ⟨decide (0<=i/\i<xs.length/\ ∀y,xs[i.toNat]?=some y->y.cells.length=es),.iptr l xs i.toNat 0⟩
 |none=>none
theorem bDp {t:TypeId} {l f:Bool} {xs:List AV} {k:IntKind} {i:Int} {ob:aK}:rC P t (.list l f xs) (.sc (.int k i)) ob=aK0 (cI P t) l xs i:=rfl
theorem bDq {e:TypeId} {es b:Nat} {l:Bool} {xs:List AV} {i:Int}:aK0 (some (e,es,b)) l xs i=some ⟨decide (0<=i/\i<xs.length/\ ∀y,xs[i.toNat]?=some y->y.cells.length=es),.iptr l xs i.toNat 0⟩:=rfl
def aDl (d:Option (TypeId×Nat×Nat)) (x:Option AObj) (L lo n:Nat) (i:Int):Option Sv:=match d,x with
 |some (_,es,_),some x=>some ⟨decide (x.es=es/\0<=i/\i<n),.ptr L (lo+i.toNat) 0⟩
 |_,_=>none
theorem bDr {t:TypeId} {L lo n:Nat} {k:IntKind} {i:Int} {ob:aK}:rC P t (.ref L lo n) (.sc (.int k i)) ob=aDl (cI P t) (lk ob L) L lo n i:=by
 simp only[rC,aDl]
 cases cI P t<;>cases lk ob L<;>rfl
theorem bDs {e:TypeId} {es b:Nat} {x:AObj} {L lo n:Nat} {i:Int}:aDl (some (e,es,b)) (some x) L lo n i=some ⟨decide (x.es=es/\0<=i/\i<n),.ptr L (lo+i.toNat) 0⟩:=rfl
def aK1 (d:Option (TypeId×Nat×Nat)) (L k o es' n:Nat) (i:Int):Option Sv:=match d with
 |some (_,es,_)=>some ⟨decide (es'=es/\0<=i/\i<n),.ptr L k (o+i.toNat*es)⟩
 |none=>none
theorem bDt {t:TypeId} {L k o es n:Nat} {kk:IntKind} {i:Int} {ob:aK}:rC P t (.aref L k o es n) (.sc (.int kk i)) ob=aK1 (cI P t) L k o es n i:=rfl
theorem bDu {e:TypeId} {es b:Nat} {L k o es' n:Nat} {i:Int}:aK1 (some (e,es,b)) L k o es' n i=some ⟨decide (es'=es/\0<=i/\i<n),.ptr L k (o+i.toNat*es)⟩:=rfl
def aK2 (d:Option (Nat×TypeId×Nat)) (L k o:Nat) (i:Int):Option Sv:=match d with
 |some (n,_,es)=>some ⟨decide (0<=i/\i<n),.ptr L k (o+i.toNat*es)⟩
 |none=>none
theorem bDv {t:TypeId} {L k o:Nat} {kk:IntKind} {i:Int} {ob:aK}:rC P t (.ptr L k o) (.sc (.int kk i)) ob=aK2 (mY P t) L k o i:=rfl
theorem bDw {e:TypeId} {n es L k o:Nat} {i:Int}:aK2 (some (n,e,es)) L k o i=some ⟨decide (0<=i/\i<n),.ptr L k (o+i.toNat*es)⟩:=rfl
def aK3 (d:Option (Nat×TypeId×Nat)) (l:Bool) (xs:List AV) (k o:Nat) (i:Int):Option Sv:=match d with
 |some (n,_,es)=>some ⟨decide (0<=i/\i<n),.iptr l xs k (o+i.toNat*es)⟩
 |none=>none
theorem bDx {t:TypeId} {l:Bool} {xs:List AV} {k o:Nat} {kk:IntKind} {i:Int} {ob:aK}:rC P t (.iptr l xs k o) (.sc (.int kk i)) ob=aK3 (mY P t) l xs k o i:=rfl
theorem bDy {e:TypeId} {n es k o:Nat} {l:Bool} {xs:List AV} {i:Int}:aK3 (some (n,e,es)) l xs k o i=some ⟨decide (0<=i/\i<n),.iptr l xs k (o+i.toNat*es)⟩:=rfl
theorem bDz {t:TypeId} {s:ByteArray} {k:IntKind} {i:Int}:zA P t (.sc (.string s)) (.sc (.int k i))=if nS P t=true then some ⟨decide (0<=i/\i<s.size),nt .u8 (s.data.toList.getD i.toNat 0).toNat⟩else none:=rfl
def aK4 (d:Option (Nat×TypeId×Nat)) (P:Program) [Glob P] (cs:List AV):Option Sv:=match d with
 |some (off,ft,_)=>(tV P ft cs off).map fun a=>⟨true,a⟩
 |none=>none
theorem bD0 {t:TypeId} {cs:List AV} {f:Nat}:D7 P t (.agg cs) f=aK4 (cP P t f) P cs:=rfl
theorem bD1 {off n:Nat} {ft:TypeId} {cs:List AV}:aK4 (some (off,ft,n)) P cs=(tV P ft cs off).map fun a=>⟨true,a⟩:=rfl
def aDm (d:Option (Bool×Nat)) (cs:List AV) (off:Nat):Option AV:=match d with
 |some (true,n)=>some (.agg ((cs.drop off).take n))
 |some (false,_)=>cs[off]?
 |none=>none
theorem bD2 {t:TypeId} {cs:List AV} {off:Nat}:tV P t cs off=aDm (aQ P t) cs off:=rfl
theorem bD3 {n off:Nat} {cs:List AV}:aDm (some (true,n)) cs off=some (.agg ((cs.drop off).take n)):=rfl
theorem bD4 {n off:Nat} {cs:List AV}:aDm (some (false,n)) cs off=cs[off]?:=rfl
def aK5 (z:Option AV) (k d:Nat) (s:ASt):Option St:=match z with
 |some z=>if z.plain=true/\z.has d=false then some ⟨decide (d<s.n),s.fresh d (boxK z k) (.ptr d 0 0)⟩else none
 |none=>none
theorem bD5 {t:TypeId} {d:Nat}:E5 P t d s=aK5 (zbS (aU P t) (aR P t) (aBm P t)) (aU P t) d s:=rfl
theorem zbS_zero {z r:Option AV}:zbS 0 z r=z:=rfl
theorem zbS_succ {n:Nat} {z r:Option AV}:zbS (n+1) z r=r:=rfl
theorem bD6 {a:AV} {k:Nat}:boxK a k=⟨false,false,false,a.cells.length,[a],k⟩:=rfl
theorem bD7 {z:AV} {k d:Nat}:aK5 (some z) k d s=if z.plain=true/\z.has d=false then some ⟨decide (d<s.n),s.fresh d (boxK z k) (.ptr d 0 0)⟩else none:=rfl
theorem bD8 {b:AV} {d:Nat}:E6 b d s=if b.plain=true/\b.has d=false then some ⟨decide (d<s.n),s.fresh d (kB b) (.ptr d 0 0)⟩else none:=rfl
theorem bD9 {a:AV}:kB a=⟨false,false,false,a.cells.length,[a],0⟩:=rfl
theorem aDn {es:Nat} {xs:List AV}:dQ es xs=⟨true,false,false,es,xs,0⟩:=rfl
def zU (x:Option AObj) (d:Option (Bool×Nat)) (L i o:Nat) (a:AV) (s:ASt):Option St:=match x,d with
 |some x,some (_,size)=>match x.xs[i]? with
  |some y=>if x.fz=false/\a.plain=true/\a.cells.length=size/\o+size<=y.cells.length then
   if x.arr=true then match share s a with
    |some (s1,b)=>match lk s1.o L with
     |some x1=>if x1.fz=false/\b.pure=true/\b.cells.length=size/\b.plain=true then some ⟨true,{s1 with o:=cL s1.o L {x1 with xs:=x1.xs.set i (mI y b o)}}⟩else none
     |none=>none
    |none=>none
   else some ⟨true,{s with o:=cL s.o L {x with xs:=x.xs.set i (mI y a o)}}⟩
   else none
  |none=>none
 |_,_=>none
theorem bEa {t:TypeId} {L i o:Nat} {a:AV}:zE P t (.ptr L i o) a s=zU (lk s.o L) (aQ P t) L i o a s:=by
 simp only[zE,zU];cases lk s.o L<;>cases aQ P t<;>rfl
def aDo (y:Option AV) (fz pin:Bool) (es:Nat) (xs:List AV) (kd size L i o:Nat) (a:AV) (s:ASt):Option St:=match y with
 |some y=>if fz=false/\a.plain=true/\a.cells.length=size/\o+size<=y.cells.length then some ⟨true,{s with o:=cL s.o L ⟨false,fz,pin,es,xs.set i (mI y a o),kd⟩}⟩else none
 |none=>none
theorem bEb {kd:Nat} {fz pin ag:Bool} {es size L i o:Nat} {xs:List AV} {a:AV}:zU (some ⟨false,fz,pin,es,xs,kd⟩) (some (ag,size)) L i o a s=aDo (xs[i]?) fz pin es xs kd size L i o a s:=by
 simp only[zU,aDo]
 cases xs[i]?<;>rfl
theorem bEc {kd:Nat} {y:AV} {fz pin:Bool} {es size L i o:Nat} {xs:List AV} {a:AV}:aDo (some y) fz pin es xs kd size L i o a s=if fz=false/\a.plain=true/\a.cells.length=size/\o+size<=y.cells.length then some ⟨true,{s with o:=cL s.o L ⟨false,fz,pin,es,xs.set i (mI y a o),kd⟩}⟩else none:=rfl
def T1 (y:Option AV) (b:Option (ASt×AV)) (fz:Bool) (size L i o:Nat) (a:AV):Option St:=match y,b with
 |some y,some (s1,b)=>if fz=false/\a.plain=true/\a.cells.length=size/\o+size<=y.cells.length then match lk s1.o L with
  |some x1=>if x1.fz=false/\b.pure=true/\b.cells.length=size/\b.plain=true then some ⟨true,{s1 with o:=cL s1.o L {x1 with xs:=x1.xs.set i (mI y b o)}}⟩else none
  |none=>none
  else none
 |_,_=>none
theorem bEd {kd:Nat} {fz pin ag:Bool} {es size L i o:Nat} {xs:List AV} {a:AV}:zU (some ⟨true,fz,pin,es,xs,kd⟩) (some (ag,size)) L i o a s=T1 (xs[i]?) (share s a) fz size L i o a:=by
 simp only[zU,T1]
 cases xs[i]? with
 |none=>cases share s a<;>rfl
 |some y=>
  cases share s a with
  |none=>simp
  |some q=>rfl
def aDp (x1:Option AObj) (s1:ASt) (b y:AV) (size L i o:Nat):Option St:=match x1 with
 |some x1=>if x1.fz=false/\b.pure=true/\b.cells.length=size/\b.plain=true then some ⟨true,{s1 with o:=cL s1.o L {x1 with xs:=x1.xs.set i (mI y b o)}}⟩else none
 |none=>none
theorem bEe {y b a:AV} {s1:ASt} {fz:Bool} {size L i o:Nat}:T1 (some y) (some (s1,b)) fz size L i o a=if fz=false/\a.plain=true/\a.cells.length=size/\o+size<=y.cells.length then aDp (lk s1.o L) s1 b y size L i o else none:=by
 simp only[T1,aDp]
theorem bEf {kd:Nat} {s1:ASt} {b y:AV} {size L i o:Nat} {arr fz pin:Bool} {es:Nat} {xs:List AV}:aDp (some ⟨arr,fz,pin,es,xs,kd⟩) s1 b y size L i o=
 if fz=false/\b.pure=true/\b.cells.length=size/\b.plain=true then some ⟨true,{s1 with o:=cL s1.o L ⟨arr,fz,pin,es,xs.set i (mI y b o),kd⟩}⟩else none:=rfl
theorem bEg {o:aK} {L:Nat} {x:AObj}:cL o L x=(L,x)::o:=rfl
theorem bEh {y a:AV} {o:Nat}:mI y a o=if o=0/\a.cells.length=y.cells.length/\a.isAgg=y.isAgg then a else .agg (splice y.cells a.cells o):=rfl
theorem bEi {α:Type} {cs ds:List α} {off:Nat}:splice cs ds off=cs.take off++ds++cs.drop (off+ds.length):=rfl
def aK6 (d:Option (List AV×List (Nat×Nat))) (ps:Option (List (Nat×AV))):Option Sv:=match d,ps with
 |some (z,pl),some ps=>(sE (pl[·]?) z ps).map fun cs=>⟨true,.agg cs⟩
 |_,_=>none
theorem bEj {t:TypeId} {ps:Option (List (Nat×AV))}:D8 P t ps=aK6 (fH P t) ps:=rfl
def aK7 (pl:List (Nat×Nat)) (p:Option (Nat×Nat)) (cs:List AV) (a:AV) (r:List (Nat×AV)):Option (List AV):=match p with
 |some (off,size)=>if a.plain=true/\a.cells.length=size/\off+size<=cs.length then sE (pl[·]?) (splice cs a.cells off) r else none
 |none=>none
def T2 (pl:List (Nat×Nat)) (cs:List AV) (ps:List (Nat×AV)):Option (List AV):=sE (pl[·]?) cs ps
theorem bEk {z:List AV} {pl:List (Nat×Nat)} {ps:List (Nat×AV)}:aK6 (some (z,pl)) (some ps)=(T2 pl z ps).map fun cs=>⟨true,.agg cs⟩:=rfl
theorem bEl {pl:List (Nat×Nat)} {cs:List AV}:T2 pl cs []=some cs:=rfl
theorem bEm {pl:List (Nat×Nat)} {cs:List AV} {i:Nat} {a:AV} {r:List (Nat×AV)}:T2 pl cs ((i,a)::r)=aK7 pl (pl[i]?) cs a r:=rfl
theorem bEn {pl:List (Nat×Nat)} {off size:Nat} {cs:List AV} {a:AV} {r:List (Nat×AV)}:aK7 pl (some (off,size)) cs a r=if a.plain=true/\a.cells.length=size/\off+size<=cs.length then T2 pl (splice cs a.cells off) r else none:=rfl
def aDq (d:Option (TypeId×Nat×Nat)) (l h:Option Int) (len iT:Bool) (xs:List AV):Option Sv:=match d,l,h with
 |some (_,es,_),some l,some h=>some ⟨decide (0<=l/\l<=h/\h<=xs.length/\ ∀y∈xs,y.cells.length=es),.list len iT ((xs.drop l.toNat).take (h.toNat - l.toNat))⟩
 |_,_,_=>none
theorem bEo {t:TypeId} {len iT:Bool} {xs:List AV} {lo hi:Option AV} {ob:aK}:kA P t (.list len iT xs) lo hi ob=aDq (cI P t) (bd lo 0) (bd hi xs.length) len (iT&&hi.isNone) xs:=by
 simp only[kA,aDq]
 cases cI P t<;>cases bd lo 0<;>cases bd hi xs.length<;>rfl
theorem bEp {e:TypeId} {es b:Nat} {l h:Int} {len iT:Bool} {xs:List AV}:aDq (some (e,es,b)) (some l) (some h) len iT xs=some ⟨decide (0<=l/\l<=h/\h<=xs.length/\ ∀y∈xs,y.cells.length=es),.list len iT ((xs.drop l.toNat).take (h.toNat - l.toNat))⟩:=rfl
def aDr (d:Option (TypeId×Nat×Nat)) (x:Option AObj) (l h:Option Int) (L b n:Nat):Option Sv:=match d,x,l,h with
 |some (_,es,_),some x,some l,some h=>some ⟨decide (x.es=es/\0<=l/\l<=h/\h<=n),.ref L (b+l.toNat) (h.toNat - l.toNat)⟩
 |_,_,_,_=>none
theorem bEq {t:TypeId} {l:Bool} {xs:List AV} {i k:Nat} {lo hi:Option AV} {ob:aK}:kA P t (.iptr l xs i k) lo hi ob=O7 l k (mY P t) lo hi xs[i]?:=rfl
theorem bEr {l:Bool} {k n es:Nat} {e:TypeId} {y:AV}:O7 l k (some (n,e,es)) none none (some y)=some ⟨decide (k+n*es<=y.cells.length/\n<=dU/\0<n),.list l true (tW y.cells k es n)⟩:=rfl
theorem bEs {t:TypeId} {L b n:Nat} {lo hi:Option AV} {ob:aK}:kA P t (.ref L b n) lo hi ob=aDr (cI P t) (lk ob L) (bd lo 0) (bd hi n) L b n:=by
 simp only[kA,aDr]
 cases cI P t<;>cases lk ob L<;>cases bd lo 0<;>cases bd hi n<;>rfl
theorem bEt {e:TypeId} {es bb:Nat} {x:AObj} {l h:Int} {L b n:Nat}:aDr (some (e,es,bb)) (some x) (some l) (some h) L b n=some ⟨decide (x.es=es/\0<=l/\l<=h/\h<=n),.ref L (b+l.toNat) (h.toNat - l.toNat)⟩:=rfl
def aDs (c:Bool) (l h:Option Int) (s:ByteArray):Option Sv:=match c,l,h with
 |true,some l,some h=>some ⟨decide (0<=l/\l<=h/\h<=s.size),.sc (.string (s.extract l.toNat h.toNat))⟩
 |_,_,_=>none
theorem bEu {t:TypeId} {s:ByteArray} {lo hi:Option AV} {ob:aK}:kA P t (.sc (.string s)) lo hi ob=aDs (nS P t) (bd lo 0) (bd hi s.size) s:=by
 simp only[kA,aDs]
 cases nS P t<;>cases bd lo 0<;>cases bd hi s.size<;>rfl
theorem bEv {l h:Int} {s:ByteArray}:aDs true (some l) (some h) s=some ⟨decide (0<=l/\l<=h/\h<=s.size),.sc (.string (s.extract l.toNat h.toNat))⟩:=rfl
def aDt (d:Option (Nat×TypeId×Nat)) (l:Option Int) (hi:Option AV) (L i o:Nat):Option Sv:=match d,l with
 |some (n,_,es),some l=>match bd hi n with
  |some h=>some ⟨decide (0<=l/\l<=h/\h<=n),.aref L i (o+l.toNat*es) es (h.toNat - l.toNat)⟩
  |none=>none
 |_,_=>none
theorem bEw {t:TypeId} {L i o:Nat} {lo hi:Option AV} {ob:aK}:kA P t (.ptr L i o) lo hi ob=aDt (mY P t) (bd lo 0) hi L i o:=by
 simp only[kA,aDt]
 cases mY P t<;>cases bd lo 0<;>rfl
def aK8 (h:Option Int) (n es:Nat) (l:Int) (L i o:Nat):Option Sv:=match h with
 |some h=>some ⟨decide (0<=l/\l<=h/\h<=n),.aref L i (o+l.toNat*es) es (h.toNat - l.toNat)⟩
 |none=>none
theorem bEx {e:TypeId} {n es:Nat} {l:Int} {hi:Option AV} {L i o:Nat}:aDt (some (n,e,es)) (some l) hi L i o=aK8 (bd hi n) n es l L i o:=rfl
theorem bEy {n es:Nat} {l h:Int} {L i o:Nat}:aK8 (some h) n es l L i o=some ⟨decide (0<=l/\l<=h/\h<=n),.aref L i (o+l.toNat*es) es (h.toNat - l.toNat)⟩:=rfl
theorem bEz {d:Int}:bd none d=some d:=rfl
theorem bE0 {k:IntKind} {i d:Int}:bd (some (.sc (.int k i))) d=some i:=rfl
def zV (a:Option AV) (l h:Option (Option AV)) (P:Program) [Glob P] (t:TypeId) (ob:aK):Option Sv:=match a,l,h with
 |some _,some none,_=>none
 |some _,_,some none=>none
 |some a,l,h=>kA P t a (l.bind id) (h.bind id) ob
 |none,_,_=>none
theorem bE1 {a:AV} {t:TypeId} {ob:aK}:zV (some a) none none P t ob=kA P t a none none ob:=rfl
theorem bE2 {a l:AV} {t:TypeId} {ob:aK}:zV (some a) (some (some l)) none P t ob=kA P t a (some l) none ob:=rfl
theorem bE3 {a h:AV} {t:TypeId} {ob:aK}:zV (some a) none (some (some h)) P t ob=kA P t a none (some h) ob:=rfl
theorem bE4 {a l h:AV} {t:TypeId} {ob:aK}:zV (some a) (some (some l)) (some (some h)) P t ob=kA P t a (some l) (some h) ob:=rfl
theorem bE5 {d:Nat} {ty:TypeId} {pos:String} {af:Array Edge} {g:Option (Nat×Bool)} {t:TypeId} {x:Operand} {lo hi:Option Operand}:
 bR P ⟨some d,.slice t x lo hi none,ty,pos,af,g⟩ s=eZ (zV (dI P s.t x) (lo.map (dI P s.t)) (hi.map (dI P s.t)) P t s.o):=by simp only[bBf,zV]
def aK9 (d:Option (TypeId×Nat×Nat)) (z:TypeId->Option Value) (ps:Option (List (Nat×AV))) (len dd:Nat) (s:ASt):Option St:=match d,ps with
 |some (e,es,_),some ps=>match z e with
  |some _=>if ps.map (·.1)=List.range len then match pE s (ps.map (·.2))with
   |some (s1,bs)=>some ⟨decide (dd<s1.n/\len*es<=2^24/\len<=dU/\ ∀b∈bs,b.pure=true/\b.cells.length=es),s1.fresh dd (dQ es bs) (.ref dd 0 len)⟩
   |none=>none
   else none
  |none=>none
 |_,_=>none
theorem bE6 {t:TypeId} {len d:Nat} {ps:Option (List (Nat×AV))}:F4 P t len ps d s=aK9 (cI P t) (eI P) ps len d s:=rfl
def aDu (z:Option Value) (es:Nat) (ps:List (Nat×AV)) (len dd:Nat) (s:ASt):Option St:=match z with
 |some _=>if ps.map (·.1)=List.range len then match pE s (ps.map (·.2))with
  |some (s1,bs)=>some ⟨decide (dd<s1.n/\len*es<=2^24/\len<=dU/\ ∀b∈bs,b.pure=true/\b.cells.length=es),s1.fresh dd (dQ es bs) (.ref dd 0 len)⟩
  |none=>none
  else none
 |none=>none
theorem bE7 {e:TypeId} {es b:Nat} {z:TypeId->Option Value} {ps:List (Nat×AV)} {len d:Nat}:aK9 (some (e,es,b)) z (some ps) len d s=aDu (z e) es ps len d s:=rfl
def aDv (x:Option (ASt×List AV)) (es len dd:Nat):Option St:=match x with
 |some (s1,bs)=>some ⟨decide (dd<s1.n/\len*es<=2^24/\len<=dU/\ ∀b∈bs,b.pure=true/\b.cells.length=es),s1.fresh dd (dQ es bs) (.ref dd 0 len)⟩
 |none=>none
theorem bE8 {v:Value} {es:Nat} {ps:List (Nat×AV)} {len d:Nat}:aDu (some v) es ps len d s=if ps.map (·.1)=List.range len then aDv (pE s (ps.map (·.2))) es len d else none:=by
 simp only[aDu,aDv]
theorem bE9 {s1:ASt} {bs:List AV} {es len d:Nat}:aDv (some (s1,bs)) es len d=some ⟨decide (d<s1.n/\len*es<=2^24/\len<=dU/\ ∀b∈bs,b.pure=true/\b.cells.length=es),s1.fresh d (dQ es bs) (.ref d 0 len)⟩:=rfl
def sP (x:Option (ASt×AV)) (r:List AV) (f:ASt->List AV->Option (ASt×List AV)):Option (ASt×List AV):=match x with
 |some (s1,b)=>match f s1 r with
  |some (s2,bs)=>some (s2,b::bs)
  |none=>none
 |none=>none
def aLa (b:AV) (x:Option (ASt×List AV)):Option (ASt×List AV):=match x with
 |some (s2,bs)=>some (s2,b::bs)
 |none=>none
theorem bFa {s1:ASt} {b:AV} {r:List AV} {f:ASt->List AV->Option (ASt×List AV)}:sP (some (s1,b)) r f=aLa b (f s1 r):=rfl
theorem bFb {s2:ASt} {b:AV} {bs:List AV}:aLa b (some (s2,bs))=some (s2,b::bs):=rfl
theorem bFc:pE s []=some (s,[]):=rfl
theorem bFd {a:AV} {r:List AV}:pE s (a::r)=sP (share s a) r pE:=by first|rfl|(simp only[pE,sP];done)|(simp only[pE,sP];repeat' split)<;>simp_all
theorem bFe:nA s []=some (s,[]):=rfl
theorem bFf {a:AV} {r:List AV}:nA s (a::r)=sP (kZ s a) r nA:=by first|rfl|(simp only[nA,sP];done)|(simp only[nA,sP];repeat' split)<;>simp_all
def aDw (x:Option (ASt×List AV)):Option (ASt×AV):=match x with
 |some (s1,ds)=>some (s1,.agg ds)
 |none=>none
theorem bFg {s1:ASt} {ds:List AV}:aDw (some (s1,ds))=some (s1,.agg ds):=rfl
theorem bFh {cs:List AV}:share s (.agg cs)=aDw (nA s cs):=rfl
theorem bFi {v:Value}:share s (.sc v)=some (s,.sc v):=by simp[share,kZ,AV.pure]
theorem bFk {L lo n:Nat}:share s (.ref L lo n)=kZ s (.ref L lo n):=rfl
theorem bFl {v:Value}:kZ s (.sc v)=some (s,.sc v):=by simp[kZ,AV.pure]
theorem bFm {f:Bool} {xs:List AV}:kZ s (.list false f xs)=some (s,.list false f xs):=by simp[kZ,AV.pure]
def aDx (x:Option AObj) (s:ASt) (L lo n:Nat):Option (ASt×AV):=match x with
 |some x=>if x.arr=true/\x.pin=false then some (s.frz L x,.list false false (dC x.xs lo n))else none
 |none=>none
theorem bFn {L lo n:Nat}:kZ s (.ref L lo n)=aDx (lk s.o L) s L lo n:=by
 simp only[kZ,aDx];cases lk s.o L<;>rfl
theorem bFo {kd:Nat} {fz:Bool} {es L lo n:Nat} {xs:List AV}:aDx (some ⟨true,fz,false,es,xs,kd⟩) s L lo n=some ({s with o:=(L,⟨true,true,false,es,xs,kd⟩)::s.o},.list false false (dC xs lo n)):=rfl
theorem I3 {α:Type} {xs:List α} {lo n:Nat}:dC xs lo n=if lo=0/\n=xs.length then xs else(xs.drop lo).take n:=rfl
def zW (d:Option (TypeId×Nat×Nat)) (d2:Bool) (ys:Option (List AV)) (z:TypeId->Option Value) (kk:TypeId->Nat) (a:AV) (dd:Nat) (s:ASt):Option St:=match d,d2,ys with
 |some (e,es,bytes),true,some ys=>match z e with
  |some _=>match a with
   | .list _ true xs=>some ⟨decide (dd<s.n/\(∀zv,z e=some zv->zv.cells.size=es)/\(∀y∈ys,y.cells.length=es)/\(∀y∈xs,y.cells.length=es)/\bytes≠0/\(2*(xs.length+ys.length)+200)*bytes<=2^48/\(xs= []\/ys≠ [])),
    s.renew dd dd dd (jQ es (xs++ys) (kk e)) (.ref dd 0 (xs++ys).length)⟩
   | .ref L lo n=>match lk s.o L with
    |some x=>if x.arr=true/\x.fz=false/\lo=0 then
     some ⟨decide (dd<s.n/\(∀zv,z e=some zv->zv.cells.size=es)/\(∀y∈ys,y.cells.length=es)/\x.es=es/\bytes≠0/\(2*(n+ys.length)+200)*bytes<=2^48/\n<=x.xs.length),
      s.renew L (if x.pin=true then dd else L) dd (jQ es (dC x.xs 0 n++ys) (if x.kd=kk e then kk e else 0)) (.ref (if x.pin=true then dd else L) 0 (n+ys.length))⟩else none
    |none=>none
   |_=>none
  |none=>none
 |_,_,_=>none
theorem bFq {st xt:TypeId} {a b:AV} {d:Nat}:tZ P st xt a b d s=zW (cI P st) (gU P xt) (kC s.o b) (eI P) (eY P) a d s:=by
 simp only[tZ,zW];cases cI P st<;>cases gU P xt<;>cases kC s.o b<;>rfl
def bFr (x:Option AObj) (L n es bytes k dd:Nat) (ys:List AV) (s:ASt):Option St:=match x with
 |some x=>if x.arr=true/\x.fz=false then some ⟨decide (dd<s.n/\(∀y∈ys,y.cells.length=es)/\x.es=es/\(2*(n+ys.length)+200)*bytes<=2^48/\n<=x.xs.length),
  s.renew L (if x.pin=true then dd else L) dd (jQ es (dC x.xs 0 n++ys) (if x.kd=k then k else 0)) (.ref (if x.pin=true then dd else L) 0 (n+ys.length))⟩else none
 |none=>none
theorem bFs {kd k:Nat} {L n es es' bytes d:Nat} {xs ys:List AV} {pin:Bool}:bFr (some ⟨true,false,pin,es',xs,kd⟩) L n es bytes k d ys s=some ⟨decide (d<s.n/\(∀y∈ys,y.cells.length=es)/\es'=es/\(2*(n+ys.length)+200)*bytes<=2^48/\n<=xs.length),
 s.renew L (if pin=true then d else L) d (jQ es (dC xs 0 n++ys) (if kd=k then k else 0)) (.ref (if pin=true then d else L) 0 (n+ys.length))⟩:=rfl
theorem bFt {es k:Nat} {xs:List AV}:jQ es xs k=⟨true,false,false,es,xs,k⟩:=rfl
theorem bFu {o:aK} {l f:Bool} {ys:List AV}:kC o (.list l f ys)=some ys:=rfl
theorem bFv {o:aK} {L lo n:Nat}:kC o (.ref L lo n)=lA o (.ref L lo n):=rfl
theorem bFw {o:aK} {b:ByteArray}:kC o (.sc (.string b))=some (b.data.toList.map jP):=rfl
def T3 (x:Option AObj) (lo n:Nat):Option (List AV):=match x with
 |some x=>if x.arr=true then some (dC x.xs lo n)else none
 |none=>none
theorem bFx {o:aK} {l f:Bool} {ys:List AV}:lA o (.list l f ys)=some ys:=rfl
theorem bFy {o:aK} {L lo n:Nat}:lA o (.ref L lo n)=T3 (lk o L) lo n:=by first|rfl|(simp only[lA,T3];done)|(simp only[lA,T3];repeat' split)<;>simp_all
theorem bFz {kd:Nat} {fz pin:Bool} {es lo n:Nat} {xs:List AV}:T3 (some ⟨true,fz,pin,es,xs,kd⟩) lo n=some (dC xs lo n):=rfl
def I4 (b:Option AV) (x:Option (List AV)):Option (List AV):=match b,x with
 |some b,some bs=>some (b::bs)
 |_,_=>none
theorem bF0 {b:AV} {bs:List AV}:I4 (some b) (some bs)=some (b::bs):=rfl
theorem bF1 {o:aK}:lB o []=some []:=rfl
theorem bF2 {o:aK} {a:AV} {r:List AV}:lB o (a::r)=I4 (nU o a) (lB o r):=by
 simp only[lB,I4]
 cases nU o a with
 |none=>rfl
 |some b=>cases lB o r<;>rfl
theorem bF3 {o:aK}:nB o []=some []:=rfl
theorem bF4 {o:aK} {a:AV} {r:List AV}:nB o (a::r)=I4 (jR o a) (nB o r):=by
 simp only[nB,I4]
 cases jR o a with
 |none=>rfl
 |some b=>cases nB o r<;>rfl
theorem bF5 {o:aK} {cs:List AV}:nU o (.agg cs)=(nB o cs).map .agg:=rfl
theorem bF6 {o:aK} {g:FuncId} {cs:List AV}:nU o (.clo g cs)=(nB o cs).map (.clo g):=rfl
theorem bF7 {o:aK} {v:Value}:nU o (.sc v)=some (.sc v):=rfl
theorem bF8 {o:aK} {l f:Bool} {xs:List AV}:nU o (.list l f xs)=some (.list l f xs):=rfl
theorem bF9 {o:aK} {l:Bool} {xs:List AV} {i k:Nat}:nU o (.iptr l xs i k)=some (.iptr l xs i k):=rfl
theorem bGa {o:aK}:nU o .dead=some .dead:=rfl
theorem bGb {o:aK} {v:Value}:jR o (.sc v)=some (.sc v):=rfl
theorem bGc {o:aK} {l f:Bool} {xs:List AV}:jR o (.list l f xs)=some (.list l f xs):=rfl
theorem bGd {o:aK} {l:Bool} {xs:List AV} {i k:Nat}:jR o (.iptr l xs i k)=some (.iptr l xs i k):=rfl
theorem bGe {o:aK}:jR o .dead=some .dead:=rfl
theorem bGf {o:aK} {L lo n:Nat}:nU o (.ref L lo n)=jR o (.ref L lo n):=rfl
theorem bGg {o:aK} {L i k:Nat}:nU o (.ptr L i k)=jR o (.ptr L i k):=rfl
theorem bGh {o:aK} {L i k es n:Nat}:nU o (.aref L i k es n)=jR o (.aref L i k es n):=rfl
def T4 (x:Option AObj) (lo n:Nat):Option AV:=match x with
 |some x=>if x.arr=true then some (.list (!x.fz) false (dC x.xs lo n))else none
 |none=>none
theorem bGi {o:aK} {L lo n:Nat}:jR o (.ref L lo n)=T4 (lk o L) lo n:=by first|rfl|(simp only[jR,T4];done)|(simp only[jR,T4];repeat' split)<;>simp_all
theorem bGj {kd:Nat} {fz pin:Bool} {es lo n:Nat} {xs:List AV}:T4 (some ⟨true,fz,pin,es,xs,kd⟩) lo n=some (.list (!fz) false (dC xs lo n)):=rfl
def T5 (x:Option AObj) (i k:Nat):Option AV:=match x with
 |some x=>if x.arr=true\/AV.pureL x.xs=true then some (.iptr true x.xs i k)else none
 |none=>none
theorem bGk {o:aK} {L i k:Nat}:jR o (.ptr L i k)=T5 (lk o L) i k:=by first|rfl|(simp only[jR,T5];done)|(simp only[jR,T5];repeat' split)<;>simp_all
theorem bGl {kd:Nat} {arr fz pin:Bool} {es i k:Nat} {xs:List AV}:T5 (some ⟨arr,fz,pin,es,xs,kd⟩) i k=if arr=true\/AV.pureL xs=true then some (.iptr true xs i k)else none:=rfl
def T6 (y:Option AV) (k es n:Nat):Option AV:=match y with
 |some y=>if y.pure=true/\k+n*es<=y.cells.length/\n<=1048576/\y.isAgg=true then some (.list true false ((List.range n).map fun j=>sH y.cells (k+j*es) es))else none
 |none=>none
def aDy (x:Option AObj) (i k es n:Nat):Option AV:=match x with
 |some x=>T6 (x.xs[i]?) k es n
 |none=>none
theorem bGn {x:AObj} {i k es n:Nat}:aDy (some x) i k es n=T6 (x.xs[i]?) k es n:=rfl
theorem bGo {y:AV} {k es n:Nat}:T6 (some y) k es n=if y.pure=true/\k+n*es<=y.cells.length/\n<=1048576/\y.isAgg=true then some (.list true false ((List.range n).map fun j=>sH y.cells (k+j*es) es))else none:=rfl
theorem bGp {cs:List AV} {off es:Nat}:sH cs off es=if es=1 then cs.getD off .dead else .agg ((cs.drop off).take es):=rfl
theorem bGq {d es:Nat} {xs:List AV}:qG s d (.own es xs)=s.renew d d d (dQ es xs) (.ref d 0 xs.length):=rfl
theorem bGr {d:Nat} {v:Value}:qG s d (.sc v)=s.put d (.sc v):=rfl
theorem bGs {d:Nat} {cs:List AV}:qG s d (.agg cs)=s.put d (.agg cs):=rfl
theorem bGt {d:Nat} {l f:Bool} {xs:List AV}:qG s d (.list l f xs)=s.put d (.list l f xs):=rfl
theorem bGu {d:Nat} {g:FuncId} {cs:List AV}:qG s d (.clo g cs)=s.put d (.clo g cs):=rfl
def aLb (d:Nat) (x:ASt×List AV):ASt:=x.1.put d (.tup x.2)
theorem bGv {d:Nat} {rs:List AV}:qG s d (.tup rs)=aLb d (fU s.n d 0 s rs):=rfl
theorem bGw {d:Nat} {s1:ASt} {cs:List AV}:aLb d (s1,cs)=s1.put d (.tup cs):=rfl
def I5 (b:AV) (x:ASt×List AV):ASt×List AV:=(x.1,b::x.2)
theorem bGx {b:AV} {s1:ASt} {cs:List AV}:I5 b (s1,cs)=(s1,b::cs):=rfl
theorem bGy {n d i:Nat}:fU n d i s []=(s,[]):=rfl
theorem bGz {n d i es:Nat} {xs rs:List AV}:fU n d i s (.own es xs::rs)=I5 (.ref (n*(i+1)+d) 0 xs.length) (fU n d (i+1) (s.adopt (n*(i+1)+d) (dQ es xs)) rs):=rfl
theorem bG0 {n d i:Nat} {v:Value} {rs:List AV}:fU n d i s (.sc v::rs)=I5 (.sc v) (fU n d (i+1) s rs):=rfl
theorem bG1 {n d i:Nat} {cs:List AV} {rs:List AV}:fU n d i s (.agg cs::rs)=I5 (.agg cs) (fU n d (i+1) s rs):=rfl
theorem bG2 {n d i:Nat} {l f:Bool} {xs rs:List AV}:fU n d i s (.list l f xs::rs)=I5 (.list l f xs) (fU n d (i+1) s rs):=rfl
theorem bG3 {n:Nat} {as:List AV}:entry n as=⟨n,(as.zipIdx 0).map fun p=>(p.2,p.1),[]⟩:=rfl
def zX (a:Option AV) (r:Option (List AV)):Option (List AV):=match a,r with
 |some a,some as=>some (a::as)
 |_,_=>none
theorem bG4 {a:AV} {r:List AV}:zX (some a) (some r)=some (a::r):=rfl
theorem bG5:iP P s []=some []:=rfl
theorem bG6 {r:ResultVar} {rs:List ResultVar}:iP P s (r::rs)=zX (uF P s r) (iP P s rs):=by
 simp only[iP,zX];cases uF P s r<;>cases iP P s rs<;>rfl
theorem bG7 {t:Nat}:uF P s (.tmp t)=lk s.t t:=rfl
def T7 (p:Option AV) (t:TypeId) (P:Program) [Glob P] (o:aK):Option AV:=match p with
 |some (.ptr L i k)=>(oX P t (.ptr L i k) o).map (·.val)
 |_=>none
theorem bG8 {a:Nat} {t:TypeId}:uF P s (.cell a t)=T7 (lk s.t a) t P s.o:=by first|rfl|(simp only[uF,T7];done)|(simp only[uF,T7];repeat' split)<;>simp_all
theorem bG9 {L i k:Nat} {t:TypeId} {o:aK}:T7 (some (.ptr L i k)) t P o=(oX P t (.ptr L i k) o).map (·.val):=rfl
theorem bHa:nE [] s=some s:=rfl
def T8 (x:Option AObj) (L:Nat) (r:List Nat) (s:ASt):Option ASt:=match x with
 |some x=>if x.arr=true then nE r (s.frz L x)else none
 |none=>none
theorem bHb {L:Nat} {r:List Nat}:nE (L::r) s=T8 (lk s.o L) L r s:=by first|rfl|(simp only[nE,T8];done)|(simp only[nE,T8];repeat' split)<;>simp_all
theorem bHc {kd:Nat} {fz pin:Bool} {es L:Nat} {xs:List AV} {r:List Nat}:T8 (some ⟨true,fz,pin,es,xs,kd⟩) L r s=nE r {s with o:=(L,⟨true,true,pin,es,xs,kd⟩)::s.o}:=rfl
def T9 (x:Option (ASt×List AV)):Option AV:=match x with
 |some (s2,ys)=>if qP (iQ ys)=true then(pN s2.o ys).map jG else none
 |none=>none
theorem bHd {s2:ASt} {ys:List AV}:T9 (some (s2,ys))=if qP (iQ ys)=true then(pN s2.o ys).map jG else none:=rfl
def aDz (xs:Option (List AV)) (s1:Option ASt):Option AV:=match xs,s1 with
 |some xs,some s1=>T9 (pK s1 xs)
 |_,_=>none
theorem bHe {rs:List ResultVar} {fs:List Nat}:sO P rs fs s=aDz (iP P s rs) (nE fs s):=by
 simp only[sO,aDz]
 cases iP P s rs with
 |none=>rfl
 |some xs=>cases nE fs s with
  |none=>rfl
  |some s1=>simp only[T9];cases pK s1 xs<;>rfl
theorem bHf {xs:List AV} {s1:ASt}:aDz (some xs) (some s1)=T9 (pK s1 xs):=rfl
theorem bHg:pK s []=some (s,[]):=rfl
theorem bHh {a:AV} {r:List AV}:pK s (a::r)=sP (rM s a) r pK:=by first|rfl|(simp only[pK,sP];done)|(simp only[pK,sP];repeat' split)<;>simp_all
theorem bHi {L lo n:Nat}:rM s (.ref L lo n)=some (s,.ref L lo n):=rfl
theorem bHj {v:Value}:rM s (.sc v)=some (s,.sc v):=by simp[rM,share,kZ,AV.pure]
theorem bHk {cs:List AV}:rM s (.agg cs)=aDw (nA s cs):=rfl
theorem bHl {f:Bool} {xs:List AV}:rM s (.list false f xs)=some (s,.list false f xs):=by simp[rM,share,kZ,AV.pure]
theorem bHm {g:FuncId} {cs:List AV}:rM s (.clo g cs)=if AV.pureL cs=true then some (s,.clo g cs)else none:=rfl
theorem bHn {o:aK}:pN o []=some []:=rfl
theorem bHo {o:aK} {a:AV} {r:List AV}:pN o (a::r)=zX (nI o a) (pN o r):=by first|rfl|(simp only[pN,zX];done)|(simp only[pN,zX];repeat' split)<;>simp_all
theorem bHp {o:aK} {v:Value}:nI o (.sc v)=some (.sc v):=by simp[nI,AV.pure]
theorem bHq {o:aK} {cs:List AV}:nI o (.agg cs)=if AV.pureL cs=true then some (.agg cs)else none:=rfl
theorem bHr {o:aK} {g:FuncId} {cs:List AV}:nI o (.clo g cs)=if AV.pureL cs=true then some (.clo g cs)else none:=rfl
theorem bHs {o:aK} {f:Bool} {xs:List AV}:nI o (.list false f xs)=some (.list false f xs):=by simp[nI,AV.pure]
def zY (x:Option AObj) (lo n:Nat):Option AV:=match x with
 |some x=>if x.arr=true then(if x.fz=true then some (.list false false (dC x.xs lo n))else if x.pin=false/\lo=0/\n=x.xs.length then some (.own x.es x.xs)else none)else none
 |none=>none
theorem bHt {o:aK} {L lo n:Nat}:nI o (.ref L lo n)=zY (lk o L) lo n:=by first|rfl|(simp only[nI,zY];done)|(simp only[nI,zY];repeat' split)<;>simp_all
theorem bHu {kd:Nat} {pin:Bool} {es lo n:Nat} {xs:List AV}:zY (some ⟨true,true,pin,es,xs,kd⟩) lo n=some (.list false false (dC xs lo n)):=rfl
theorem bHv {kd:Nat} {es lo n:Nat} {xs:List AV}:zY (some ⟨true,false,false,es,xs,kd⟩) lo n=if lo=0/\n=xs.length then some (.own es xs)else none:=by simp[zY]
theorem bHw:iQ []= []:=rfl
theorem bHx {L lo n:Nat} {r:List AV}:iQ (.ref L lo n::r)=L::iQ r:=rfl
theorem bHy {v:Value} {r:List AV}:iQ (.sc v::r)=iQ r:=rfl
theorem bHz {cs:List AV} {r:List AV}:iQ (.agg cs::r)=iQ r:=rfl
theorem bH0 {l f:Bool} {xs r:List AV}:iQ (.list l f xs::r)=iQ r:=rfl
theorem bH1 {g:FuncId} {cs:List AV} {r:List AV}:iQ (.clo g cs::r)=iQ r:=rfl
theorem bH2:qP []=true:=rfl
theorem bH3 {a:Nat} {r:List Nat}:qP (a::r)=(!r.contains a&&qP r):=rfl
theorem bH4 {r:AV}:jG [r]=r:=rfl
theorem bH5:jG []= .tup []:=rfl
theorem bH6 {a b:AV} {r:List AV}:jG (a::b::r)= .tup (a::b::r):=rfl
def aD0 (x:Option AV) (R:AV->Prop):Prop:=match x with
 |some r=>R r
 |none=>False
theorem bH7 {rs:List ResultVar} {fs:List Nat} {R:AV->Prop}:S2 P rs fs R s=aD0 (sO P rs fs s) R:=by simp only[S2,aD0]
theorem bH8 {r:AV} {R:AV->Prop}:aD0 (some r) R=R r:=rfl
def I6 (x:Option AV) (want:Bool):GV:=match x with
 |some (.sc (.bool b))=> .test b want
 |some (.tup [])=> .skip
 |_=> .bad
theorem bH9 {want:Bool}:I6 (some (.tup [])) want= .skip:=rfl
theorem bIa {ops:Array Oper} {j:Nat} {want:Bool}:iO ops (some (j,want)) s=I6 ((pH ops j).bind (lk s.t)) want:=by first|rfl|(simp only[iO,I6];done)|(simp only[iO,I6];repeat' split)<;>simp_all
theorem bIb {b want:Bool}:I6 (some (.sc (.bool b))) want= .test b want:=rfl
theorem bIc {ops:Array Oper} {j:Nat}:pH ops j=(ops[j]?).bind (·.dst):=rfl
end
attribute [go_sem ↓] aYr aYs aYt aYu aYv aYw aYx aYy aYz aY0 aY1 aY2 aY8 aY9 aZe aZf aZg aZh aZi aZq aZr aZt aZs List.filter_cons List.filter_nil aZu aZv aZw aZx aZy aZz aZ3
attribute [go_sem] bH9 aZb aZc aZd aZ2 aZ4
attribute [go_sem] aY3 aY4 aZa bIa bIb bIc aZl aZm aZn aZ6 aZ7 aZ8 aZ9 bAa bAb aC3 aC4 aC5 S4 S5 aC6 aC7 S6 aKq aKr aKs aKt aKu aKx aKy aKz bAd zS S7 aC8 S8 S9 T0 aC9 xT aDa aKw bAc bAf bAg bAh bAi bAj bAk bAl bAm bAn bAo bAp bAq bAr bAs bAt aDb bAu bAv bAw bAx bAy
attribute [go_sem] bAz bA0 bA1 bA2 bA3 bA9 bBa bBb bBc bBd bBe bBg bBh bBi bBj bBk bBl bBo bBp bBq bBr bBs bBt
attribute [go_sem] bBu bBv bBw bB1 bB2 bB3 bB4
attribute [go_sem] bB5 bB6 bB7 bB8 bB9 bCa bCb bCc bCd bCe bCf bCg bCh bCi bCj bCk bCl bCm bCn bCo bCp bCq bCr bCs bCy bCz bC0 aDc aDd aDe bC1 aDf bC2 bC3 bC4 aDg aDh
attribute [go_sem] bC5 bC6 bC7 bC8 bC9 sC xG D9 vO bDa bDb bDc bDd bDe bDf bDg bDh bDi bDj bDk bDl bDm bDn bDo bDp bDq bDr bDs bDt bDu bDv bDw bDx bDy bD0 bD1 bD2 bD3 bD4 bD5 bD7 bD8 bD9 bD6 zbS_zero zbS_succ aDn bFt bFu bFv bFw bEa bEb bEc bEd bEe bEf bEg bEh bEi bEj bEk bEl bEm bEn
attribute [go_sem] bEq bEr bEo bEp bEs bEt bEu bEv bEw bEx bEy bEz bE0 bE6 bE7 bE8 bE9 bFa bFb bFc bFd bFe bFf bFg bFh bFi bFk bFl bFm bFn bFo I3 bFq bFs bFx bFy bFz bF0 bF1 bF2 bF3 bF4 bF5 bF6 bF7 bF8 bF9 bGa bGb bGc bGd bGe bGf bGg bGh bGi bGj bGk bGl bGn bGo bGp
attribute [go_sem] bGq bGr bGs bGt bGu bGv bGw bGx bGy bGz bG0 bG1 bG2 bG3 bG4 bG5 bG6 bG7 bG8 bG9 bHa bHb bHc bHd bHe bHf bHg bHh bHi bHj bHk bHl bHm bHn bHo bHp bHq bHr bHs bHt bHu bHv bHw bHx bHy bHz bH0 bH1 bH2 bH3 bH4 bH5 bH6 bH7 bH8 bE5 bE1 bE2 bE3 bE4
attribute [go_sem] List.getElem?_cons_zero List.getElem?_cons_succ List.getElem?_nil List.map_cons List.map_nil List.length_cons List.length_nil List.take_zero List.take_succ_cons List.take_nil List.drop_zero List.drop_succ_cons List.drop_nil List.cons_append List.nil_append List.append_nil List.set_cons_zero List.set_cons_succ List.zipIdx_cons List.zipIdx_nil Option.map_some Option.map_none Option.bind_some Option.bind_none List.getElem?_toArray Nat.zero_add Nat.add_zero Int.toNat_natCast Int.toNat_zero List.contains_nil Bool.not_true Bool.not_false and_true true_and and_false false_and and_self or_true true_or or_false false_or if_true if_false ite_true ite_false ne_eq not_true_eq_false not_false_eq_true Bool.false_eq_true Bool.true_and Bool.and_true Bool.false_and Bool.and_false Bool.or_false Bool.false_or Bool.or_true Bool.true_or eq_self implies_true decide_true decide_false
section
variable {P : Program} [Glob P] {Q : Exit -> ASt -> Prop} {s : ASt} {k : ASt -> Prop}
section asteps
variable {dd : Option Nat} {d : Nat} {ty : TypeId} {pos : String} {af : Array Edge} {g : Option (Nat × Bool)}
theorem bId {x:Operand}:cG P ⟨dd,.move x,ty,pos,af,g⟩ k s=dB P (bR P ⟨dd,.move x,ty,pos,af,g⟩ s) dd k s:=rfl
theorem bIe {x:Operand}:cG P ⟨dd,.assign x,ty,pos,af,g⟩ k s=dB P (bR P ⟨dd,.assign x,ty,pos,af,g⟩ s) dd k s:=rfl
theorem bIf {c x y:Operand}:cG P ⟨dd,.pick c x y,ty,pos,af,g⟩ k s=dB P (bR P ⟨dd,.pick c x y,ty,pos,af,g⟩ s) dd k s:=rfl
theorem bIg {t:TypeId}:cG P ⟨dd,.alloc t,ty,pos,af,g⟩ k s=dB P (bR P ⟨dd,.alloc t,ty,pos,af,g⟩ s) dd k s:=rfl
theorem bIh {t:TypeId} {x:Operand}:cG P ⟨dd,.box t x,ty,pos,af,g⟩ k s=dB P (bR P ⟨dd,.box t x,ty,pos,af,g⟩ s) dd k s:=rfl
theorem bIi {t:TypeId} {ps:Array (Nat×Operand)}:cG P ⟨dd,.build t ps,ty,pos,af,g⟩ k s=dB P (bR P ⟨dd,.build t ps,ty,pos,af,g⟩ s) dd k s:=rfl
theorem bIj {t:TypeId} {l:Nat} {ps:Array (Nat×Operand)}:cG P ⟨dd,.buildSlice t l ps,ty,pos,af,g⟩ k s=dB P (bR P ⟨dd,.buildSlice t l ps,ty,pos,af,g⟩ s) dd k s:=rfl
theorem bIk {t:TypeId} {x:Operand}:cG P ⟨dd,.load t x,ty,pos,af,g⟩ k s=dB P (bR P ⟨dd,.load t x,ty,pos,af,g⟩ s) dd k s:=rfl
theorem bIl {t:TypeId} {x y:Operand}:cG P ⟨dd,.store t x y,ty,pos,af,g⟩ k s=dB P (bR P ⟨dd,.store t x y,ty,pos,af,g⟩ s) dd k s:=rfl
theorem bIm {x:Operand}:cG P ⟨dd,.nilCheck x,ty,pos,af,g⟩ k s=dB P (bR P ⟨dd,.nilCheck x,ty,pos,af,g⟩ s) dd k s:=rfl
theorem bIn {u:UnOp} {t:TypeId} {x:Operand}:cG P ⟨dd,.unOp u t x,ty,pos,af,g⟩ k s=dB P (bR P ⟨dd,.unOp u t x,ty,pos,af,g⟩ s) dd k s:=rfl
theorem bIo {t:TypeId} {x:Operand} {i:Nat}:cG P ⟨dd,.fieldAddr t x i,ty,pos,af,g⟩ k s=dB P (bR P ⟨dd,.fieldAddr t x i,ty,pos,af,g⟩ s) dd k s:=rfl
theorem bIp {t:TypeId} {x:Operand} {i:Nat}:cG P ⟨dd,.field t x i,ty,pos,af,g⟩ k s=dB P (bR P ⟨dd,.field t x i,ty,pos,af,g⟩ s) dd k s:=rfl
theorem bIq {t:TypeId} {x y:Operand}:cG P ⟨dd,.indexAddr t x y,ty,pos,af,g⟩ k s=dB P (bR P ⟨dd,.indexAddr t x y,ty,pos,af,g⟩ s) dd k s:=rfl
theorem bIr {t:TypeId} {x y:Operand}:cG P ⟨dd,.index t x y,ty,pos,af,g⟩ k s=dB P (bR P ⟨dd,.index t x y,ty,pos,af,g⟩ s) dd k s:=rfl
theorem bIs {t:TypeId} {x:Operand} {l h:Option Operand}:cG P ⟨dd,.slice t x l h none,ty,pos,af,g⟩ k s=dB P (bR P ⟨dd,.slice t x l h none,ty,pos,af,g⟩ s) dd k s:=by
 cases l<;>cases h<;>rfl
theorem bIt {x:Operand} {i:Nat}:cG P ⟨dd,.extract x i,ty,pos,af,g⟩ k s=dB P (bR P ⟨dd,.extract x i,ty,pos,af,g⟩ s) dd k s:=rfl
theorem bIu {fn:Fn} {a c:Array Operand}:cG P ⟨dd,.makeFunc fn a c,ty,pos,af,g⟩ k s=dB P (bR P ⟨dd,.makeFunc fn a c,ty,pos,af,g⟩ s) dd k s:=rfl
theorem bIv {t:TypeId} {x:Operand}:cG P ⟨dd,.makeMap t (some x),ty,pos,af,g⟩ k s=dB P (bR P ⟨dd,.makeMap t (some x),ty,pos,af,g⟩ s) dd k s:=rfl
theorem bIw {t:TypeId} {x:Operand}:cG P ⟨dd,.makeInterface t x,ty,pos,af,g⟩ k s=dB P (bR P ⟨dd,.makeInterface t x,ty,pos,af,g⟩ s) dd k s:=rfl
theorem bIx {x:Operand} {xs:Array Operand} {ts:Array TypeId}:cG P ⟨dd,.call ⟨.value x,xs,ts⟩,ty,pos,af,g⟩ k s=dB P (bR P ⟨dd,.call ⟨.value x,xs,ts⟩,ty,pos,af,g⟩ s) dd k s:=rfl
theorem bIy {xs:Array Operand} {ts:Array TypeId}:cG P ⟨dd,.call ⟨.builtin .len,xs,ts⟩,ty,pos,af,g⟩ k s=dB P (bR P ⟨dd,.call ⟨.builtin .len,xs,ts⟩,ty,pos,af,g⟩ s) dd k s:=rfl
theorem bIz {xs:Array Operand} {ts:Array TypeId}:cG P ⟨dd,.call ⟨.builtin .min,xs,ts⟩,ty,pos,af,g⟩ k s=dB P (bR P ⟨dd,.call ⟨.builtin .min,xs,ts⟩,ty,pos,af,g⟩ s) dd k s:=rfl
theorem bI0 {xs:Array Operand} {ts:Array TypeId}:cG P ⟨dd,.call ⟨.builtin .max,xs,ts⟩,ty,pos,af,g⟩ k s=dB P (bR P ⟨dd,.call ⟨.builtin .max,xs,ts⟩,ty,pos,af,g⟩ s) dd k s:=rfl
theorem bI2 {xs:Array Operand} {ts:Array TypeId}:cG P ⟨dd,.call ⟨.builtin .cap,xs,ts⟩,ty,pos,af,g⟩ k s=dB P (bR P ⟨dd,.call ⟨.builtin .cap,xs,ts⟩,ty,pos,af,g⟩ s) dd k s:=rfl
theorem bI3 {t yt:TypeId} {x y:Operand}:cG P ⟨dd,.binOp .add t x y yt,ty,pos,af,g⟩ k s=dB P (bR P ⟨dd,.binOp .add t x y yt,ty,pos,af,g⟩ s) dd k s:=rfl
theorem bI4 {t yt:TypeId} {x y:Operand}:cG P ⟨dd,.binOp .sub t x y yt,ty,pos,af,g⟩ k s=dB P (bR P ⟨dd,.binOp .sub t x y yt,ty,pos,af,g⟩ s) dd k s:=rfl
theorem bI5 {t yt:TypeId} {x y:Operand}:cG P ⟨dd,.binOp .mul t x y yt,ty,pos,af,g⟩ k s=dB P (bR P ⟨dd,.binOp .mul t x y yt,ty,pos,af,g⟩ s) dd k s:=rfl
theorem bI6 {t yt:TypeId} {x y:Operand}:cG P ⟨dd,.binOp .quo t x y yt,ty,pos,af,g⟩ k s=dB P (bR P ⟨dd,.binOp .quo t x y yt,ty,pos,af,g⟩ s) dd k s:=rfl
theorem bI7 {t yt:TypeId} {x y:Operand}:cG P ⟨dd,.binOp .rem t x y yt,ty,pos,af,g⟩ k s=dB P (bR P ⟨dd,.binOp .rem t x y yt,ty,pos,af,g⟩ s) dd k s:=rfl
theorem bI8 {t yt:TypeId} {x y:Operand}:cG P ⟨dd,.binOp .and t x y yt,ty,pos,af,g⟩ k s=dB P (bR P ⟨dd,.binOp .and t x y yt,ty,pos,af,g⟩ s) dd k s:=rfl
theorem bI9 {t yt:TypeId} {x y:Operand}:cG P ⟨dd,.binOp .or t x y yt,ty,pos,af,g⟩ k s=dB P (bR P ⟨dd,.binOp .or t x y yt,ty,pos,af,g⟩ s) dd k s:=rfl
theorem bJa {t yt:TypeId} {x y:Operand}:cG P ⟨dd,.binOp .xor t x y yt,ty,pos,af,g⟩ k s=dB P (bR P ⟨dd,.binOp .xor t x y yt,ty,pos,af,g⟩ s) dd k s:=rfl
theorem bJb {t yt:TypeId} {x y:Operand}:cG P ⟨dd,.binOp .shl t x y yt,ty,pos,af,g⟩ k s=dB P (bR P ⟨dd,.binOp .shl t x y yt,ty,pos,af,g⟩ s) dd k s:=rfl
theorem bJc {t yt:TypeId} {x y:Operand}:cG P ⟨dd,.binOp .shr t x y yt,ty,pos,af,g⟩ k s=dB P (bR P ⟨dd,.binOp .shr t x y yt,ty,pos,af,g⟩ s) dd k s:=rfl
theorem bJd {t yt:TypeId} {x y:Operand}:cG P ⟨dd,.binOp .andNot t x y yt,ty,pos,af,g⟩ k s=dB P (bR P ⟨dd,.binOp .andNot t x y yt,ty,pos,af,g⟩ s) dd k s:=rfl
theorem bJe {t yt:TypeId} {x y:Operand}:cG P ⟨dd,.binOp .eql t x y yt,ty,pos,af,g⟩ k s=H1 (mM P t y (ev s.t x)) P (bR P ⟨dd,.binOp .eql t x y yt,ty,pos,af,g⟩ s) dd k s:=rfl
theorem bJf {r:Res}:H1 false P r dd k s=dB P r dd k s:=rfl
theorem bJg {r:Res} {d:Nat}:H1 true P r (some d) k s=(d<s.n/\nbP fun b=>k (s.put d (bl b))):=rfl
theorem bJh {t:TypeId} {y:Operand}:mM P t y none=false:=rfl
theorem bJi {t:TypeId} {y:Operand} {v:Value}:mM P t y (some (.sc v))=false:=rfl
theorem bJj {t:TypeId} {y:Operand} {v:List AV}:mM P t y (some (.agg v))=false:=rfl
theorem bJk {t:TypeId} {y:Operand} {L lo n:Nat}:mM P t y (some (.ref L lo n))=false:=rfl
theorem bJl {t:TypeId} {y:Operand} {L lo n:Nat}:mM P t y (some (.ptr L lo n))=false:=rfl
theorem bJm {t:TypeId} {y:Operand} {l:Bool} {xs:List AV} {i o:Nat}:mM P t y (some (.iptr l xs i o))=false:=rfl
theorem bJn {t:TypeId} {y:Operand} {f:FuncId} {v:List AV}:mM P t y (some (.clo f v))=false:=rfl
theorem bJo {t:TypeId} {y:Operand} {L:Nat}:mM P t y (some (.mp L))=false:=rfl
theorem bJp {t:TypeId} {y:Operand} {l f:Bool} {x:AV} {xs:List AV}:mM P t y (some (.list l f (x::xs)))=false:=rfl
theorem bJq {t:TypeId} {l f:Bool}:mM P t (.const (.slice none 0 0)) (some (.list l f []))=decide (bG P t=1):=by
 unfold mM
 rw[decide_eq_decide]
 exact⟨fun h=>h.2,fun h=>⟨rfl,h⟩⟩
theorem dL {k:Bool->Prop} (h: ∀b,k b):nbP k:=h
theorem bJs {t yt:TypeId} {x y:Operand}:cG P ⟨dd,.binOp .lss t x y yt,ty,pos,af,g⟩ k s=dB P (bR P ⟨dd,.binOp .lss t x y yt,ty,pos,af,g⟩ s) dd k s:=rfl
theorem bJt {t yt:TypeId} {x y:Operand}:cG P ⟨dd,.binOp .leq t x y yt,ty,pos,af,g⟩ k s=dB P (bR P ⟨dd,.binOp .leq t x y yt,ty,pos,af,g⟩ s) dd k s:=rfl
theorem bJu {t yt:TypeId} {x y:Operand}:cG P ⟨dd,.binOp .gtr t x y yt,ty,pos,af,g⟩ k s=dB P (bR P ⟨dd,.binOp .gtr t x y yt,ty,pos,af,g⟩ s) dd k s:=rfl
theorem bJv {t yt:TypeId} {x y:Operand}:cG P ⟨dd,.binOp .geq t x y yt,ty,pos,af,g⟩ k s=dB P (bR P ⟨dd,.binOp .geq t x y yt,ty,pos,af,g⟩ s) dd k s:=rfl
def iD (r:Option St) (k:ASt->Prop) (z:Prop):Prop:=match r with
 |some r=>r.need/\k r.st
 |none=>z
theorem bJw {n:Bool} {st:ASt} {z:Prop}:iD (some ⟨n,st⟩) k z=(n/\k st):=rfl
theorem bJx {z:Prop}:iD none k z=z:=rfl
def zZ (v:Option AV) (d:Nat) (s:ASt):Option St:=match v with
 |some v=>some ⟨decide (d<s.n),s.put d v⟩
 |none=>none
theorem bJy {v:AV}:zZ (some v) d s=some ⟨decide (d<s.n),s.put d v⟩:=rfl
theorem bJz:zZ none d s=none:=rfl
def U0 (b:Bool) (d:Nat) (s:ASt):Option St:=match b with
 |true=>some ⟨decide (d<s.n),s.put d (bl false)⟩
 |false=>none
theorem bJ0:U0 true d s=some ⟨decide (d<s.n),s.put d (bl false)⟩:=rfl
theorem bJ1:U0 false d s=none:=rfl
theorem bJ2 {a b:TypeId} {x:Operand}:cG P ⟨some d,.convert a b x,ty,pos,af,g⟩ k s=dB P (bR P ⟨some d,.convert a b x,ty,pos,af,g⟩ s) (some d) k s:=by
 simp only[cG,kP,mL];rfl
theorem bJ3 {t yt:TypeId} {x y:Operand}:cG P ⟨some d,.binOp .neq t x y yt,ty,pos,af,g⟩ k s=iD (U0 (qO P t (ev s.t x) (ev s.t y)) d s) k (dB P (bR P ⟨some d,.binOp .neq t x y yt,ty,pos,af,g⟩ s) (some d) k s):=by
 simp only[cG,kP,mL,iD,U0];cases qO P t (ev s.t x) (ev s.t y)<;>rfl
theorem bJ5 {x y:Operand} {t t':TypeId}:cG P ⟨none,.call ⟨.builtin .delete,#[x,y],#[t,t']⟩,ty,pos,af,g⟩ k s=iD (G8 P t s (ev s.t x) (ev s.t y)) k (dB P (bR P ⟨none,.call ⟨.builtin .delete,#[x,y],#[t,t']⟩,ty,pos,af,g⟩ s) none k s):=by
 simp only[cG,kP,mL,iD];rfl
theorem bJ6 {t:TypeId}:cG P ⟨some d,.makeMap t none,ty,pos,af,g⟩ k s=(decide (d<s.n)=true/\k (s.renew d d d zG (.mp d))):=rfl
theorem bJ7 {t:TypeId} {x y:Operand} {b:Bool}:cG P ⟨some d,.lookup t x y b,ty,pos,af,g⟩ k s=iD (G7 P t b d s (ev s.t x) (ev s.t y)) k (dB P (bR P ⟨some d,.lookup t x y b,ty,pos,af,g⟩ s) (some d) k s):=by
 simp only[cG,kP,mL,iD];rfl
theorem bJ8 {t:TypeId} {x y z:Operand}:cG P ⟨none,.mapUpdate t x y z,ty,pos,af,g⟩ k s=iD (zK P t s (ev s.t x) (ev s.t y) (ev s.t z)) k (dB P (bR P ⟨none,.mapUpdate t x y z,ty,pos,af,g⟩ s) none k s):=by
 simp only[cG,kP,mL,iD];rfl
theorem bJ9 {t:TypeId} {b:Bool} {L:Nat} {v:Value}:G7 P t b d s (some (.mp L)) (some (.sc v))=zI P t b d v s (lk s.o L):=rfl
theorem bKa {t:TypeId} {b:Bool} {L:Nat} {cs:List AV}:G7 P t b d s (some (.mp L)) (some (.agg cs))=Q8 P t b d L s (fS (.agg cs)):=rfl
theorem bKb {a b:Value}:fS (.agg [.sc a,.sc b])=some (.agg #[a,b]):=rfl
theorem bKc {a b c:Value}:fS (.agg [.sc a,.sc b,.sc c])=some (.agg #[a,b,c]):=rfl
theorem bKd {t:TypeId} {b:Bool} {L:Nat} {v:Value}:Q8 P t b d L s (some v)=zI P t b d v s (lk s.o L):=rfl
def A0 (z:Option AV) (ok:Bool) (m:Option (Option (Nat×AV))):Option AV:=match z,m with
 |some z,some none=>some (if ok=true then .tup [z,bl false]else z)
 |some _,some (some (_,v))=>some (if ok=true then .tup [v,bl true]else v)
 |_,_=>none
theorem bKe {z:AV} {ok:Bool}:A0 (some z) ok (some none)=some (if ok=true then .tup [z,bl false]else z):=rfl
theorem bKf {z v:AV} {ok:Bool} {i:Nat}:A0 (some z) ok (some (some (i,v)))=some (if ok=true then .tup [v,bl true]else v):=rfl
theorem bKg {t:TypeId} {b:Bool} {v:Value} {ar fz pin:Bool} {es kd:Nat} {xs:List AV}:zI P t b d v s (some ⟨ar,fz,pin,es,xs,kd⟩)=if iC P t v=true/\kd=1/\es=0 then zZ (A0 (qK P t) b (dD v xs 0)) d s else none:=by
 simp only[zI,zZ]
 have e:F8 P t v b xs=A0 (qK P t) b (dD v xs 0):=by
  unfold F8 A0
  cases qK P t with
  |none=>rfl
  |some z=>cases dD v xs 0 with
   |none=>rfl
   |some q=>cases q<;>rfl
 rw[e]
 cases A0 (qK P t) b (dD v xs 0)<;>rfl
def xV (r:Option ASt):Option St:=match r with
 |some r=>some ⟨true,r⟩
 |none=>none
theorem bKh {r:ASt}:xV (some r)=some ⟨true,r⟩:=rfl
def mpR (P:Program) [Glob P] (t:TypeId) (L:Nat) (v:Value) (r:Option (ASt×AV)):Option ASt:=match r with
 |some (s1,v1)=>match lk s1.o L with
  |some x=>if iC P t v=true/\x.kd=1/\x.fz=false/\v1.pure=true/\x.es=0/\x.arr=true then match fK v v1 x.xs with
   |some ys=>if ys.length<=dU then some {s1 with o:=cL s1.o L {x with xs:=ys}} else none
   |none=>none
   else none
  |none=>none
 |none=>none
def mpQ (P:Program) [Glob P] (t:TypeId) (L:Nat) (v:Value) (s1:ASt) (v1:AV) (x:Option AObj):Option ASt:=match x with
 |some x=>if iC P t v=true/\x.kd=1/\x.fz=false/\v1.pure=true/\x.es=0/\x.arr=true then match fK v v1 x.xs with
  |some ys=>if ys.length<=dU then some {s1 with o:=cL s1.o L {x with xs:=ys}} else none
  |none=>none
  else none
 |none=>none
def mdP (L:Nat) (s1:ASt) (x:AObj) (ys:Option (List AV)):Option ASt:=match ys with
 |some ys=>some {s1 with o:=cL s1.o L {x with xs:=ys}}
 |none=>none
def I7 (L:Nat) (s1:ASt) (x:AObj) (ys:Option (List AV)):Option ASt:=match ys with
 |some ys=>if ys.length<=dU then some {s1 with o:=cL s1.o L {x with xs:=ys}} else none
 |none=>none
theorem bKi {t:TypeId} {L:Nat} {v:Value} {b:AV}:zK P t s (some (.mp L)) (some (.sc v)) (some b)=xV (qL P t L v b s (lk s.o L)):=by
 simp only[zK,zJ,fS,oU,xV]
 cases qL P t L v b s (lk s.o L)<;>rfl
theorem bKj {t:TypeId} {L:Nat} {cs:List AV} {b:AV}:zK P t s (some (.mp L)) (some (.agg cs)) (some b)=zJ P t s L b (fS (.agg cs)):=rfl
theorem bKk {t:TypeId} {L:Nat} {v:Value} {b:AV}:zJ P t s L b (some v)=xV (qL P t L v b s (lk s.o L)):=by
 simp only[zJ,xV]
 cases qL P t L v b s (lk s.o L)<;>rfl
theorem bKl {t:TypeId} {L:Nat} {v:Value}:G8 P t s (some (.mp L)) (some (.sc v))=xV (xN P t L v s (lk s.o L)):=by
 simp only[G8,aCd,fS,oU,xV]
 cases xN P t L v s (lk s.o L)<;>rfl
theorem bKm {t:TypeId} {L:Nat} {v:Value} {pin:Bool} {xs:List AV}:xN P t L v s (some ⟨true,false,pin,0,xs,1⟩)=if iC P t v=true then mdP L s ⟨true,false,pin,0,xs,1⟩ (xL v xs)else none:=by
 simp only[xN,true_and,and_true,mdP]
 cases xL v xs<;>rfl
theorem bKn {L:Nat} {x:AObj} {ys:List AV}:mdP L s x (some ys)=some {s with o:=cL s.o L {x with xs:=ys}}:=rfl
theorem bKo {t:TypeId} {L:Nat} {v:Value} {b:AV} {fz pin:Bool} {es kd:Nat} {xs:List AV}:qL P t L v b s (some ⟨true,fz,pin,es,xs,kd⟩)=mpR P t L v (share s b):=by
 simp only[qL,Q2,mpR]
 cases share s b with
 |none=>rfl
 |some q=>rfl
theorem bKp {t:TypeId} {L:Nat} {v:Value} {b:AV} {pin:Bool} {xs:List AV}:qL P t L v b s (some ⟨false,false,pin,0,xs,1⟩)=if iC P t v=true then I7 L s ⟨false,false,pin,0,xs,1⟩ (fK v b xs)else none:=by
 by_cases h:iC P t v=true
 ·simp only[qL,F9,I7,h,and_self,if_true]
  cases fK v b xs<;>rfl
 ·simp[qL,F9,h]
theorem bKq {t:TypeId} {L:Nat} {v:Value} {s1:ASt} {v1:AV}:mpR P t L v (some (s1,v1))=mpQ P t L v s1 v1 (lk s1.o L):=rfl
theorem bKr {t:TypeId} {L:Nat} {v:Value} {s1:ASt} {v1:AV} {pin:Bool} {xs:List AV}:mpQ P t L v s1 v1 (some ⟨true,false,pin,0,xs,1⟩)=if iC P t v=true/\v1.pure=true then I7 L s1 ⟨true,false,pin,0,xs,1⟩ (fK v v1 xs)else none:=by
 simp only[mpQ,I7,true_and,and_true]
theorem bKs {L:Nat} {s1:ASt} {x:AObj} {ys:List AV}:I7 L s1 x (some ys)=if ys.length<=dU then some {s1 with o:=cL s1.o L {x with xs:=ys}} else none:=rfl
theorem bKt {t:TypeId} {x:Operand} {q:(ASt->Prop)->Prop} (h:R1 P t d s (ev s.t x)=some q):cG P ⟨some d,.range t x,ty,pos,af,g⟩ k s=q k:=by
 simp only[cG,kP,h]
theorem bKu {x:Operand} {q:(ASt->Prop)->Prop} (h:vY s d true (ev s.t x)=some q):cG P ⟨some d,.next x false,ty,pos,af,g⟩ k s=q k:=by
 simp only[cG,kP,h]
theorem bKv {x:Operand} {q:(ASt->Prop)->Prop} (h:vY s d false (ev s.t x)=some q):cG P ⟨some d,.entry x,ty,pos,af,g⟩ k s=q k:=by
 simp only[cG,kP,h]
theorem bKw:zG=⟨true,false,false,0,[],1⟩:=rfl
def U1 (P:Program) [Glob P] (d:Nat) (s:ASt) (l c:Int) (e es b:Nat) (z:Option AV):Option St:=match z with
 |some z=>if z.pure=true/\z.cells.length=es then some ⟨decide (d<s.n/\0<=l/\l<=c/\(b:Int)*c<=281474976710656/\c<=140737488355328),s.fresh d (dQ es (List.replicate l.toNat z)) (.ref d 0 l.toNat)⟩else none
 |none=>none
def mkT (P:Program) [Glob P] (d:Nat) (s:ASt) (l c:Int):Option (TypeId×Nat×Nat)->Option St
 |some (e,es,b)=>U1 P d s l c e es b (aR P e)
 |none=>none
theorem bKy {l c:Int} {e es b:Nat}:mkT P d s l c (some (e,es,b))=U1 P d s l c e es b (aR P e):=rfl
theorem bKz {l c:Int} {e es b:Nat} {z:AV}:U1 P d s l c e es b (some z)=if z.pure=true/\z.cells.length=es then some ⟨decide (d<s.n/\0<=l/\l<=c/\(b:Int)*c<=281474976710656/\c<=140737488355328),s.fresh d (dQ es (List.replicate l.toNat z)) (.ref d 0 l.toNat)⟩else none:=rfl
theorem bK2 {x y:Operand} {st xt:TypeId}:cG P ⟨some d,.call ⟨.builtin .append,#[x,y],#[st,xt]⟩,ty,pos,af,g⟩ k s=iD (vX P st xt d s (ev s.t x) (ev s.t y)) k (dB P (bR P ⟨some d,.call ⟨.builtin .append,#[x,y],#[st,xt]⟩,ty,pos,af,g⟩ s) (some d) k s):=by
 simp only[cG,kP,mL,iD];rfl
theorem bK4 {t:TypeId} {x h m:Operand}:cG P ⟨some d,.slice t x none (some h) (some m),ty,pos,af,g⟩ k s=iD (G9 P t d s (ev s.t x) (ev s.t h) (ev s.t m)) k (dB P (bR P ⟨some d,.slice t x none (some h) (some m),ty,pos,af,g⟩ s) (some d) k s):=by
 simp only[cG,kP,mL,iD];rfl
def slF (d:Nat) (s:ASt) (lent:Bool) (xs:List AV) (h m:Int):Option (TypeId×Nat×Nat)->Option St
 |some (_,es,_)=>some ⟨decide (d<s.n/\h=xs.length/\m=xs.length/\ ∀y∈xs,y.cells.length=es),s.put d (.list lent true xs)⟩
 |none=>none
theorem bK5 {lent:Bool} {xs:List AV} {h m:Int} {e:TypeId} {es b:Nat}:slF d s lent xs h m (some (e,es,b))=some ⟨decide (d<s.n/\h=xs.length/\m=xs.length/\ ∀y∈xs,y.cells.length=es),s.put d (.list lent true xs)⟩:=rfl
theorem bK6 {t:TypeId} {lent iT:Bool} {xs:List AV} {k2 k3:IntKind} {h m:Int}:G9 P t d s (some (.list lent iT xs)) (some (.sc (.int k2 h))) (some (.sc (.int k3 m)))=slF d s lent xs h m (cI P t):=by
 simp only[G9,slF]
 cases cI P t<;>rfl
theorem bK7 {st xt:TypeId} {l f:Bool} {xs:List AV} {b:Option AV}:vX P st xt d s (some (.list l f xs)) b=none:=rfl
theorem bK8 {st xt:TypeId} {L lo n:Nat} {b:Option AV}:vX P st xt d s (some (.ref L lo n)) b=none:=rfl
theorem bK9 {st xt:TypeId} {v:Value} {b:Option AV}:vX P st xt d s (some (.sc v)) b=none:=rfl
theorem bLa {st xt:TypeId} {L lo n c:Nat} {v:Value}:vX P st xt d s (some (.rc L lo n c)) (some (.sc v))=none:=rfl
def apC (d:Nat) (s:ASt) (L lo n c:Nat):Option (TypeId×Nat×Nat)->Bool->Option (List AV)->Option AObj->Option St
 |some (_,es,_),true,some ys,some x=>if x.arr=true/\x.fz=false/\x.kd≠1 then
  some ⟨decide (d<s.n/\(∀y∈ys,y.cells.length=es)/\x.es=es/\n+ys.length<=x.xs.length/\lo=0/\n+ys.length<=c),{s with o:=cL s.o L {x with xs:=splice x.xs ys n}}.put d (.rc L 0 (n+ys.length) c)⟩else none
 |_,_,_,_=>none
theorem bLb {st xt:TypeId} {L lo n c L' lo' n' c':Nat}:vX P st xt d s (some (.rc L lo n c)) (some (.rc L' lo' n' c'))=apC d s L lo n c (cI P st) (gU P xt) (kC s.o (.rc L' lo' n' c')) (lk s.o L):=rfl
theorem bLc {L lo n c e es bt:Nat} {ys:List AV} {x:AObj}:apC d s L lo n c (some (e,es,bt)) true (some ys) (some x)=if x.arr=true/\x.fz=false/\x.kd≠1 then
 some ⟨decide (d<s.n/\(∀y∈ys,y.cells.length=es)/\x.es=es/\n+ys.length<=x.xs.length/\lo=0/\n+ys.length<=c),{s with o:=cL s.o L {x with xs:=splice x.xs ys n}}.put d (.rc L 0 (n+ys.length) c)⟩else none:=rfl
theorem bLl {x y:Operand} {pt it:TypeId}:cG P ⟨some d,.call ⟨.builtin .copy,#[x,y],#[pt,it]⟩,ty,pos,af,g⟩ k s=iD (xO P pt d s (ev s.t x) (ev s.t y)) k (dB P (bR P ⟨some d,.call ⟨.builtin .copy,#[x,y],#[pt,it]⟩,ty,pos,af,g⟩ s) (some d) k s):=by
 simp only[cG,kP,mL,iD];rfl
def U3 (d:Nat) (s:ASt) (L lo n:Nat) (es:Nat) (ys:List AV):Option AObj->Option St
 |some x=>if x.arr=true/\x.fz=false/\x.kd≠1 then
  some ⟨decide (d<s.n/\(∀y∈ys,y.cells.length=es)/\x.es=es/\ys.length<=n/\(ys≠ []\/lo=0)/\lo+n<=x.xs.length),{s with o:=cL s.o L {x with xs:=splice x.xs ys lo}}.put d (nt .i64 ys.length)⟩
  else none
 |none=>none
def cpR (d:Nat) (s:ASt) (L lo n:Nat) (t:Option (TypeId×Nat×Nat)) (r:Option (List AV)):Option St:=match t,r with
 |some (_,es,_),some ys=>U3 d s L lo n es ys (lk s.o L)
 |_,_=>none
theorem bLm {t:TypeId} {L lo n:Nat} {b:AV}:xO P t d s (some (.ref L lo n)) (some b)=cpR d s L lo n (cI P t) (kC s.o b):=by
 simp only[xO,G0,cpR]
 cases cI P t with
 |none=>rfl
 |some q=>
  obtain⟨e,es,b'⟩:=q
  cases kC s.o b with
  |none=>rfl
  |some ys=>simp only;cases lk s.o L<;>rfl
theorem bLn {L lo n e es b:Nat} {ys:List AV}:cpR d s L lo n (some (e,es,b)) (some ys)=U3 d s L lo n es ys (lk s.o L):=rfl
theorem bLo {L lo n es kd:Nat} {ys xs:List AV} {pin:Bool} {e:Nat}:U3 d s L lo n es ys (some ⟨true,false,pin,e,xs,kd⟩)=if kd≠1 then
 some ⟨decide (d<s.n/\(∀y∈ys,y.cells.length=es)/\e=es/\ys.length<=n/\(ys≠ []\/lo=0)/\lo+n<=xs.length),{s with o:=cL s.o L ⟨true,false,pin,e,splice xs ys lo,kd⟩}.put d (nt .i64 ys.length)⟩else none:=by
 simp only[U3,true_and]
attribute [go_sem] G3
theorem bL0 {t:TypeId} {v:Value} {y:Option AV}:qO P t (some (.sc v)) y=false:=rfl
theorem bL1 {t:TypeId} {l f:Bool} {xs:List AV} {y:Option AV}:qO P t (some (.list l f xs)) y=false:=rfl
theorem bL2 {t:TypeId} {cs:List AV} {y:Option AV}:qO P t (some (.agg cs)) y=false:=rfl
theorem bL3 {t:TypeId} {L lo n:Nat} {y:Option AV}:qO P t (some (.ref L lo n)) y=false:=rfl
theorem bL4 {t:TypeId} {f:FuncId} {cs:List AV} {y:Option AV}:qO P t (some (.clo f cs)) y=false:=rfl
theorem bL5 {t:TypeId} {l:Bool} {xs:List AV} {i o:Nat} {y:Option AV}:qO P t (some (.iptr l xs i o)) y=false:=rfl
theorem bL6 {t:TypeId} {L i o:Nat} {v:Value}:qO P t (some (.ptr L i o)) (some (.sc v))=false:=rfl
theorem bL7 {t:TypeId} {L i o L' i' o':Nat}:qO P t (some (.ptr L i o)) (some (.ptr L' i' o'))=(decide (L=L'/\i=i'/\o=o')&&R5 P t):=rfl
theorem bMa {st xt:TypeId} {l f:Bool} {xs:List AV} {b:AV}:sG P st xt (.list l f xs) b d s=tZ P st xt (.list l f xs) b d s:=rfl
theorem bMb {st xt:TypeId} {L lo n:Nat} {b:AV}:sG P st xt (.ref L lo n) b d s=tZ P st xt (.ref L lo n) b d s:=rfl
attribute [go_sem] bJf bJg bJh bJi bJj bJk bJl bJm bJn bJo bJp bJq
attribute [go_sem] bK4 bK5 bK6 bK7 bK8 bK9 bLa bLb bLc
attribute [go_sem] bId bIe bIf bIg bIh bIi bIj bIk bIl bIm bIn bIo bIp bIq bIr bIs bIt bIu bJ6 bIv bJ9 bKa bKb bKc bKd bKj bKk bKl bKm bKn bKo bKp bKe bKf bKg bKh bKi bKq bKr bKs bKw bKy bKz bIw bJ7 bJ8 bIx bIy bK2 bIz bI0 bLl bLm bLn bLo bI2 bJ5 bI3 bI4 bI5 bI6 bI7 bI8 bI9 bJa bJb bJc bJd bJe bJs bJt bJu bJv bJw bJx bJy bJz bJ0 bJ1 bJ2 bJ3 bL0 bL1 bL2 bL3 bL4 bL5 bL6 bL7 bMa bMb
end asteps
end
end Go.Ab
namespace Go.Ab
open Go.RowKit
mutual
def AV.okIn (o:aK):AV->Bool
 | .agg cs=>AV.okInL o cs
 | .tup cs=>AV.okInL o cs
 | .clo _ cs=>AV.okInL o cs
 | .ref L _ _=>(lk o L).isSome
 | .ptr L _ _=>(lk o L).isSome
 | .aref L _ _ _ _=>(lk o L).isSome
 | .mp L=>(lk o L).isSome
 | .yl L=>(lk o L).isSome
 | .rc L _ _ _=>(lk o L).isSome
 |_=>true
def AV.okInL (o:aK):List AV->Bool
 | []=>true
 |a::r=>a.okIn o&&AV.okInL o r
end
mutual
theorem aLf {o:aK} {L:Nat}: ∀{a:AV},a.okIn o=true->a.has L=true->(lk o L).isSome=true
 | .agg cs,h,hh=>by simp only[AV.okIn]at h;simp only[AV.has]at hh;exact I8 h hh
 | .tup cs,h,hh=>by simp only[AV.okIn]at h;simp only[AV.has]at hh;exact I8 h hh
 | .clo g cs,h,hh=>by simp only[AV.okIn]at h;simp only[AV.has]at hh;exact I8 h hh
 | .ref L' _ _,h,hh=>by simp[AV.has]at hh;subst hh;simpa[AV.okIn]using h
 | .ptr L' _ _,h,hh=>by simp[AV.has]at hh;subst hh;simpa[AV.okIn]using h
 | .aref L' _ _ _ _,h,hh=>by simp[AV.has]at hh;subst hh;simpa[AV.okIn]using h
 | .mp L',h,hh=>by simp[AV.has]at hh;subst hh;simpa[AV.okIn]using h
 | .yl L',h,hh=>by simp[AV.has]at hh;subst hh;simpa[AV.okIn]using h
 | .rc L' _ _ _,h,hh=>by simp[AV.has]at hh;subst hh;simpa[AV.okIn]using h
 | .lh _,_,hh=>by simp[AV.has]at hh
 | .sc _,_,hh=>by simp[AV.has]at hh
 | .list _ _ _,_,hh=>by simp[AV.has]at hh
 | .iptr _ _ _ _,_,hh=>by simp[AV.has]at hh
 | .own _ _,_,hh=>by simp[AV.has]at hh
 | .dead,_,hh=>by simp[AV.has]at hh
theorem I8 {o:aK} {L:Nat}: ∀{cs:List AV},AV.okInL o cs=true->AV.hasL L cs=true->(lk o L).isSome=true
 | [],_,hh=>by simp[AV.hasL]at hh
 |c::cs,h,hh=>by
  simp only[AV.okInL,Bool.and_eq_true]at h
  simp only[AV.hasL,Bool.or_eq_true]at hh
  rcases hh with hh|hh
  ·exact aLf h.1 hh
  ·exact I8 h.2 hh
end
theorem rN {α:Type}: ∀{l:List (Nat×α)} {i:Nat} {a:α},lk l i=some a->(i,a)∈l
 | [],i,a,h=>by simp[lk]at h
 |(k,b)::l,i,a,h=>by
  simp only[lk]at h
  by_cases hk:k=i
  ·subst hk;rw[if_pos rfl]at h;obtain rfl:=Option.some.inj h;simp
  ·rw[if_neg hk]at h;simp[rN h]
def qR (o:aK) (x:AObj):Bool:=x.arr||AV.okInL o x.xs
theorem Le.sub {s0 s:ASt} (hn:s0.n=s.n) (ht: ∀p∈s0.t,lk s.t p.1=some p.2) (ho: ∀p∈s0.o,lk s.o p.1=some p.2) (hr: ∀p∈s0.t,p.2.okIn s0.o=true) (hb: ∀p∈s0.o,qR s0.o p.2=true):Le s0 s:=by
 intro C F μ a w hs
 have hlo: ∀L x,lk s0.o L=some x->lk s.o L=some x:=fun L x hx=>ho _ (rN hx)
 have hloc: ∀L,(lk s0.o L).isSome=true->aJ s0.o μ L=aJ s.o μ L:=fun L hL=>by
  obtain⟨x,hx⟩:=Option.isSome_iff_exists.1 hL
  simp[aJ,hx,hlo L x hx]
 refine⟨F,μ,⟨hs.sw.facts,hs.sw.sub,hs.sw.lentc,hs.sw.grow,hs.sw.newf,hs.sw.fr,fun L x hx=>?_,fun L x L' x' b c c' hx hx'=>hs.sw.dist L x L' x' b c c' (hlo L x hx) (hlo L' x' hx'),
  fun L x b c hx=>hs.sw.excl L x b c (hlo L x hx),fun L x b c hx=>hs.sw.mine L x b c (hlo L x hx),fun L x x0 h0 hx=>hs.sw.keep L x x0 h0 (hlo L x hx)⟩,hs.defers,by rw[hn];exact hs.n,fun i x hx=>?_⟩
 ·have:=hs.sw.obj L x (hlo L x hx)
  cases hm:μ L with
  |none=>rw[hm]at this;exact this
  |some p=>
   obtain⟨b,cap⟩:=p
   rw[hm]at this
   cases harr:x.arr with
   |true=>
    rcases this with⟨c,e,q1,q2,q3,q4,q5,q6,q7⟩|this|⟨_,k2,_⟩
    rotate_left
    ·exact .inr (.inl this)
    ·rw[harr]at k2;cases k2
    refine .inl ⟨c,e,q1,q2,q3,q4,q5,fun i y j a hy hj=>?_,q7⟩
    obtain⟨v,g1,g2,g3,g4⟩:=q6 i y j a hy hj
    rw[harr]at g3
    exact⟨v,g1,g2,by rw[harr];exact g3,g4⟩
   |false=>
    refine this.congr rfl (FLe.refl _) fun L' hL'=>hloc L' ?_
    have:=hb _ (rN hx)
    simp[qR,harr]at this
    exact I8 this hL'
 ·have hx':=ht _ (rN hx)
  exact(hs.slot i x hx').congr (FLe.refl _) fun L hL=>hloc L (aLf (hr _ (rN hx)) hL)
theorem Le.nil {s:ASt} {i T es:Nat} {l:Bool} (h:lk s.t i=some (.list l true [])):Le {n:=s.n,t:=(i,.ref T 0 0)::iN T (iN T s.t),o:=(T,dQ es [])::killO T (killO T (cW s.o T))} s:=by
 intro C F μ a w hs
 have h1:=hs.renew0 (L:=T) (T:=T) (x:=dQ es []) (p:=none) rfl rfl rfl (Fr.refl _ _) (by rfl) (fun b c hbc=>by cases hbc)
 refine⟨F,cH μ T none,h1.sw,h1.defers,h1.n,fun j x hx=>?_⟩
 simp only[lk]at hx
 by_cases hij:i=j
 ·subst hij
  rw[if_pos rfl]at hx
  obtain rfl:=Option.some.inj hx
  have hv:=hs.slot i _ h
  generalize a.tmps.getD i undef=v at hv
  have hl:aJ ((T,dQ es [])::killO T (killO T (cW s.o T))) (cH μ T none) T=some ⟨none,es,0,false⟩:=by simp[aJ,lk,cH,dQ,cV]
  cases hv with
  |nil=>exact .refNil hl
  |list g1 g2 g3 g4=>
   have:=g4 rfl
   simp at this
   subst this
   exact .refNil hl
 ·rw[if_neg hij]at hx
  exact h1.slot j x hx
theorem Le.move {s:ASt} {i T T' lo n:Nat} {x:AObj} (h:lk s.t i=some (.ref T lo n)) (hk:x.kd≠1) (hx:lk s.o T=some x) (ha:x.arr=true) (hz:x.fz=false):
 Le {n:=s.n,t:=(i,.ref T' lo n)::iN T (iN T' s.t),o:=(T',{x with pin:=false})::killO T (killO T' (cW s.o T))} s:=by
 intro C F μ a w hs
 have ho:=hs.sw.obj T x hx
 have h1:=hs.renew0 (L:=T) (T:=T') (x:= {x with pin:=false}) (p:=μ T) hz rfl ha (Fr.refl _ _) (by
  cases hm:μ T with
  |none=>rw[hm]at ho;exact ho
  |some q=>
   obtain⟨b,cap⟩:=q
   rw[hm]at ho
   obtain⟨c,e,q1,q2,q3,q4,q5,q6,q7⟩:=ObjAt.std ho hk
   refine .inl ⟨c,e,q1,q2,q3,q4,q5,fun i y j a hy hj=>?_,q7⟩
   obtain⟨v,g1,g2,g3,g4⟩:=q6 i y j a hy hj
   rw[ha]at g3
   exact⟨v,g1,g2,by show RV (oF x.arr F) (oL x.arr cT) a v;rw[ha];exact g3,g4⟩) (fun b c hbc=> .inr ⟨x,c,hx,hz,hbc⟩)
 refine⟨F,cH μ T' (μ T),h1.sw,h1.defers,h1.n,fun j y hy=>?_⟩
 simp only[lk]at hy
 by_cases hij:i=j
 ·subst hij
  rw[if_pos rfl]at hy
  obtain rfl:=Option.some.inj hy
  have hv:=hs.slot i _ h
  generalize a.tmps.getD i undef=v at hv
  have hl0:aJ s.o μ T=some ⟨μ T,x.es,x.xs.length,false⟩:=by simp[aJ,hx,nQ hk]
  have hl:aJ ((T',{x with pin:=false})::killO T (killO T' (cW s.o T))) (cH μ T' (μ T)) T'=some ⟨μ T,x.es,x.xs.length,false⟩:=by simp[aJ,lk,cH,cV,hk]
  rcases aKg hv hl0 with⟨hm,rfl,rfl,q,rfl⟩|⟨b,cap,o,c,hm,rfl,g1,g2,g3,g4⟩
  ·simp only at hm
   exact .refNil (hl.trans (by rw[hm]))
  ·simp only at hm
   exact .ref (hl.trans (by rw[hm])) g1 g2 g3 g4
 ·rw[if_neg hij]at hy
  exact h1.slot j y hy
theorem ACall.bound {P f} [Glob P] {args:List AV} {R:AV->Prop} {i:Nat} {l fl:Bool} {xs:List AV} (h:args[i]?=some (.list l fl xs)) (hc: ∀cargs w,(callFunc f cargs).run P w= .ok (.enter f cargs) w) (k:xs.length<=dU->ACall P f args R):ACall P f args R:=by
 refine⟨hc,fun w F cargs h0 h1 h2 h3=>?_⟩
 have hi:i<cargs.size:=by rw[<-h2];exact(List.getElem?_eq_some_iff.1 h).1
 refine(k ?_).2 w F cargs h0 h1 h2 h3
 have hv:=h3 i _ cargs[i] h (by simp[hi])
 generalize cargs[i]=v at hv
 cases hv with
 |nil=>simp
 |list g1 g2 g3=>exact g3
theorem bMc {o:aK} {v:Value}:(AV.sc v).okIn o=true:=rfl
theorem bMd {o:aK} {l f:Bool} {xs:List AV}:(AV.list l f xs).okIn o=true:=rfl
theorem bMe {o:aK} {l:Bool} {xs:List AV} {i k:Nat}:(AV.iptr l xs i k).okIn o=true:=rfl
theorem bMf {o:aK}:AV.dead.okIn o=true:=rfl
theorem bMg {o:aK} {L a b:Nat}:(AV.ref L a b).okIn o=(lk o L).isSome:=rfl
theorem bMh {o:aK} {L a b:Nat}:(AV.ptr L a b).okIn o=(lk o L).isSome:=rfl
theorem bMi {o:aK} {L:Nat}:(AV.mp L).okIn o=(lk o L).isSome:=rfl
theorem bMj {o:aK} {cs:List AV}:(AV.agg cs).okIn o=AV.okInL o cs:=by simp[AV.okIn]
theorem bMl {o:aK} {g:FuncId} {cs:List AV}:(AV.clo g cs).okIn o=AV.okInL o cs:=by simp[AV.okIn]
theorem bMm {o:aK}:AV.okInL o []=true:=rfl
theorem bMn {o:aK} {a:AV} {r:List AV}:AV.okInL o (a::r)=(a.okIn o&&AV.okInL o r):=by simp[AV.okInL]
theorem bMo {o:aK} {fz pin:Bool} {es kd:Nat} {xs:List AV}:qR o ⟨true,fz,pin,es,xs,kd⟩=true:=rfl
theorem bMp {o:aK} {fz pin:Bool} {es kd:Nat} {xs:List AV}:qR o ⟨false,fz,pin,es,xs,kd⟩=AV.okInL o xs:=rfl
attribute [go_sem] bMc bMd bMe bMf bMg bMh bMj bMi bMl bMm bMn bMo bMp Option.isSome_some
theorem A1 {P:Program} [Glob P] {b:Code} {Q:Exit->ASt->Prop} {s:ASt} (I:Nat->ASt->Prop) (n:Nat) (s0:ASt) (hle:Le s0 s) (h0:I n s0) (hr: ∀n s,I n s->cY P b (rK (Again I n) Q) s):cY P (.loop b) Q s:=⟨I,⟨n,s0,hle,h0⟩,hr⟩
theorem Again.mk {I:Nat->ASt->Prop} {n:Nat} {s:ASt} (n':Nat) (s0:ASt) (hn:n'<n) (hle:Le s0 s) (h:I n' s0):Again I n s:=⟨n',s0,hn,hle,h⟩
end Go.Ab
namespace Go.Ab
open Go.RowKit
end Go.Ab
namespace Go.Ab
open Go.RowKit Go.ChangeShapes Go.WideShapes
section
variable {H : Type} {enc : TypeId × Value -> H} {P : Program} [Glob P] {T : TypeId -> Prop}
theorem bMs {W W':World} {base:Nat} {sp':Nat->Bool} (K:Kids P T) (hz: ∀t e,T t->P.underlying t=some (.slice e)->0<P.cellsOf e) {t:TypeId} (hT:T t) {v:Value} {d:DataW H} {ps:List MemPlace}
 (h:DataW.Trod enc P W base (fun _=>true) true t v d ps) (hsame: ∀p∈ps,W.sameAt W' p) (hs: ∀p∈ps,sp' p.block=true):DataW.Trod enc P W' base sp' true t v d ps:=by
 obtain⟨n,hn⟩:=h
 exact⟨n,DataW.trod_stays K (fun {t e}=>hz t e) (fun h=>by cases h) hT hn hsame hs⟩
theorem aLn {W W':World} {base:Nat} {sp':Nat->Bool} (K:Kids P T) (hz: ∀t e,T t->P.underlying t=some (.slice e)->0<P.cellsOf e):
 ∀{ts:List TypeId} {vs:List Value} {ds:List (DataW H)} {ps:List MemPlace},(∀t∈ts,T t)->DataW.TrodAll enc P W base (fun _=>true) true ts vs ds ps->(∀p∈ps,W.sameAt W' p)->(∀p∈ps,sp' p.block=true)->
  DataW.TrodAll enc P W' base sp' true ts vs ds ps
 | [],[],[],_,_,h,_,_=>h
 |_::_,_::_,_::_,_,hT,⟨p,q,h1,h2,e⟩,hm,hs=>⟨p,q,bMs K hz (hT _ (List.mem_cons.2 (Or.inl rfl))) h1 (fun x hx=>hm x (by rw[e];exact List.mem_append_left _ hx)) (fun x hx=>hs x (by rw[e];exact List.mem_append_left _ hx)),
  aLn K hz (fun t ht=>hT t (List.mem_cons.2 (Or.inr ht))) h2 (fun x hx=>hm x (by rw[e];exact List.mem_append_right _ hx)) (fun x hx=>hs x (by rw[e];exact List.mem_append_right _ hx)),e⟩
theorem bMt {W W':World} (hfr:Fr (fun _=>False) W W') (may:MemPlace->Prop):W.keptBut W' may:=by
 refine⟨hfr.os,hfr.output,fun i hi=>?_⟩
 rw[hfr.block i hi (fun h=>h)]
 split
 ·rename_i h1 h2
  rw[h1]at h2
  cases h2
  exact⟨rfl,rfl,rfl,fun _ _=>rfl⟩
 ·rename_i h1 h2
  rw[h1]at h2
  cases h2
  exact .inr ⟨rfl,rfl⟩
 ·rfl
theorem bMu {W W':World} (hfr:Fr (fun _=>False) W W') {p:MemPlace} (hp:p.block<W.heap.size):W.sameAt W' p:=by
 cases p with
 |cell b off=>exact sA (hfr.block b hp (fun h=>h))
 |map b=>exact hfr.block b hp (fun h=>h)
theorem dNf (K:Kids P T) (hz: ∀t e,T t->P.underlying t=some (.slice e)->0<P.cellsOf e) {f:Func} {s:ChangeSpec} {apart fresh handsOn again:Bool} {W W':World} {args:Array Value} {ds gs:List (DataW H)} {before:List MemPlace} {bt:TypeId}
 (hT: ∀t∈f.params.toList,T t) (hrt:f.resultTypes= #[bt]) (hbt:P.underlying bt=some .bool) (hvars:s.vars= []) (hW:DataW.Whole enc P f.params.toList s.vars apart W args.toList ds gs before)
 (hfn:s.fn H ds= {results:= [.lit (.bool true)],args:=ds}) (hfr:Fr (fun _=>False) W W'):s.post enc P f apart fresh handsOn again W args (.bool true) W':=by
 have hW':=hW
 obtain⟨p,q,hA,hV,rfl,hzf,hn⟩:=hW
 rw[hvars]at hV
 obtain⟨rfl,rfl⟩:=trodVars_none hV
 have hlt: ∀x∈p,x.block<W.heap.size:=DataW.TrodAll.lt hA
 have hargs: ∀sp:Nat->Bool,(∀x∈p,sp x.block=true)->DataW.TrodAll enc P W' 0 sp true f.params.toList args.toList ds p:=fun sp hs=>
  aLn K hz hT hA (fun x hx=>bMu hfr (hlt x hx)) hs
 have hres: ∀(b:Nat) (sp:Nat->Bool) (hd:Bool),DataW.TrodAll enc P W' b sp hd f.resultTypes.toList ((Value.bool true).resultList f.resultTypes.size) [.lit (.bool true)] []:=fun b sp hd=>by
  rw[hrt]
  exact trodAll_cons_mk (shut_bool hbt _) trodAll_mk0
 have hvs: ∀sp:Nat->Bool,DataW.TrodVars enc P W' sp s.vars ([]:List (DataW H)) []:=fun sp=>by rw[hvars];rfl
 simp only[List.append_nil]at hW' hzf hn
 refine⟨ds,[],p,[],p,[],hW',?_,?_,?_,bMt hfr _,fun _=>⟨?_,?_⟩⟩
 ·simp only[List.append_nil,hfn];exact hres _ _ _
 ·simp only[List.append_nil,hfn];exact hargs _ (fun x hx=>by simpa using hlt x hx)
 ·simp only[List.append_nil,hfn];exact hvs _
 ·exact ok_one hrt rfl (okWide_bool_mk hbt _)
 ·refine⟨_,[],[]++p,⟨[]++p,[],trodAll_append (hargs _ (fun _ _=>rfl)) (hres 0 _ _),hvs _,by simp,fun b off hp=>?_,fun ha=>?_⟩,fun x hx _=>by simpa using hx⟩
  ·have hb:b<W.heap.size:=hlt (.cell b off) (by simpa using hp)
   have:W'.frozen? ⟨b,off,none⟩=W.frozen? ⟨b,off,none⟩:=by simp only[World.frozen?,hfr.block b hb (fun h=>h)]
   rw[this]
   exact hzf b off (by simpa using hp)
  ·simpa using hn ha
end
end Go.Ab
namespace Go.Ab
open Go.RowKit
structure Hide (K T:ASt->Prop):Prop where
 to: ∀s,T s->K s
theorem Hide.go {P:Program} [Glob P] {Q:Exit->ASt->Prop} {K:ASt->Prop} {c:Code} {s:ASt} (h:Hide K (cY P c Q)) (k:cY P c Q s):K s:=h.to s k
theorem aD9 {P:Program} [Glob P] {a b:Code} {Q:Exit->ASt->Prop} {s:ASt} (h: ∀K,Hide K (cY P b Q)->cY P a (rK K Q) s):cY P (.seq a b) Q s:=h (aKd (cY P b Q)) ⟨fun s k=>⟨s,Le.refl s,k⟩⟩
theorem aLo {P:Program} [Glob P] {id:Nat} {ops:Array Oper} {b:Code} {Q:Exit->ASt->Prop} {s:ASt} (h:False):cY P (.seq (.region id ops true) b) Q s:=h.elim
def bt (s:ByteArray) (i:Nat):Int:=((s.data.toList.getD i 0).toNat:Int)
theorem aLp (s:ByteArray) (i:Nat):0<=bt s i/\bt s i<=255:=by
 have:=(s.data.toList.getD i 0).toNat_lt
 unfold bt;omega
theorem bMv {P:Program} [Glob P] {t:TypeId} {s:ByteArray} {k:IntKind} {i:Int}:zA P t (.sc (.string s)) (.sc (.int k i))=if nS P t=true then some ⟨decide (0<=i/\i<s.size),nt .u8 (bt s i.toNat)⟩else none:=bDz
attribute [go_sem] bMv
theorem bMz (a b:Int):(if b>a then b else a)=max a b:=by
 rw[Int.max_def];split<;>split<;>omega
theorem bM1 {P:Program} [Glob P] {d:Option Nat} {x y:Operand} {ts:Array TypeId} {ty:TypeId} {pos:String} {af g} {ρ:Operand->Option AV} {k k':IntKind} {a b:Int}
 (hx:ρ x=some (.sc (.int k a))) (hy:ρ y=some (.sc (.int k' b))):gT P ⟨d,.call ⟨.builtin .max,#[x,y],ts⟩,ty,pos,af,g⟩ ρ=some ⟨true,.sc (.int k (max a b))⟩:=by
 unfold gT
 rw[if_pos ⟨rfl,by simp[Op.operands,Call.operands,hx,hy,fS,oU]⟩]
 have e:tU P (execOp (fun z=>rD ((ρ z).bind fS)) ⟨d,.call ⟨.builtin .max,#[x,y],ts⟩,ty,pos,af,g⟩)=some (.value (.int k (if b>a then b else a))):=by
  simp only[execOp,resolve,Array.map,hx,hy]
  simp[hx,hy,fS,oU,rD]
  rfl
 rw[e,bMz]
 rfl
def J1 (f:Int->Int->Int) (z:Option Sv):Option AV->Option AV->Option Sv
 |some (.sc (.int k a)),some (.sc (.int _ b))=>some ⟨true,.sc (.int k (f a b))⟩
 |_,_=>z
theorem bM3 {f:Int->Int->Int} {z:Option Sv} {k k':IntKind} {a b:Int}:J1 f z (some (.sc (.int k a))) (some (.sc (.int k' b)))=some ⟨true,.sc (.int k (f a b))⟩:=rfl
theorem aLq {f:Int->Int->Int} {z:Option Sv} {x y:Option AV} (h: ∀k k' a b,x=some (.sc (.int k a))->y=some (.sc (.int k' b))->z=some ⟨true,.sc (.int k (f a b))⟩):z=J1 f z x y:=by
 unfold J1
 split
 ·exact h _ _ _ _ rfl rfl
 ·rfl
theorem bM4 {P:Program} [Glob P] {d:Nat} {x y:Operand} {ts:Array TypeId} {ty:TypeId} {pos:String} {af g} {s:ASt}:bR P ⟨some d,.call ⟨.builtin .max,#[x,y],ts⟩,ty,pos,af,g⟩ s=
 eZ (J1 max (gT P ⟨some d,.call ⟨.builtin .max,#[x,y],ts⟩,ty,pos,af,g⟩ (dI P s.t)) (dI P s.t x) (dI P s.t y)):=
 bBn.trans (congrArg eZ (aLq fun k k' a b hx hy=>bM1 hx hy))
attribute [go_sem] bM4 bM3
theorem gH (a b:ByteArray):(a==b)=decide (a=b):=by
 rw[Bool.eq_iff_iff,decide_eq_true_eq]
 constructor
 ·intro h
  obtain⟨a⟩:=a;obtain⟨b⟩:=b
  have h':(a==b)=true:=h
  rw[eq_of_beq h']
 ·rintro rfl
  obtain⟨a⟩:=a
  show(a==a)=true
  simp
def lQ (P:Program) [Glob P] (e:TypeId):Option Nat:=(eI P e).map fun v=>v.cells.size
def aEa (q:Option Nat) (kk es bytes:Nat) (ys xs:List AV) (d:Nat) (s:ASt):Option St:=match q with
 |some n=>some ⟨decide (d<s.n/\n=es/\(∀y∈ys,y.cells.length=es)/\(∀y∈xs,y.cells.length=es)/\bytes≠0/\(2*(xs.length+ys.length)+200)*bytes<=2^48/\(xs= []\/ys≠ [])),s.renew d d d (jQ es (xs++ys) kk) (.ref d 0 (xs++ys).length)⟩
 |none=>none
theorem bM6 {n kk es bytes d:Nat} {ys xs:List AV} {s:ASt}:aEa (some n) kk es bytes ys xs d s=some ⟨decide (d<s.n/\n=es/\(∀y∈ys,y.cells.length=es)/\(∀y∈xs,y.cells.length=es)/\bytes≠0/\(2*(xs.length+ys.length)+200)*bytes<=2^48/\(xs= []\/ys≠ [])),s.renew d d d (jQ es (xs++ys) kk) (.ref d 0 (xs++ys).length)⟩:=rfl
theorem bM7 {P:Program} [Glob P] {e:TypeId} {es bytes:Nat} {ys xs:List AV} {l:Bool} {d:Nat} {s:ASt}:
 zW (some (e,es,bytes)) true (some ys) (eI P) (eY P) (.list l true xs) d s=aEa (lQ P e) (eY P e) es bytes ys xs d s:=by
 simp only[zW,aEa,lQ]
 cases eI P e with
 |none=>rfl
 |some v=>simp
def aEb (q:Option Nat) (x:Option AObj) (L n es bytes kk d:Nat) (ys:List AV) (s:ASt):Option St:=match q with
 |some z=>match x with
  |some x=>if x.arr=true/\x.fz=false then some ⟨decide (d<s.n/\z=es/\(∀y∈ys,y.cells.length=es)/\x.es=es/\bytes≠0/\(2*(n+ys.length)+200)*bytes<=2^48/\n<=x.xs.length),
   s.renew L (if x.pin=true then d else L) d (jQ es (dC x.xs 0 n++ys) (if x.kd=kk then kk else 0)) (.ref (if x.pin=true then d else L) 0 (n+ys.length))⟩else none
  |none=>none
 |none=>none
theorem bM8 {z:Nat} {kd kk:Nat} {L n es es' bytes d:Nat} {xs ys:List AV} {pin:Bool} {s:ASt}:aEb (some z) (some ⟨true,false,pin,es',xs,kd⟩) L n es bytes kk d ys s=some ⟨decide (d<s.n/\z=es/\(∀y∈ys,y.cells.length=es)/\es'=es/\bytes≠0/\(2*(n+ys.length)+200)*bytes<=2^48/\n<=xs.length),
 s.renew L (if pin=true then d else L) d (jQ es (dC xs 0 n++ys) (if kd=kk then kk else 0)) (.ref (if pin=true then d else L) 0 (n+ys.length))⟩:=rfl
theorem bM9 {P:Program} [Glob P] {e:TypeId} {es bytes:Nat} {ys:List AV} {L n d:Nat} {s:ASt}:
 zW (some (e,es,bytes)) true (some ys) (eI P) (eY P) (.ref L 0 n) d s=aEb (lQ P e) (lk s.o L) L n es bytes (eY P e) d ys s:=by
 simp only[zW,aEb,lQ]
 cases eI P e with
 |none=>rfl
 |some v=>
  cases lk s.o L with
  |none=>rfl
  |some x=>simp
theorem bNa (c:UInt8):(jP c).cells= [jP c]:=rfl
attribute [go_sem] bM6 bM7 bM8 bM9 bNa List.forall_mem_map
section
variable {P : Program} [Glob P] {Q : Exit -> ASt -> Prop} {s : ASt} {k : ASt -> Prop}
theorem zqd {p:Prop} [Decidable p] {x y:Code} (h1:p->cY P x Q s) (h2: ¬p->cY P y Q s):pO P (some (.sc (.bool (decide p)))) x y Q s:=aY6 h1 h2
theorem zqn {p:Prop} [Decidable p] {x y:Code} (h1: ¬p->cY P x Q s) (h2:p->cY P y Q s):pO P (some (.sc (.bool (!decide p)))) x y Q s:=aY7 h1 h2
theorem zgd {p:Prop} [Decidable p] {want:Bool} {o:Oper} (h1:p->gK P (.test true want) o k s) (h2: ¬p->gK P (.test false want) o k s):gK P (.test (decide p) want) o k s:=aZj h1 h2
theorem zgn {p:Prop} [Decidable p] {want:Bool} {o:Oper} (h1: ¬p->gK P (.test true want) o k s) (h2:p->gK P (.test false want) o k s):gK P (.test (!decide p) want) o k s:=aZk h1 h2
theorem zdd {p:Prop} [Decidable p] {want:Bool} {o:Oper} (h1:p->fD P (.test true want) o k s) (h2: ¬p->fD P (.test false want) o k s):fD P (.test (decide p) want) o k s:=aZ0 h1 h2
theorem zqs {b:Bool} {x y:Code} (h1:b=true->cY P x Q s) (h2:b=false->cY P y Q s):pO P (some (.sc (.bool b))) x y Q s:=aY5 h1 h2
theorem zgs {b want:Bool} {o:Oper} (h1:b=true->gK P (.test true want) o k s) (h2:b=false->gK P (.test false want) o k s):gK P (.test b want) o k s:=aC0 h1 h2
end
theorem Le.sub4 {s0 s:ASt} (hn:s0.n=s.n) (h:(∀p∈s0.t,lk s.t p.1=some p.2)/\(∀p∈s0.o,lk s.o p.1=some p.2)/\(∀p∈s0.t,p.2.okIn s0.o=true)/\(∀p∈s0.o,qR s0.o p.2=true)):Le s0 s:=Le.sub hn h.1 h.2.1 h.2.2.1 h.2.2.2
end Go.Ab
namespace Go.Ab
open Go.RowKit Go.ChangeShapes Go.WideShapes
theorem dNg {P:Program} [Glob P] {f:FuncId} {as:List AV} (h:ACall P f as (fun r=>r=bl true)) {W:World} {F:Bool->bY} {cargs:Array Value} (hg:GlF P F) (hF:Fok F W) (hl:as.length=cargs.size)
 (ha: ∀(i:Nat) (a:AV) (v:Value),as[i]?=some a->cargs[i]?=some v->RV F cT a v):Calls P f cargs W fun e W'=>e= .returned (.bool true)/\Fr (fun _=>False) W W':=
 (h.2 W F cargs hg hF hl ha).mono fun e W' ⟨v,r,F',he,hr,hp,hv⟩=>by
  subst hr
  obtain⟨p,hv⟩:=(show ∃p,ResV1 F' W' W.heap.size p v (bl true)from hv)
  obtain⟨_,hv⟩:=(show AV.pure (bl true)=true/\RV F' cT (bl true) v from hv)
  cases hv
  exact⟨he,hp.fr⟩
def noF:Bool->bY:=fun _ _ _=>none
theorem bNb (w:World):Fok noF w:=⟨fun _ _ _ _ h=>(by cases h),fun _ _ _ h=>(by cases h)⟩
end Go.Ab
namespace Go.Ab
open Go.RowKit
def wF (w:World):Bool->bY:=fun _ b k=>w.cell? ⟨b,k,none⟩
theorem dNh (w:World):Fok (wF w) w:=⟨fun _ _ _ _ h=>h,fun _ _ _ h=>h⟩
def CellsR (w:World) (cs:List AV) (vs:List Value):Prop:=cs.length=vs.length/\ ∀(j:Nat) (a:AV) (v:Value),cs[j]?=some a->vs[j]?=some v->RV (wF w) cT a v/\one v=true
theorem CellsR.nil {w:World}:CellsR w [] []:=⟨rfl,fun j a v h=>by simp at h⟩
theorem CellsR.one1 {w:World} {a:AV} {v:Value} (h:RV (wF w) cT a v) (ho:one v=true):CellsR w [a] [v]:=⟨rfl,fun j b u hb hu=>by
 cases j with
 |zero=>simp at hb hu;subst hb;subst hu;exact⟨h,ho⟩
 |succ j=>simp at hb⟩
theorem CellsR.append {w:World} {cs cs':List AV} {vs vs':List Value} (h:CellsR w cs vs) (h':CellsR w cs' vs'):CellsR w (cs++cs') (vs++vs'):=by
 refine⟨by simp[h.1,h'.1],fun j a v ha hv=>?_⟩
 by_cases hj:j<cs.length
 ·rw[List.getElem?_append_left hj]at ha
  rw[List.getElem?_append_left (by rw[<-h.1];exact hj)]at hv
  exact h.2 j a v ha hv
 ·rw[List.getElem?_append_right (by omega)]at ha
  rw[List.getElem?_append_right (by rw[<-h.1];omega),<-h.1]at hv
  exact h'.2 _ a v ha hv
section
variable {H : Type} {enc : TypeId × Value -> H} {P : Program} [Glob P] {w : World}
def Came (enc:TypeId×Value->H) (P:Program) [Glob P] (w:World) {α:Type} (n:Nat) (t:TypeId) (en:α->AV) (ok:α->Prop):Prop:=
 ∀cs d ps,DataW.trod enc P w 0 (fun _=>true) true n t cs=some (d,ps)->(∀m∈d.weights P t,m<=reachBytes)-> ∃x,ok x/\CellsR w (en x).cells cs
theorem Came.zero {α:Type} {t:TypeId} {en:α->AV} {ok:α->Prop}:Came enc P w 0 t en ok:=fun cs d ps h=>by simp[DataW.trod]at h
theorem Came.bool {n:Nat} {t:TypeId} (hu:P.underlying t=some .bool):Came enc P w n t (fun b:Bool=> .sc (.bool b)) (fun _=>True):=by
 intro cs d ps h hw
 cases n with
 |zero=>simp[DataW.trod]at h
 |succ n=>
  rw[DataW.trod_step]at h
  unfold DataW.trodStep at h
  rw[hu]at h
  split at h<;>first|(rename_i b _ _;exact⟨_,trivial,CellsR.one1 (.sc rfl) rfl⟩)|simp_all
theorem Came.string {n:Nat} {t:TypeId} (hu:P.underlying t=some .string):Came enc P w n t (fun s:ByteArray=> .sc (.string s)) (fun s=>s.size<=reachBytes):=by
 intro cs d ps h hw
 cases n with
 |zero=>simp[DataW.trod]at h
 |succ n=>
  rw[DataW.trod_step]at h
  unfold DataW.trodStep at h
  rw[hu]at h
  split at h
  case h_4 s hk=>
   split at h
   ·obtain⟨rfl,rfl⟩:=Prod.mk.inj (Option.some.inj h)
    exact⟨s,by have:=hw s.data.toList.length (by simp only[DataW.weights,List.mem_singleton]);rw[Array.length_toList]at this;exact this,CellsR.one1 (.sc rfl) rfl⟩
   ·cases h
  all_goals simp_all
theorem aEc {e:TypeId}: ∀{ds:List (DataW H)} {d:DataW H},d∈ds-> ∀m∈d.weights P e,m∈DataW.weightsAll P e ds
 | [],_,h,_,_=>by simp at h
 |d0::ds,d,h,m,hm=>by
  simp only[DataW.weightsAll,List.mem_append]
  rcases List.mem_cons.1 h with rfl|h
  ·exact .inl hm
  ·exact .inr (aEc h m hm)
theorem Came.slice {n:Nat} {t e:TypeId} {α:Type} {en:α->AV} {ok:α->Prop} (hu:P.underlying t=some (.slice e)) (hes:0<P.cellsOf e) (hb:0<P.bytesOf e) (h1:Came enc P w n e en ok):
 Came enc P w (n+1) t (fun l:List α=> .list false false (l.map en)) (fun l=>(∀x∈l,ok x)/\l.length*P.bytesOf e<=reachBytes):=by
 intro cs d ps h hw
 rw[DataW.trod_step]at h
 unfold DataW.trodStep at h
 rw[hu]at h
 split at h
 case h_7=>
  exact⟨[],⟨by simp,by simp⟩,CellsR.one1 .nil rfl⟩
 case h_8 e' a len cap hk=>
  obtain rfl:e=e':=by simpa using hk
  simp only at h
  split at h
  ·rename_i hc
   obtain⟨hc1,hc2,hc3⟩:=hc
   simp only[if_true,Option.map_eq_some_iff,Option.bind_eq_some_iff]at h
   obtain⟨elems,he,rest,hrest,hd⟩:=h
   obtain⟨rfl,rfl⟩:=Prod.mk.inj hd
   have hlen:elems.length=len:=by simpa using mapM_some_length he
   have hrl:rest.length=cap - len:=by simpa using mapM_some_length hrest
   have hel: ∀i,i<len-> ∃x:α,ok x/\ ∃vs:List Value,CellsR w (en x).cells vs/\vs.length=P.cellsOf e/\ ∀j,j<P.cellsOf e->w.cell? ((a.add (i*P.cellsOf e)).add j)=vs[j]?:=by
    intro i hi
    have hy:=mapM_some_get he i i (by simp[hi])
    have hlt:i<elems.length:=by omega
    rw[List.getElem?_eq_getElem hlt]at hy
    simp only[Option.bind_eq_some_iff]at hy
    obtain⟨vs,hv1,hv2⟩:=hy
    obtain⟨_,c2,c3⟩:=World.cells?_some hv1
    obtain⟨x,hx1,hx2⟩:=h1 vs elems[i].1 elems[i].2 hv2 (fun m hm=>hw m (by
     simp only[DataW.weights,hu,List.mem_cons,List.mem_append]
     exact .inr (.inl (aEc (List.mem_map.2 ⟨_,List.getElem_mem hlt,rfl⟩) m hm))))
    exact⟨x,hx1,vs,hx2,c2,c3⟩
   have hwt:(len+(cap - len))*P.bytesOf e<=reachBytes:=by
    have:=hw ((elems.length+rest.length)*P.bytesOf e) (by simp[DataW.weights,hu])
    rw[hlen,hrl]at this;exact this
   have hwl:len*P.bytesOf e<=reachBytes:=Nat.le_trans (Nat.mul_le_mul_right _ (by omega)) hwt
   have hch: ∃l:List α,l.length=len/\ ∀(i:Nat) (x:α),l[i]?=some x->ok x/\ ∃vs:List Value,CellsR w (en x).cells vs/\vs.length=P.cellsOf e/\ ∀j,j<P.cellsOf e->w.cell? ((a.add (i*P.cellsOf e)).add j)=vs[j]?:=by
    clear he hrest hw hd hwt hwl hc2 hlen hrl
    induction len with
    |zero=>exact⟨[],rfl,fun i x hx=>by simp at hx⟩
    |succ m ih=>
     obtain⟨l,g1,g2⟩:=ih (fun i hi=>hel i (by omega))
     obtain⟨x,hx⟩:=hel m (by omega)
     refine⟨l++ [x],by simp[g1],fun i y hy=>?_⟩
     by_cases hi:i<l.length
     ·rw[List.getElem?_append_left hi]at hy;exact g2 i y hy
     ·rw[List.getElem?_append_right (by omega)]at hy
      cases hq:i - l.length with
      |zero=>
       rw[hq]at hy;simp at hy;subst hy
       obtain rfl:i=m:=by omega
       exact hx
      |succ q=>rw[hq]at hy;simp at hy
   obtain⟨l,g1,g2⟩:=hch
   refine⟨l,⟨fun x hx=>?_,by rw[g1];exact hwl⟩,CellsR.one1 ?_ rfl⟩
   ·obtain⟨i,hi⟩:=List.getElem?_of_mem hx
    exact(g2 i x hi).1
   ·by_cases hcap:cap=0
    ·subst hcap
     have hl0:len=0:=by omega
     subst hl0
     obtain rfl:l= []:=List.eq_nil_of_length_eq_zero g1
     exact .nil
    ·have hsp:a.spot=none:=by
      by_cases hl0:len=0
      ·have hr0:0<rest.length:=by omega
       have hy:=mapM_some_get hrest 0 0 (by rw[List.getElem?_range (by omega)])
       rw[List.getElem?_eq_getElem hr0]at hy
       simp only[Option.bind_eq_some_iff]at hy
       obtain⟨vs,hv1,hv2⟩:=hy
       obtain⟨_,c2,c3⟩:=World.cells?_some hv1
       have c0:=c3 0 hes
       rw[List.getElem?_eq_getElem (by omega)]at c0
       simpa[Addr.add,hl0]using World.cell?_spot c0
      ·have h0:0<l.length:=by omega
       obtain⟨_,vs,c1,c2,c3⟩:=g2 0 l[0] (by simp[h0])
       have c0:=c3 0 hes
       rw[List.getElem?_eq_getElem (by omega)]at c0
       simpa[Addr.add]using World.cell?_spot c0
     obtain⟨b,off,spot⟩:=a
     simp only at hsp
     subst hsp
     have hadd: ∀k,(Addr.mk b off none).add k=⟨b,off+k,none⟩:=fun k=>by
      unfold Addr.add;split
      ·rename_i hk;subst hk;rfl
      ·rfl
     have hadd2: ∀k j,((Addr.mk b off none).add k).add j=⟨b,off+k+j,none⟩:=fun k j=>by
      rw[hadd];unfold Addr.add;split
      ·rename_i hk;subst hk;rfl
      ·rfl
     simp only[hadd2]at g2
     have key:= @RV.list (wF w) cT false false (l.map en) b off off cap (P.cellsOf e) (fun i j=>(w.cell? ⟨b,off+i*P.cellsOf e+j,none⟩).getD .nilIface)
      (fun y hy=>by
       obtain⟨x,hx,rfl⟩:=List.mem_map.1 hy
       obtain⟨i,hi⟩:=List.getElem?_of_mem hx
       obtain⟨_,vs,c1,c2,c3⟩:=g2 i x hi
       rw[c1.1,c2])
      (by rw[List.length_map,g1];exact hc2)
      (by
       rw[List.length_map,g1]
       have:len<=len*P.bytesOf e:=Nat.le_mul_of_pos_right _ hb
       have h47:=reachBytes_lt
       unfold dU;omega)
      (fun hf=>by cases hf) (fun _=>rfl)
      (fun i y j c hy hj=>by
       simp only[List.getElem?_map,Option.map_eq_some_iff]at hy
       obtain⟨x,hx,rfl⟩:=hy
       obtain⟨_,vs,c1,c2,c3⟩:=g2 i x hx
       have hjl:j<P.cellsOf e:=by rw[<-c2,<-c1.1];exact(List.getElem?_eq_some_iff.1 hj).1
       show w.cell? _=_
       rw[c3 j hjl,List.getElem?_eq_getElem (by omega)];rfl)
      (fun i y j c hy hj=>by
       simp only[List.getElem?_map,Option.map_eq_some_iff]at hy
       obtain⟨x,hx,rfl⟩:=hy
       obtain⟨_,vs,c1,c2,c3⟩:=g2 i x hx
       have hjl:j<P.cellsOf e:=by rw[<-c2,<-c1.1];exact(List.getElem?_eq_some_iff.1 hj).1
       have hv:vs[j]?=some vs[j]:=List.getElem?_eq_getElem (by omega)
       rw[c3 j hjl,hv]
       exact(c1.2 j c vs[j] hj hv).1)
      (fun i y j c hy hj=>by
       simp only[List.getElem?_map,Option.map_eq_some_iff]at hy
       obtain⟨x,hx,rfl⟩:=hy
       obtain⟨_,vs,c1,c2,c3⟩:=g2 i x hx
       have hjl:j<P.cellsOf e:=by rw[<-c2,<-c1.1];exact(List.getElem?_eq_some_iff.1 hj).1
       have hv:vs[j]?=some vs[j]:=List.getElem?_eq_getElem (by omega)
       rw[c3 j hjl,hv]
       exact(c1.2 j c vs[j] hj hv).2)
     rw[List.length_map,g1]at key
     exact key
  ·cases h
 all_goals simp_all
def CameF (enc:TypeId×Value->H) (P:Program) [Glob P] (w:World) {α:Type} (n N:Nat) (fs:List Field) (off:Nat) (en:α->List AV) (ok:α->Prop):Prop:=
 ∀(cs:List Value) (xs:List (DataW H×List MemPlace)),cs.length=N->fs.mapM (fun f=>DataW.trod enc P w 0 (fun _=>true) true n f.type ((cs.drop f.offset).take (P.cellsOf f.type)))=some xs->(∀m∈DataW.weightsEach P (fs.map (·.type)) (xs.map (·.1)),m<=reachBytes)->
  ∃x,ok x/\CellsR w (en x) (cs.drop off)
theorem CameF.nil {n N:Nat}:CameF enc P w n N [] N (fun _:Unit=> []) (fun _=>True):=by
 intro cs xs hN h hw
 refine⟨(),trivial,?_⟩
 rw[List.drop_of_length_le (by omega)]
 exact CellsR.nil
theorem CameF.cons {n N off:Nat} (k:Nat) {f:Field} {fs:List Field} {α β:Type} {en:α->AV} {ok:α->Prop} {enr:β->List AV} {okr:β->Prop} (ho:f.offset=off) (hk:P.cellsOf f.type=k)
 (h1:Came enc P w n f.type en ok) (h2:CameF enc P w n N fs (off+k) enr okr):CameF enc P w n N (f::fs) off (fun x:α×β=>(en x.1).cells++enr x.2) (fun x=>ok x.1/\okr x.2):=by
 intro cs xs hN h hw
 subst ho;subst hk
 simp only[List.mapM_cons]at h
 cases hy:DataW.trod enc P w 0 (fun _=>true) true n f.type ((cs.drop f.offset).take (P.cellsOf f.type))with
 |none=>simp[hy]at h
 |some y=>
  cases hz:fs.mapM (fun f=>DataW.trod enc P w 0 (fun _=>true) true n f.type ((cs.drop f.offset).take (P.cellsOf f.type)))with
  |none=>simp[hy,hz]at h
  |some ys=>
   simp[hy,hz]at h
   subst h
   simp only[List.map_cons,DataW.weightsEach,List.mem_append]at hw
   obtain⟨x,a1,a2⟩:=h1 _ y.1 y.2 hy (fun m hm=>hw m (.inl hm))
   obtain⟨z,b1,b2⟩:=h2 cs ys hN hz (fun m hm=>hw m (.inr hm))
   refine⟨(x,z),⟨a1,b1⟩,?_⟩
   have e:cs.drop f.offset=(cs.drop f.offset).take (P.cellsOf f.type)++cs.drop (f.offset+P.cellsOf f.type):=by
    rw[<-List.drop_drop,List.take_append_drop]
   rw[e]
   exact a2.append b2
theorem Came.struct {n N:Nat} {t:TypeId} {fs:Array Field} {l:List Field} {α:Type} {en:α->List AV} {ok:α->Prop} (hu:P.underlying t=some (.struct fs)) (hl:fs.toList=l) (hN:P.cellsOf t=N)
 (h1:CameF enc P w n N l 0 en ok):Came enc P w (n+1) t (fun x:α=> .agg (en x)) ok:=by
 intro cs d ps h hw
 rw[DataW.trod_step]at h
 unfold DataW.trodStep at h
 rw[hu]at h
 split at h
 case h_9 cs0 fs' hk=>
  obtain rfl:fs=fs':=by simpa using hk
  split at h
  ·rename_i hc
   simp only[Option.map_eq_some_iff]at h
   obtain⟨xs,hx,hd⟩:=h
   obtain⟨rfl,rfl⟩:=Prod.mk.inj hd
   rw[hl]at hx
   obtain⟨x,a1,a2⟩:=h1 _ xs (by omega) hx (fun m hm=>hw m (by simpa[DataW.weights,hu,hl]using hm))
   exact⟨x,a1,by rw[List.drop_zero]at a2;exact a2⟩
  ·cases h
 all_goals simp_all
theorem Came.map {n:Nat} {t:TypeId} {α β:Type} {en:α->AV} {ok:α->Prop} {en':β->AV} {ok':β->Prop} (h:Came enc P w n t en ok) (g:α->β) (hg: ∀x,ok x->ok' (g x)/\en' (g x)=en x):Came enc P w n t en' ok':=by
 intro cs d ps h1 h2
 obtain⟨x,a1,a2⟩:=h cs d ps h1 h2
 obtain⟨b1,b2⟩:=hg x a1
 exact⟨g x,b1,by rw[b2];exact a2⟩
theorem Came.arg {t:TypeId} {α:Type} {en:α->AV} {ok:α->Prop} {base:Nat} {v:Value} {d:DataW H} {ps:List MemPlace} (h: ∀n,Came enc P w n t en ok) (ht:DataW.Trod enc P w 0 (fun _=>true) true t v d ps)
 (hv:Value.okWide P w .any base t v) (hw: ∀m∈d.weights P t,m<=reachBytes) (hag: ∀x cs,en x= .agg cs->oT P t=true) (hna:oT P t=true-> ∀x,∃cs,en x= .agg cs): ∃x,ok x/\RV (wF w) cT (en x) v:=by
 obtain⟨n,ht⟩:=ht
 obtain⟨x,a1,a2,a3⟩:=h n _ d ps ht hw
 refine⟨x,a1,?_⟩
 unfold Value.okWide at hv
 by_cases hA:oT P t=true
 ·obtain⟨cs,hcs⟩:=hna hA x
  rw[hcs]at a2 a3 ⊢
  have: ∃vs:Array Value,v= .agg vs:=by
   unfold oT at hA
   split at hA<;>split at hv<;>simp_all<;>(obtain⟨vs,rfl,_⟩:=hv;exact⟨vs,rfl⟩)
  obtain⟨vs,rfl⟩:=this
  refine .agg (by simpa[AV.cells,Value.cells]using a2) (fun i a v ha hv=>(a3 i a v (by simpa[AV.cells]using ha) (by simpa[Value.cells]using hv)).1) (fun i v hv=>?_)
  have hl:cs.length=vs.size:=by simpa[AV.cells,Value.cells]using a2
  have hi:i<cs.length:=by rw[hl];exact(Array.getElem?_eq_some_iff.1 hv).1
  exact(a3 i cs[i] v (by simp[AV.cells,hi]) (by simpa[Value.cells]using hv)).2
 ·have hc:(en x).cells= [en x]:=by
   cases he:en x with
   |agg cs=>exact absurd (hag x cs he) hA
   |_=>rfl
  rw[hc]at a2 a3
  have hvc:v.cells.toList= [v]:=by
   unfold Value.cells at a2 ⊢
   split
   ·exfalso
    unfold oT at hA
    split at hv
    ·simp_all
    ·simp_all
    ·unfold Cell.okWide Cell.ok at hv
     split at hv<;>simp_all
   ·rfl
  rw[hvc]at a3
  exact(a3 0 (en x) v rfl rfl).1
end
end Go.Ab
namespace Go.Ab
open Go.RowKit
def nZ (live:List Nat):List (Nat×AV)->List (Nat×AV)
 | []=> []
 |p::r=>if live.contains p.1=true then p::nZ live r else nZ live r
def oA (out:List Nat):aK->aK
 | []=> []
 |p::r=>if out.contains p.1=true then oA out r else p::oA out r
theorem bNc {live:List Nat}:nZ live []= []:=rfl
theorem bNd {live:List Nat} {p:Nat×AV} {r:List (Nat×AV)}:nZ live (p::r)=if live.contains p.1=true then p::nZ live r else nZ live r:=rfl
theorem bNe {out:List Nat}:oA out []= []:=rfl
theorem bNf {out:List Nat} {p:Nat×AObj} {r:aK}:oA out (p::r)=if out.contains p.1=true then oA out r else p::oA out r:=rfl
attribute [go_sem] bNc bNd bNe bNf
structure HideA {α:Type} (A:ASt->Prop) (S:α->ASt) (meas:α->Nat) (inv:α->Prop) (x:α):Prop where
 go: ∀s y,Le (S y) s->meas y<meas x->inv y->A s
inductive OweX (p:Prop):Type
 |mk
structure Owe (p:Prop) (x:OweX p):Prop where
 it:p
theorem HideA.next {α:Type} {A:ASt->Prop} {S:α->ASt} {meas:α->Nat} {inv:α->Prop} {x:α} {s:ASt} (h:HideA A S meas inv x) (y:α) (hl:Le (S y) s) (hm:meas y<meas x) (hi:Owe (inv y) .mk):A s:=h.go s y hl hm hi.it
theorem bZ {α:Type} {P:Program} [Glob P] {b:Code} {Q:Exit->ASt->Prop} {n:Nat} {t:List (Nat×AV)} {o:aK} (live out:List Nat) (f:α->List (Nat×AV)) (g:α->aK) (meas:α->Nat) (inv:α->Prop) (x0:α)
 (h0:Le ⟨n,f x0++nZ live t,g x0++oA out o⟩ ⟨n,t,o⟩) (hi:Owe (inv x0) .mk)
 (hr: ∀x,inv x-> ∀A,HideA A (fun x=>⟨n,f x++nZ live t,g x++oA out o⟩) meas inv x->cY P b (rK A Q) ⟨n,f x++nZ live t,g x++oA out o⟩):cY P (.loop b) Q ⟨n,t,o⟩:=by
 refine⟨fun m s=> ∃x,m=meas x/\inv x/\s=⟨n,f x++nZ live t,g x++oA out o⟩,⟨meas x0,_,h0,x0,rfl,hi.it,rfl⟩,?_⟩
 rintro m s ⟨x,rfl,hx,rfl⟩
 exact hr x hx _ ⟨fun s y hl hm hi=>⟨meas y,_,hm,hl,y,rfl,hi,rfl⟩⟩
end Go.Ab
namespace Go.Ab
open Go.RowKit
def rO (σ:Nat->Nat) (s:ASt):ASt:= {n:=s.n,t:=s.t.map fun p=>(p.1,p.2.ren σ),o:=kD σ (fun _ b=>b) s.o}
theorem Le.ren {s:ASt} (σ τ:Nat->Nat) (h1: ∀p∈s.o,τ (σ p.1)=p.1) (h2: ∀p∈s.o,p.2.pin=true->σ p.1=p.1):Le (rO σ s) s:=by
 intro C F μ a w hs
 have h:=hs.sw
 have hlk: ∀{M y},lk (kD σ (fun _ b=>b) s.o) M=some y-> ∃x,M=σ (τ M)/\lk s.o (τ M)=some x/\y= {dX σ x with pin:=x.pin}:=fun {M y} hy=>by
  obtain⟨x,g1,g2,g3⟩:=xK (σ:=σ) (τ:=τ) h1 hy
  exact⟨x,g1,g2,g3⟩
 have htau: ∀{L x},lk s.o L=some x->τ (σ L)=L:=fun {L x} hx=>h1 _ (rN hx)
 have hloc: ∀L,aJ s.o μ L≠none->aJ (rO σ s).o (fun M=>μ (τ M)) (σ L)=aJ s.o μ L:=fun L hL=>
  aB1 (σ:=σ) (τ:=τ) (q:=fun _ b=>b) (μ':=fun M=>μ (τ M)) h1 (fun L x hx=>by show μ (τ (σ L))=μ L;rw[htau hx]) hL
 refine⟨F,fun M=>μ (τ M),⟨h.facts,h.sub,h.lentc,h.grow,h.newf,h.fr,fun M y hy=>?_,fun M y M' y' b c c' hy hy' hm hm'=>?_,fun M y b c hy hm hz=>?_,fun M y b c hy hm=>?_,fun M y y0 h0 hy hp=>?_⟩,hs.defers,hs.n,fun i x hx=>?_⟩
 ·obtain⟨x,g1,g2,rfl⟩:=hlk hy
  exact P8 (h.obj _ x g2) fun L hL=>hloc L hL
 ·obtain⟨x,g1,g2,rfl⟩:=hlk hy
  obtain⟨x',g1',g2',rfl⟩:=hlk hy'
  rw[g1,g1',h.dist _ x _ x' b c c' g2 g2' hm hm']
 ·obtain⟨x,g1,g2,rfl⟩:=hlk hy
  exact h.excl _ x b c g2 hm (by simpa[P6]using hz)
 ·obtain⟨x,g1,g2,rfl⟩:=hlk hy
  exact h.mine _ x b c g2 hm
 ·obtain⟨x,g1,g2,rfl⟩:=hlk hy
  have hp:x.pin=true:=hp
  have e:σ (τ M)=τ M:=h2 _ (rN g2) hp
  have hM:M=τ M:=g1.trans e
  rw[hM]at h0
  have:=h.keep _ x y0 h0 g2 hp
  rw[<-hM]at this
  show μ (τ M)=_/\_
  rw[<-hM]
  exact⟨this.1,by rw[zF];exact this.2.1,by show(dX _ x).arr=_;rw[P5];exact this.2.2⟩
 ·simp only[rO]at hx
  rw[xJ (fun y:AV=>y.ren σ)]at hx
  cases hy:lk s.t i with
  |none=>simp[hy]at hx
  |some y=>
   simp[hy]at hx
   subst hx
   have hv:=hs.slot i y hy
   exact hv.ren fun L hL=>hloc L (hv.has_loc L hL)
def U5 (P:Program) [Glob P] (rs:List ResultVar) (R:AV->aK->Prop):Exit->ASt->Prop
 | .normal,s=> ∃s0 xs,Le s0 s/\iP P s0 rs=some xs/\R (jG xs) s0.o
 | .ret,s=> ∃s0 xs,Le s0 s/\iP P s0 rs=some xs/\R (jG xs) s0.o
 |_,_=>False
theorem dM {P:Program} [Glob P] {f:FuncId} {fn:Func} {c:Code} {args:List AV} {o:aK} {R:AV->aK->Prop} (hf:P.funcs[f]?=some fn) (hc: ∀cargs w,(callFunc f cargs).run P w= .ok (.enter f cargs) w) (hb:fn.body=some c)
 (hn:args.length<=fn.ntmps) (h:cY P c (U5 P fn.results.toList R) (qQ fn.ntmps args o)):MCall P f args o R:=by
 refine aKn hf hc hb hn fun C _ F μ a w hm hs=>?_
 refine wpIn_mono (rL c _ _ (.inl rfl) h C F μ a w hm hs) ?_
 rintro e a' w' ⟨F',μ',s',hq,hm',hs'⟩
 cases e with
 |normal=>
  obtain⟨s0,xs,hl,h1,h2⟩:=hq
  obtain⟨F2,μ2,hs2⟩:=hl _ F' μ' a' w' hs'
  exact⟨F2,μ2,s0,⟨xs,h1,h2⟩,hm',hs2⟩
 |ret=>
  obtain⟨s0,xs,hl,h1,h2⟩:=hq
  obtain⟨F2,μ2,hs2⟩:=hl _ F' μ' a' w' hs'
  exact⟨F2,μ2,s0,⟨xs,h1,h2⟩,hm',hs2⟩
 |_=>exact hq.elim
end Go.Ab
namespace Go.Ab
open Go.RowKit
def dJ (ps:List (Nat×Nat)) (L:Nat):Nat:=match lk ps L with
 |some M=>M
 |none=>L
theorem bNg {L:Nat}:dJ [] L=L:=rfl
theorem bNh {k v L:Nat} {r:List (Nat×Nat)}:dJ ((k,v)::r) L=if k=L then v else dJ r L:=by
 unfold dJ;simp only[lk];by_cases h:k=L
 ·rw[if_pos h,if_pos h]
 ·rw[if_neg h,if_neg h]
theorem bO {P:Program} [Glob P] {s:ASt} {k:ASt->Prop} {g:FuncId} {as:List AV} {d:Nat} (ps qs:List (Nat×Nat)) (B:Nat) (oc:aK) (ac:List AV) {r0:AV} {o0:aK} (hf:Fits (dJ ps) (dJ qs) B oc s.o) (hac:AV.labsL (eR oc) ac=true) (has:as=ac.map (AV.ren (dJ ps)))
 (hc:MCall P g ac oc (fun r o'=>r=r0/\o'=o0)) (hd:d<s.n) (hrest:qN (dJ ps) (dJ qs) oc o0 s.o=true) (hk:k (nX (dJ ps) (dJ qs) B oc s d r0 o0)):dB P (.c g as) (some d) k s:=
 aKo (dJ ps) (dJ qs) B oc ac hf hac has hc hd fun r o' h=>by obtain⟨rfl,rfl⟩:=h;exact⟨hrest,hk⟩
theorem aEd {P:Program} [Glob P] {s:ASt} {k:ASt->Prop} {g:FuncId} {as:List AV} {d:Nat} (ks:List Nat) (ps qs:List (Nat×Nat)) (B:Nat) (oc:aK) (ac:List AV) {r0:AV} {o0:aK} (hf:Fits (dJ ps) (dJ qs) B oc (killOs ks s.o)) (hac:AV.labsL (eR oc) ac=true) (has:as=ac.map (AV.ren (dJ ps)))
 (hc:MCall P g ac oc (fun r o'=>r=r0/\o'=o0)) (hd:d<s.n) (hrest:qN (dJ ps) (dJ qs) oc o0 (killOs ks s.o)=true) (hk:k (nX (dJ ps) (dJ qs) B oc {s with o:=killOs ks s.o} d r0 o0)):dB P (.c g as) (some d) k s:=
 ⟨hd,.inr (.inr (.inr ⟨ks,dJ ps,dJ qs,B,oc,ac,_,hf,hac,has,hc,fun r o' h=>by obtain⟨rfl,rfl⟩:=h;exact⟨hrest,hk⟩⟩))⟩
theorem bNi {o:aK}:killOs [] o=o:=rfl
theorem bNj {T:Nat} {r:List Nat} {o:aK}:killOs (T::r) o=killOs r (killO T o):=rfl
attribute [go_sem] bNi bNj
def xW (q:Nat->Bool):List (Nat×AV)->List (Nat×AV)
 | []=> []
 |p::r=>(p.1,if p.2.labs q=true then p.2 else .dead)::xW q r
theorem aLs (q:Nat->Bool): ∀t:List (Nat×AV),t.map (fun p=>(p.1,if p.2.labs q=true then p.2 else .dead))=xW q t
 | []=>rfl
 |p::r=>by simp only[List.map_cons,xW,aLs q r]
theorem bNk {q:Nat->Bool}:xW q []= []:=rfl
theorem bNl {q:Nat->Bool} {p:Nat×AV} {r:List (Nat×AV)}:xW q (p::r)=(p.1,if p.2.labs q=true then p.2 else .dead)::xW q r:=rfl
def xX (σ:Nat->Nat) (q:Nat->Bool):aK->aK
 | []=> []
 |p::r=>(σ p.1,{dX σ p.2 with pin:=q p.1})::xX σ q r
theorem bNm {σ:Nat->Nat} {q:Nat->Bool}:xX σ q []= []:=rfl
theorem bNn {σ:Nat->Nat} {q:Nat->Bool} {p:Nat×AObj} {r:aK}:xX σ q (p::r)=(σ p.1,{dX σ p.2 with pin:=q p.1})::xX σ q r:=rfl
theorem aLt (σ:Nat->Nat) (q:Nat->Bool): ∀o:aK,kD σ (fun L _=>q L) o=xX σ q o
 | []=>rfl
 |p::r=>by simp only[kD,List.map_cons,xX]at*;rw[<-aLt σ q r];rfl
theorem bNo {σ τ:Nat->Nat} {B:Nat} {oc:aK} {s:ASt} {d:Nat} {r:AV} {o':aK}:nX σ τ B oc s d r o'=
 ⟨s.n,(d,r.ren (fN σ B oc o'))::xW (uB σ τ oc o') s.t,xX (fN σ B oc o') (fun L=>nD oc o' L&&lC s.o (σ L)) o'++lD σ oc s.o⟩:=by
 unfold nX uC
 rw[aLs,aLt]
theorem bNp {σ:Nat->Nat} {oc:aK}:lD σ oc []= []:=rfl
theorem bNq {σ:Nat->Nat} {oc:aK} {p:Nat×AObj} {r:aK}:lD σ oc (p::r)=if mJ σ oc p.1=true then lD σ oc r else p::lD σ oc r:=by
 unfold lD;rw[List.filter_cons];cases mJ σ oc p.1<;>simp
theorem bNr {σ:Nat->Nat} {M:Nat}:mJ σ [] M=false:=rfl
theorem bNs {σ:Nat->Nat} {p:Nat×AObj} {oc:aK} {M:Nat}:mJ σ (p::oc) M=(decide (σ p.1=M)||mJ σ oc M):=by
 unfold mJ;rw[List.any_cons];rfl
theorem bNt {L:Nat}:eR [] L=false:=rfl
theorem bNu {p:Nat×AObj} {o:aK} {L:Nat}:eR (p::o) L=(decide (p.1=L)||eR o L):=by
 unfold eR;obtain⟨k,x⟩:=p;simp only[lk];by_cases h:k=L
 ·simp[h]
 ·simp[h]
theorem bNv {L:Nat}:lC [] L=false:=rfl
theorem bNw {p:Nat×AObj} {o:aK} {L:Nat}:lC (p::o) L=if p.1=L then p.2.pin else lC o L:=by
 unfold lC;obtain⟨k,x⟩:=p;simp only[lk];by_cases h:k=L
 ·rw[if_pos h,if_pos h]
 ·rw[if_neg h,if_neg h]
theorem bNx {oc o':aK} {L:Nat}:nD oc o' L=(eR oc L&&lC o' L):=rfl
theorem bNy {σ τ:Nat->Nat} {oc o':aK} {M:Nat}:uB σ τ oc o' M=(!mJ σ oc M||nD oc o' (τ M)):=rfl
theorem bNz {σ:Nat->Nat} {B:Nat} {oc o':aK} {L:Nat}:fN σ B oc o' L=if nD oc o' L=true then σ L else L+B:=rfl
theorem bN0 {σ τ:Nat->Nat} {oc o' s:aK}:qN σ τ oc o' s=(lD σ oc s).all fun p=>p.2.arr||AV.labsL (uB σ τ oc o') p.2.xs:=rfl
theorem bN1 {σ:Nat->Nat} {fz pin:Bool} {es kd:Nat} {xs:List AV}:dX σ ⟨true,fz,pin,es,xs,kd⟩=⟨true,fz,pin,es,xs,kd⟩:=rfl
theorem bN2 {σ:Nat->Nat} {fz pin:Bool} {es kd:Nat} {xs:List AV}:dX σ ⟨false,fz,pin,es,xs,kd⟩=⟨false,fz,pin,es,xs.map (AV.ren σ),kd⟩:=rfl
theorem bN3 {σ:Nat->Nat} {x y:AObj}:aB7 σ x (some y)=(y.kd=x.kd/\y.arr=x.arr/\y.fz=x.fz/\y.es=x.es/\y.xs=(dX σ x).xs):=rfl
theorem bN4 {B:Nat}:pF B []=true:=rfl
theorem bN5 {B:Nat} {p:Nat×AObj} {o:aK}:pF B (p::o)=(decide (p.1<B)&&pF B o):=rfl
attribute [go_sem] bNg bNh bNk bNl bNm bNn bNo bNp bNq bNr bNs bNt bNu bNv bNw bNx bNy bNz bN0 bN1 bN2 bN3 bN4 bN5 AV.ren AV.renL AV.labs AV.labsL List.all_cons List.all_nil List.forall_mem_cons
theorem bOf {n:Nat} {t:List (Nat×AV)} {o:aK} {L T:Nat} {x:AObj}:ASt.renew0 ⟨n,t,o⟩ L T x=⟨n,iN L (iN T t),(T,x)::killO L (killO T (cW o L))⟩:=rfl
attribute [go_sem] bOf
theorem bOh:dU=140737488355328:=rfl
attribute [go_sem] bOh
theorem bOi {n:Nat} {as:List AV} {o:aK}:qQ n as o=⟨n,(as.zipIdx 0).map fun p=>(p.2,p.1),o⟩:=rfl
theorem Fits.mk' {σ τ:Nat->Nat} {B:Nat} {oc s:aK} (h1:pF B s=true) (h2: ∀p∈oc,τ (σ p.1)=p.1/\p.2.pin=true/\aB7 σ p.2 (lk s (σ p.1))/\(p.2.arr||AV.labsL (eR oc) p.2.xs)=true):Fits σ τ B oc s:=⟨h1,h2⟩
theorem dN {P:Program} [Glob P] {rs:List ResultVar} {R:AV->aK->Prop} {s:ASt} (s0:ASt) (xs:List AV) (hl:Le s0 s) (h1:iP P s0 rs=some xs) (h2:R (jG xs) s0.o):U5 P rs R .ret s:=⟨s0,xs,hl,h1,h2⟩
theorem eW {P:Program} [Glob P] {rs:List ResultVar} {R:AV->aK->Prop} {s:ASt} (s0:ASt) (xs:List AV) (hl:Le s0 s) (h1:iP P s0 rs=some xs) (h2:R (jG xs) s0.o):U5 P rs R .normal s:=⟨s0,xs,hl,h1,h2⟩
theorem Le.renSub {s0 s:ASt} (ps qs:List (Nat×Nat)) (h1: ∀p∈s.o,dJ qs (dJ ps p.1)=p.1) (h2: ∀p∈s.o,p.2.pin=true->dJ ps p.1=p.1) (hl:Le s0 (rO (dJ ps) s)):Le s0 s:=hl.trans (Le.ren _ _ h1 h2)
def xY (σ:Nat->Nat):List (Nat×AV)->List (Nat×AV)
 | []=> []
 |p::r=>(p.1,p.2.ren σ)::xY σ r
theorem bOj {σ:Nat->Nat}:xY σ []= []:=rfl
theorem bOk {σ:Nat->Nat} {p:Nat×AV} {r:List (Nat×AV)}:xY σ (p::r)=(p.1,p.2.ren σ)::xY σ r:=rfl
def xZ (σ:Nat->Nat):aK->aK
 | []=> []
 |p::r=>(σ p.1,{dX σ p.2 with pin:=p.2.pin})::xZ σ r
theorem bOl {σ:Nat->Nat}:xZ σ []= []:=rfl
theorem bOm {σ:Nat->Nat} {p:Nat×AObj} {r:aK}:xZ σ (p::r)=(σ p.1,{dX σ p.2 with pin:=p.2.pin})::xZ σ r:=rfl
theorem bOn {σ:Nat->Nat} {n:Nat} {t:List (Nat×AV)} {o:aK}:rO σ ⟨n,t,o⟩=⟨n,xY σ t,xZ σ o⟩:=by
 have h1: ∀t:List (Nat×AV),t.map (fun p=>(p.1,p.2.ren σ))=xY σ t:=fun t=>by
  induction t with
  |nil=>rfl
  |cons p r ih=>simp only[List.map_cons,xY,ih]
 have h2: ∀o:aK,kD σ (fun _ b=>b) o=xZ σ o:=fun o=>by
  induction o with
  |nil=>rfl
  |cons p r ih=>simp only[kD,List.map_cons,xZ]at*;rw[ih]
 simp only[rO,h1,h2]
attribute [go_sem] bOj bOk bOl bOm bOn bOi
theorem zHg {P:Program} [Glob P] {Q:Exit->ASt->Prop} {K:ASt->Prop} {c:Code} {s:ASt} (k:cY P c Q s) (h:Hide K (cY P c Q):=by assumption):K s:=Hide.go h k
theorem zAo {a b:Prop} (hb:b) (ha:a:=by omega):a/\b:=⟨ha,hb⟩
theorem zAa {a b c:Prop} (hc:c) (ha:a:=by assumption) (hb:b:=by omega):(a/\b)/\c:=⟨⟨ha,hb⟩,hc⟩
theorem zDr {P:Program} [Glob P] {id:Nat} {ops:Array Oper} {Q:Exit->ASt->Prop} {s:ASt} (m:Nat) (hm:P.follows .mixedOrders=true) (h:nG P ops m ops.toList (Q .normal) s) (hok:nH ops m=true:=by decide+kernel):cY P (.region id ops true) Q s:=aKp m hm hok h
theorem zT:(∀i:Decidable True,@decide True i=true)/\(∀i:Decidable False,@decide False i=false)/\((¬False)=True):=⟨fun _=>by simp,fun _=>by simp,by simp⟩
end Go.Ab
