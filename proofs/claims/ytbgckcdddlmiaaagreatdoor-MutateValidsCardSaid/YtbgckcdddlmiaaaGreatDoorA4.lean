import Derived.Test.YtbgckcdddlmiaaaGreatDoorA3
import Derived.ProofKit
import Derived.OpenShut
import Derived.ReadAgain
import Derived.ChangeStays
import Derived.ChangeSame
import Derived.SizedLaws
import Derived.ChangeReads
set_option linter.all false
namespace Go.Ab
open Go.RowKit
section
variable {P : Program} [Glob P] {Q : Exit -> ASt -> Prop} {s : ASt} {k : ASt -> Prop}
theorem aSz:bW P .skip Q s=Q .normal s:=rfl
theorem aS0 {id:Nat} {ops:Array Oper}:bW P (.region id ops false) Q s=nN P ops ops.toList (Q .normal) s:=by simp[bW]
def pW (P:Program) [Glob P] (v:Option AV) (x y:Code) (Q:Exit->ASt->Prop) (s:ASt):Prop:=
 match v with
 |some (.sc (.bool b))=>(b=true->bW P x Q s)/\(b=false->bW P y Q s)
 |_=>False
theorem aS1 {c:Operand} {x y:Code}:bW P (.cond c x y) Q s=pW P (ev s.t c) x y Q s:=rfl
theorem aS2 {id:Nat} {b:Code}:bW P (.block id b) Q s=bW P b (xQ id Q) s:=rfl
theorem aS3 {id:Nat}:bW P (.exit id) Q s=Q (.exit id) s:=rfl
theorem aS4:bW P .ret Q s=Q .ret s:=rfl
theorem aS5 {K:ASt->Prop}:qV K Q .normal s=K s:=rfl
theorem aS6 {K:ASt->Prop}:qV K Q .ret s=Q .ret s:=rfl
theorem aS7 {K:ASt->Prop} {id:Nat}:qV K Q (.exit id) s=Q (.exit id) s:=rfl
theorem aS8 {id:Nat}:xQ id Q .normal s=Q .normal s:=rfl
theorem aS9 {id:Nat}:xQ id Q .ret s=Q .ret s:=rfl
theorem aTa {id id':Nat}:xQ id Q (.exit id') s=if id'=id then Q .normal s else Q (.exit id') s:=rfl
theorem aTb {x y:Code}:pW P (some (.sc (.bool true))) x y Q s=bW P x Q s:=by simp[pW]
theorem aTc {x y:Code}:pW P (some (.sc (.bool false))) x y Q s=bW P y Q s:=by simp[pW]
theorem aTd {b:Bool} {x y:Code} (h1:b=true->bW P x Q s) (h2:b=false->bW P y Q s):pW P (some (.sc (.bool b))) x y Q s:=⟨h1,h2⟩
theorem aTe {p:Prop} [Decidable p] {x y:Code} (h1:p->bW P x Q s) (h2: ¬p->bW P y Q s):pW P (some (.sc (.bool (decide p)))) x y Q s:=
 ⟨fun h=>h1 (of_decide_eq_true h),fun h=>h2 (of_decide_eq_false h)⟩
theorem aTf {p:Prop} [Decidable p] {x y:Code} (h1: ¬p->bW P x Q s) (h2:p->bW P y Q s):pW P (some (.sc (.bool (!decide p)))) x y Q s:=
 ⟨fun h=>h1 (by simpa using h),fun h=>h2 (by simpa using h)⟩
def K7 (P:Program) [Glob P] (rs:List ResultVar) (fs:List Nat) (R:AV->Prop) (s:ASt):Prop:=match uG P rs fs s with
 |some r=>R r
 |none=>False
theorem aM {rs:List ResultVar} {R:AV->Prop} (fs:List Nat) (h:K7 P rs fs R s):aHn P rs R .ret s:=by
 unfold K7 at h
 split at h
 ·rename_i r hr;exact⟨fs,r,hr,h⟩
 ·exact h.elim
theorem aTg {ops:Array Oper}:nN P ops [] k s=k s:=rfl
theorem aTh {ops:Array Oper} {o:Oper} {r:List Oper}:nN P ops (o::r) k s=gK P (gX ops o.guard s) o (nN P ops r k) s:=rfl
theorem aTi {ops:Array Oper}:gX ops none s= .run:=rfl
theorem aTj {o:Oper}:gK P .skip o k s=uB o.dst k s:=rfl
theorem aTk {o:Oper}:fK P .skip o k s=uC o.dst k s:=rfl
theorem aTl {d:Nat}:J9 (some d) k s=(d<s.n/\k (s.put d .dead)):=rfl
theorem aTm {o:Oper}:gK P .run o k s=bS P o k s:=rfl
theorem aTn {o:Oper}:gK P (.test true true) o k s=bS P o k s:=by simp[gK]
theorem aTo {o:Oper}:gK P (.test false false) o k s=bS P o k s:=by simp[gK]
theorem aTp {o:Oper}:gK P (.test true false) o k s=uB o.dst k s:=by simp[gK]
theorem aTq {o:Oper}:gK P (.test false true) o k s=uB o.dst k s:=by simp[gK]
theorem aHt {b want:Bool} {o:Oper} (h1:b=true->gK P (.test true want) o k s) (h2:b=false->gK P (.test false want) o k s):gK P (.test b want) o k s:=by
 cases b
 ·exact h2 rfl
 ·exact h1 rfl
theorem aTr {p:Prop} [Decidable p] {want:Bool} {o:Oper} (h1:p->gK P (.test true want) o k s) (h2: ¬p->gK P (.test false want) o k s):gK P (.test (decide p) want) o k s:=
 aHt (fun h=>h1 (of_decide_eq_true h)) (fun h=>h2 (of_decide_eq_false h))
theorem aTs {p:Prop} [Decidable p] {want:Bool} {o:Oper} (h1: ¬p->gK P (.test true want) o k s) (h2:p->gK P (.test false want) o k s):gK P (.test (!decide p) want) o k s:=
 aHt (fun h=>h1 (by simpa using h)) (fun h=>h2 (by simpa using h))
theorem aTt {d:Nat}:uB (some d) k s=(d<s.n/\k (s.put d (.tup []))):=rfl
theorem aTu {n:Bool} {a:AV} {d:Nat}:cL P (.v ⟨n,a⟩) (some d) k s=(n/\d<s.n/\k (s.put d a)):=rfl
theorem aTv {n:Bool} {s':ASt} {d:Option Nat}:cL P (.h ⟨n,s'⟩) d k s=(n/\k s'):=by cases d<;>rfl
theorem aAa {g:FuncId} {as bs:List AV} {d:Nat} {R:AV->Prop} (fs:List Nat) (s1:ASt) (hf:lN fs s=some s1) (hl:lK s1.o as=some bs) (hc:ACall P g bs R) (hd:d<s.n) (hk: ∀r,R r->k (qP s1 d r)):
 cL P (.c g as) (some d) k s:=⟨hd,.inl ⟨fs,s1,bs,R,hf,hl,hc,hk⟩⟩
theorem aHu {g:FuncId} {as:List AV} {d:Nat} (σ τ:Nat->Nat) (B:Nat) (oc:aF) (ac:List AV) {R:AV->aF->Prop} (hf:Fits σ τ B oc s.o) (hac:AV.labsL (dS oc) ac=true) (has:as=ac.map (AV.ren σ)) (hc:MCall P g ac oc R) (hd:d<s.n)
 (hk: ∀r o',R r o'->oO σ τ oc o' s.o=true/\k (mG σ τ B oc s d r o')):cL P (.c g as) (some d) k s:=⟨hd,.inr (.inr (.inr ⟨[],σ,τ,B,oc,ac,R,hf,hac,has,hc,hk⟩))⟩
theorem aH {g:FuncId} {as bs:List AV} {d:Nat} {r:AV} (hl:lK s.o as=some bs) (hc:ACall P g bs (fun x=>x=r)) (hd:d<s.n) (hk:k (qP s d r)):
 cL P (.c g as) (some d) k s:=aAa [] s rfl hl hc hd fun _ h=>h▸hk
theorem aHv {id:Nat} {ops:Array Oper} (m:Nat) (hm:P.follows .mixedOrders=true) (hok:nP ops m=true) (h:lP P ops m ops.toList (Q .normal) s):bW P (.region id ops true) Q s:=⟨s,Le.refl s,hm,.inl ⟨m,hok,h⟩⟩
theorem qW {id:Nat} {ops:Array Oper} {s0:ASt} (hl:Le s0 s) (h:bW P (.region id ops true) Q s0):bW P (.region id ops true) Q s:=by
 obtain⟨s1,h1,h2⟩:=h
 exact⟨s1,h1.trans hl,h2⟩
theorem aTw {ops:Array Oper} {l:List Oper}:lP P ops 0 l k s=pS P ((ops.toList.take (ops.size - l.length)).filter gB) (nN P ops l k) s:=rfl
theorem aTx:pS P [] k s=k s:=rfl
theorem aTy {d:Option Nat} {op:Op} {ty:TypeId} {pos af g}:gB ⟨d,op,ty,pos,af,g⟩=match op,d,g with
 | .alloc _,some _,none=>true
 |_,_,_=>false:=rfl
theorem aTz {t:TypeId} {d:Nat} {ty:TypeId} {pos af g} {r:List Oper}:pS P (⟨some d,.alloc t,ty,pos,af,g⟩::r) k s=match aL P t with
 |some z=>z.plain=true/\d<s.n/\pS P r k ((s.adopt d (jA z)).put d (.ptr d 0 0))
 |none=>False:=rfl
theorem aT0 {ops:Array Oper} {m:Nat} {o:Oper} {r:List Oper}:lP P ops (m+1) (o::r) k s=fK P (gX ops o.guard s) o (lP P ops m r k) s:=rfl
theorem aT1 {o:Oper}:fK P .run o k s=uD P o k s:=rfl
theorem aT2 {o:Oper}:fK P (.test true true) o k s=uD P o k s:=by simp[fK]
theorem aT3 {o:Oper}:fK P (.test false false) o k s=uD P o k s:=by simp[fK]
theorem aT4 {o:Oper}:fK P (.test true false) o k s=uC o.dst k s:=by simp[fK]
theorem aT5 {o:Oper}:fK P (.test false true) o k s=uC o.dst k s:=by simp[fK]
theorem aHw {b want:Bool} {o:Oper} (h1:b=true->fK P (.test true want) o k s) (h2:b=false->fK P (.test false want) o k s):fK P (.test b want) o k s:=by
 cases b
 ·exact h2 rfl
 ·exact h1 rfl
theorem aT6 {p:Prop} [Decidable p] {want:Bool} {o:Oper} (h1:p->fK P (.test true want) o k s) (h2: ¬p->fK P (.test false want) o k s):fK P (.test (decide p) want) o k s:=
 aHw (fun h=>h1 (of_decide_eq_true h)) (fun h=>h2 (of_decide_eq_false h))
theorem aT7 {p:Prop} [Decidable p] {want:Bool} {o:Oper} (h1: ¬p->fK P (.test true want) o k s) (h2:p->fK P (.test false want) o k s):fK P (.test (!decide p) want) o k s:=
 aHw (fun h=>h1 (by simpa using h)) (fun h=>h2 (by simpa using h))
theorem aT8 {d:Nat}:uC (some d) k s=(d<s.n/\k (s.put d (.tup []))):=rfl
theorem aT9 {o:Oper}:uD P o k s=match gB o with
 |true=>J9 o.dst k s
 |false=>xM P (bA P o s) o.dst k s:=rfl
theorem aUa {n:Bool} {a:AV} {d:Nat}:xM P (.v ⟨n,a⟩) (some d) k s=(n/\d<s.n/\k (s.put d a)):=rfl
theorem aUb {d:Option Nat}:xM P .no d k s=False:=by cases d<;>rfl
theorem dP {g:FuncId} {as bs:List AV} {d:Nat} {r:AV} (hl:lK s.o as=some bs) (hc:ACall P g bs (fun x=>x=r)) (hf:J8 r=true) (hd:d<s.n) (hk:k (s.put d r)):
 xM P (.c g as) (some d) k s:=⟨hd,bs,r,hl,hc,hf,hk⟩
theorem aUc {n:Nat} {t:List (Nat×AV)} {o:aF} {d:Nat} {a:AV}:ASt.put ⟨n,t,o⟩ d a=⟨n,(d,a)::t,o⟩:=rfl
theorem aUd {n:Nat} {t:List (Nat×AV)} {o:aF} {d:Nat} {x:AObj} {r:AV}:ASt.fresh ⟨n,t,o⟩ d x r=⟨n,(d,r)::gE d t,(d,x)::killO d o⟩:=rfl
theorem aUe {n:Nat} {t:List (Nat×AV)} {o:aF} {L T d:Nat} {x:AObj} {r:AV}:ASt.renew ⟨n,t,o⟩ L T d x r=⟨n,(d,r)::gE L (gE T t),(T,x)::killO L (killO T (cK o L))⟩:=rfl
theorem aUf {n:Nat} {t:List (Nat×AV)} {o:aF} {T:Nat} {x:AObj}:ASt.adopt ⟨n,t,o⟩ T x=⟨n,gE T (gE T t),(T,x)::killO T (killO T (cK o T))⟩:=rfl
theorem aUg {α:Type} {i:Nat}:lk ([]:List (Nat×α)) i=none:=rfl
theorem aUh {α:Type} {k i:Nat} {a:α} {r:List (Nat×α)}:lk ((k,a)::r) i=if k=i then some a else lk r i:=rfl
theorem aAb {L:Nat}:gE L []= []:=rfl
theorem aAc {L i:Nat} {a:AV} {r:List (Nat×AV)}:gE L ((i,a)::r)=(i,kill1 L a)::gE L r:=rfl
theorem aAd {L:Nat}:killO L []= []:=rfl
theorem K8 {L i:Nat} {x:AObj} {r:aF}:killO L ((i,x)::r)=(i,dO L x)::killO L r:=rfl
theorem K9 {kd:Nat} {L es:Nat} {fz pin:Bool} {xs:List AV}:dO L ⟨true,fz,pin,es,xs,kd⟩=⟨true,fz,pin,es,xs,kd⟩:=rfl
theorem aAe {kd:Nat} {L es:Nat} {fz pin:Bool} {xs:List AV}:dO L ⟨false,fz,pin,es,xs,kd⟩=⟨false,fz,pin,es,xs.map (kill1 L),kd⟩:=rfl
theorem aAf {L:Nat}:cK [] L= []:=rfl
theorem L0 {L i:Nat} {x:AObj} {r:aF}:cK ((i,x)::r) L=if i=L then cK r L else(i,x)::cK r L:=by
 simp only[cK,List.filter_cons]
 by_cases h:i=L<;>simp[h]
theorem aHx {L:Nat} {v:Value}:kl L (.sc v)= .sc v:=by simp[kl,kt,AV.has]
theorem aHy {L:Nat} {l f:Bool} {xs:List AV}:kl L (.list l f xs)= .list l f xs:=by simp[kl,kt,AV.has]
theorem aHz {L i o:Nat} {l:Bool} {xs:List AV}:kl L (.iptr l xs i o)= .iptr l xs i o:=by simp[kl,kt,AV.has]
theorem aH0 {L L' a b:Nat}:kl L (.ref L' a b)=if L=L' then .dead else .ref L' a b:=by simp[kl,kt,AV.has]
theorem aH1 {L L' a b:Nat}:kl L (.ptr L' a b)=if L=L' then .dead else .ptr L' a b:=by simp[kl,kt,AV.has]
theorem aH2 {L L':Nat}:kl L (.mp L')=if L=L' then .dead else .mp L':=by simp[kl,kt,AV.has]
theorem aUi {L L':Nat}:kill1 L (.mp L')=if L=L' then .dead else .mp L':=aH2
theorem aH3 {L:Nat}:kl L .dead= .dead:=by simp[kl,kt,AV.has]
theorem aH4 {L:Nat} {g:FuncId} {cs:List AV}:kl L (.clo g cs)=if AV.hasL L cs=true then .dead else .clo g cs:=rfl
theorem aH5 {L:Nat} {cs:List AV}:kl L (.tup cs)= .tup (cs.map (kt L)):=rfl
theorem aUj {L:Nat} {a:AV}:kt L a=if a.has L=true then .dead else a:=rfl
theorem L3 {L:Nat} {v:Value}:kill1 L (.sc v)= .sc v:=aHx
theorem aAg {L:Nat} {l f:Bool} {xs:List AV}:kill1 L (.list l f xs)= .list l f xs:=aHy
theorem aAh {L i o:Nat} {l:Bool} {xs:List AV}:kill1 L (.iptr l xs i o)= .iptr l xs i o:=aHz
theorem aAi {L L' a b:Nat}:kill1 L (.ref L' a b)=if L=L' then .dead else .ref L' a b:=aH0
theorem aAj {L L' a b:Nat}:kill1 L (.ptr L' a b)=if L=L' then .dead else .ptr L' a b:=aH1
theorem aAk {L:Nat}:kill1 L .dead= .dead:=aH3
theorem aAl {L:Nat} {g:FuncId} {cs:List AV}:kill1 L (.clo g cs)=if AV.hasL L cs=true then .dead else .clo g cs:=aH4
theorem vQ {L:Nat} {cs:List AV}:kill1 L (.tup cs)= .tup (cs.map (kt L)):=aH5
theorem aAm {L:Nat} {cs:List AV}:kill1 L (.agg cs)= .agg (cs.map (kl L)):=rfl
theorem aUk {t:List (Nat×AV)} {i:Nat}:ev t (.tmp i)=lk t i:=rfl
theorem aUl {t:List (Nat×AV)} {v:Value}:ev t (.const v)=iZ v:=rfl
theorem aUm {t:List (Nat×AV)} {f:FuncId}:ev t (.func f)=some (.clo f []):=rfl
theorem aUn {P:Program} [Glob P] {t:List (Nat×AV)} {i:Nat}:dA P t (.tmp i)=lk t i:=rfl
theorem aUo {P:Program} [Glob P] {t:List (Nat×AV)} {v:Value}:dA P t (.const v)=iZ v:=rfl
theorem aUp {P:Program} [Glob P] {t:List (Nat×AV)} {f:FuncId}:dA P t (.func f)=some (.clo f []):=rfl
theorem aUq {P:Program} [Glob P] {t:List (Nat×AV)} {g:Nat}:dA P t (.global g)=Glob.tab P g:=rfl
theorem aUr {k:IntKind} {n:Int}:iZ (.int k n)=some (nt k n):=rfl
theorem aUs {b:Bool}:iZ (.bool b)=some (bl b):=rfl
theorem aUt {b:ByteArray}:iZ (.string b)=some (.sc (.string b)):=rfl
theorem aUu:iZ (.slice none 0 0)=some (.list false true []):=rfl
theorem aUv:iZ (.pointer none)=some (.sc (.pointer none)):=rfl
theorem aUw:iZ (.map none)=some (.sc (.map none)):=rfl
theorem aUx:iZ .nilFunc=some (.sc .nilFunc):=rfl
theorem aUy:iZ .nilIface=some (.sc .nilIface):=rfl
theorem aH6 {k:IntKind} {n:Int}:nt k n= .sc (.int k n):=rfl
theorem aUz {b:Bool}:bl b= .sc (.bool b):=rfl
theorem aU0 {r:Sv}:eJ (some r)= .v r:=rfl
theorem aU1:eJ none= .no:=rfl
theorem aU2 {r:St}:iP (some r)= .h r:=rfl
theorem aU3:iP none= .no:=rfl
section ops
variable {d : Nat} {ty : TypeId} {pos : String} {af : Array Edge} {g : Option (Nat × Bool)}
theorem aU4 {x:Operand}:bA P ⟨some d,.move x,ty,pos,af,g⟩ s=eJ ((dA P s.t x).map fun a=>⟨true,a⟩):=rfl
theorem aU5 {x:Operand}:bA P ⟨some d,.assign x,ty,pos,af,g⟩ s=eJ ((dA P s.t x).map fun a=>⟨true,a⟩):=rfl
theorem aU6 {c a b:Operand}:bA P ⟨some d,.pick c a b,ty,pos,af,g⟩ s=eJ (match dA P s.t c with
 |some (.sc (.bool c))=>(if c=true then dA P s.t a else dA P s.t b).map fun a=>⟨true,a⟩
 |_=>none):=rfl
theorem aU7 {t:TypeId} {a:Operand}:bA P ⟨some d,.load t a,ty,pos,af,g⟩ s=eJ (match dA P s.t a with
 |some p=>nG P t p s.o
 |none=>none):=rfl
theorem aU8 {op:BinOp} {t yt:TypeId} {x y:Operand}:bA P ⟨some d,.binOp op t x y yt,ty,pos,af,g⟩ s=eJ (match dA P s.t x,dA P s.t y with
 |some a,some b=>match nF P op t a b with
  |some r=>some r
  |none=>match qM P op t a y with
   |some r=>some r
   |none=>match bQ P op t a b with
    |some r=>some r
    |none=>iE P ⟨some d,.binOp op t x y yt,ty,pos,af,g⟩ (dA P s.t)
 |_,_=>none):=rfl
theorem aU9 {op:BinOp} {t:TypeId} {a:AV} {i:Nat}:qM P op t a (.tmp i)=none:=by simp[qM,tQ]
attribute [go_sem] aU9
theorem aVa {op:UnOp} {t:TypeId} {x:Operand}:bA P ⟨some d,.unOp op t x,ty,pos,af,g⟩ s=eJ (match dA P s.t x with
 |some a=>zB op a
 |none=>none):=rfl
theorem aVb {t u:TypeId} {x:Operand}:bA P ⟨some d,.convert t u x,ty,pos,af,g⟩ s=eJ (match dA P s.t x with
 |some a=>if(P.underlying t).isSome=true then match tO P u a with
  |some r=>some r
  |none=>iE P ⟨some d,.convert t u x,ty,pos,af,g⟩ (dA P s.t)else none
 |none=>none):=rfl
theorem aVc {t:TypeId} {x:Operand} {f:Nat}:bA P ⟨some d,.fieldAddr t x f,ty,pos,af,g⟩ s=eJ (match dA P s.t x with
 |some p=>vD P t f p
 |none=>none):=rfl
theorem aVd {t:TypeId} {x:Operand} {f:Nat}:bA P ⟨some d,.field t x f,ty,pos,af,g⟩ s=eJ (match dA P s.t x with
 |some p=>yZ P t p f
 |none=>none):=rfl
theorem aVe {t:TypeId} {x i:Operand}:bA P ⟨some d,.indexAddr t x i,ty,pos,af,g⟩ s=eJ (match dA P s.t x,dA P s.t i with
 |some a,some b=>pK P t a b s.o
 |_,_=>none):=rfl
theorem aVf {t:TypeId} {x i:Operand}:bA P ⟨some d,.index t x i,ty,pos,af,g⟩ s=eJ (match dA P s.t x,dA P s.t i with
 |some a,some b=>wZ P t a b
 |_,_=>none):=rfl
theorem aVg {t:TypeId} {x:Operand} {lo hi:Option Operand}:bA P ⟨some d,.slice t x lo hi none,ty,pos,af,g⟩ s=eJ (match dA P s.t x,lo.map (dA P s.t),hi.map (dA P s.t)with
 |some _,some none,_=>none
 |some _,_,some none=>none
 |some a,l,h=>jJ P t a (l.bind id) (h.bind id) s.o
 |none,_,_=>none):=rfl
theorem aVh {x:Operand} {i:Nat}:bA P ⟨some d,.extract x i,ty,pos,af,g⟩ s=eJ (match dA P s.t x with
 |some (.tup vs)=>(vs[i]?).map fun a=>⟨true,a⟩
 |_=>none):=rfl
theorem aVi {t:TypeId} {parts:Array (Nat×Operand)}:bA P ⟨some d,.build t parts,ty,pos,af,g⟩ s=eJ (zA P t (oI (dA P s.t) parts.toList)):=rfl
theorem aVj {f:FuncId} {first caps:Array Operand}:bA P ⟨some d,.makeFunc (.func f) first caps,ty,pos,af,g⟩ s=eJ (if first.size=0 then(nI (dA P s.t) caps.toList).map fun cs=>⟨true,.clo f cs⟩else none):=rfl
theorem aVk {x:Operand}:bA P ⟨some d,.nilCheck x,ty,pos,af,g⟩ s=eJ (match dA P s.t x with
 |some (.ptr L i o)=>some ⟨true,.ptr L i o⟩
 |some (.iptr l xs i o)=>some ⟨true,.iptr l xs i o⟩
 |_=>none):=rfl
theorem aVl {xs:Array Operand} {ts:Array TypeId}:bA P ⟨some d,.call ⟨.builtin .len,xs,ts⟩,ty,pos,af,g⟩ s=eJ (match xs.toList,ts.toList with
 | [x],[t]=>match dA P s.t x with
  |some a=>pJ P t a
  |none=>none
 |_,_=>none):=rfl
theorem aVm {xs:Array Operand} {ts:Array TypeId}:bA P ⟨some d,.call ⟨.builtin .cap,xs,ts⟩,ty,pos,af,g⟩ s=eJ (match xs.toList,ts.toList with
 | [x],[t]=>match dA P s.t x with
  |some a=>yY P t a
  |none=>none
 |_,_=>none):=rfl
theorem aVn {xs:Array Operand} {ts:Array TypeId}:bA P ⟨some d,.call ⟨.builtin .max,xs,ts⟩,ty,pos,af,g⟩ s=eJ (iE P ⟨some d,.call ⟨.builtin .max,xs,ts⟩,ty,pos,af,g⟩ (dA P s.t)):=rfl
theorem aVo {t:TypeId}:bA P ⟨some d,.alloc t,ty,pos,af,g⟩ s=iP (zG P t d s):=rfl
theorem aVp {t:TypeId} {x:Operand}:bA P ⟨some d,.box t x,ty,pos,af,g⟩ s=(match ev s.t x with
 |some a=>iP (zH a d s)
 |none=> .no):=rfl
theorem aVq {t:TypeId} {p x:Operand}:bA P ⟨none,.store t p x,ty,pos,af,g⟩ s=(match ev s.t p,ev s.t x with
 |some a,some b=>iP (xC P t a b s)
 |_,_=> .no):=rfl
theorem aVr {t:TypeId} {len:Nat} {parts:Array (Nat×Operand)}:bA P ⟨some d,.buildSlice t len parts,ty,pos,af,g⟩ s=iP (zK P t len (oI (ev s.t) parts.toList) d s):=rfl
theorem aVs {xs:Array Operand} {ts:Array TypeId}:bA P ⟨some d,.call ⟨.builtin .append,xs,ts⟩,ty,pos,af,g⟩ s=(match xs.toList,ts.toList with
 | [x,y],[st,xt]=>match ev s.t x,ev s.t y with
  |some a,some b=>iP (xD P st xt a b d s)
  |_,_=> .no
 |_,_=> .no):=rfl
theorem aVt {f:Operand} {xs:Array Operand} {ts:Array TypeId}:bA P ⟨some d,.call ⟨.value f,xs,ts⟩,ty,pos,af,g⟩ s=(match ev s.t f,nI (ev s.t) xs.toList with
 |some (.clo g caps),some as=> .c g (as++caps)
 |some (.yl L),some as=> .y (.yl L::as)
 |_,_=> .no):=rfl
end ops
theorem aVu {n:Int} (h1: -9223372036854775808<=n) (h2:n<=9223372036854775807):IntKind.i64.wrap n=n:=IntWalk.i64_in n ⟨h1,h2⟩
theorem aVv {n:Int} (h1:0<=n) (h2:n<=18446744073709551615):IntKind.u64.wrap n=n:=IntWalk.u64_in n ⟨h1,h2⟩
theorem aVw {n:Int} (h1:0<=n) (h2:n<=255):IntKind.u8.wrap n=n:=IntWalk.u8_in n ⟨h1,h2⟩
theorem aVx {ρ:Operand->Option AV}:nI ρ []=some []:=rfl
theorem aVy {ρ:Operand->Option AV} {x:Operand} {r:List Operand}:nI ρ (x::r)=(match ρ x with
 |some a=>match nI ρ r with
  |some as=>some (a::as)
  |none=>none
 |none=>none):=by
 simp only[nI,List.mapM_cons]
 cases ρ x with
 |none=>rfl
 |some a=>
  simp
  cases List.mapM ρ r<;>rfl
theorem aVz {ρ:Operand->Option AV}:oI ρ []=some []:=rfl
theorem aV0 {ρ:Operand->Option AV} {i:Nat} {x:Operand} {r:List (Nat×Operand)}:oI ρ ((i,x)::r)=(match ρ x with
 |some a=>match oI ρ r with
  |some as=>some ((i,a)::as)
  |none=>none
 |none=>none):=by
 simp only[oI,List.mapM_cons]
 cases ρ x with
 |none=>rfl
 |some a=>
  simp
  cases List.mapM (fun p:Nat×Operand=>Option.map (fun a=>(p.1,a)) (ρ p.2)) r<;>rfl
theorem aV1 {cs:List AV}:(AV.agg cs).cells=cs:=rfl
theorem aV2 {v:Value}:(AV.sc v).cells= [.sc v]:=rfl
theorem aV3 {l f:Bool} {xs:List AV}:(AV.list l f xs).cells= [.list l f xs]:=rfl
theorem aV4 {l:Bool} {xs:List AV} {i o:Nat}:(AV.iptr l xs i o).cells= [.iptr l xs i o]:=rfl
theorem aV5 {a b c:Nat}:(AV.ref a b c).cells= [.ref a b c]:=rfl
theorem aV6 {a b c:Nat}:(AV.ptr a b c).cells= [.ptr a b c]:=rfl
theorem aV7 {g:FuncId} {cs:List AV}:(AV.clo g cs).cells= [.clo g cs]:=rfl
theorem aV8 {cs:List AV}:(AV.agg cs).isAgg=true:=rfl
theorem aV9 {v:Value}:(AV.sc v).isAgg=false:=rfl
theorem aWa {l f:Bool} {xs:List AV}:(AV.list l f xs).isAgg=false:=rfl
theorem aWb {l:Bool} {xs:List AV} {i o:Nat}:(AV.iptr l xs i o).isAgg=false:=rfl
theorem aWc {a b c:Nat}:(AV.ref a b c).isAgg=false:=rfl
theorem aWd {a b c:Nat}:(AV.ptr a b c).isAgg=false:=rfl
theorem aWe {g:FuncId} {cs:List AV}:(AV.clo g cs).isAgg=false:=rfl
theorem aWf {cs:List AV}:(AV.agg cs).plain=true:=rfl
theorem aWg {v:Value}:(AV.sc v).plain=true:=rfl
theorem aWh {l f:Bool} {xs:List AV}:(AV.list l f xs).plain=true:=rfl
theorem aWi {l:Bool} {xs:List AV} {i o:Nat}:(AV.iptr l xs i o).plain=true:=rfl
theorem aWj {a b c:Nat}:(AV.ref a b c).plain=true:=rfl
theorem aWk {a b c:Nat}:(AV.ptr a b c).plain=true:=rfl
theorem aWl {g:FuncId} {cs:List AV}:(AV.clo g cs).plain=true:=rfl
theorem aWm {cs:List AV}:(AV.agg cs).pure=AV.pureL cs:=by simp[AV.pure]
theorem aWn {v:Value}:(AV.sc v).pure=true:=by simp[AV.pure]
theorem aWo {l f:Bool} {xs:List AV}:(AV.list l f xs).pure= !l:=by simp[AV.pure]
theorem aWp:AV.pureL []=true:=rfl
theorem aWq {a:AV} {r:List AV}:AV.pureL (a::r)=(a.pure&&AV.pureL r):=by simp[AV.pureL]
theorem aWr {L:Nat} {cs:List AV}:(AV.agg cs).has L=AV.hasL L cs:=by simp[AV.has]
theorem aAn {L:Nat} {v:Value}:(AV.sc v).has L=false:=rfl
theorem aAo {L:Nat} {l f:Bool} {xs:List AV}:(AV.list l f xs).has L=false:=rfl
theorem aAp {L:Nat} {l:Bool} {xs:List AV} {i o:Nat}:(AV.iptr l xs i o).has L=false:=rfl
theorem aWs {L a b c:Nat}:(AV.ref a b c).has L=(L==a):=rfl
theorem aAq {L a b c:Nat}:(AV.ptr a b c).has L=(L==a):=rfl
theorem aWt {L a b c d e:Nat}:(AV.aref a b c d e).has L=(L==a):=rfl
theorem aWu {L:Nat} {g:FuncId} {cs:List AV}:(AV.clo g cs).has L=AV.hasL L cs:=rfl
theorem aWv {L:Nat}:AV.dead.has L=false:=rfl
theorem aAr {L:Nat}:AV.hasL L []=false:=rfl
theorem aAs {L:Nat} {a:AV} {r:List AV}:AV.hasL L (a::r)=(a.has L||AV.hasL L r):=rfl
theorem aWw {op:BinOp} {t:TypeId} {k k':IntKind} {u v:Int}:nF P op t (.sc (.int k u)) (.sc (.int k' v))=if k=k' then qJ op k u v else if op= .shr then qJ .shr k u v else none:=rfl
theorem aWx {op:BinOp} {t:TypeId} {u v:ByteArray}:nF P op t (.sc (.string u)) (.sc (.string v))=vC op u v:=rfl
theorem aWy {t:TypeId} {u v:Bool}:nF P .eql t (.sc (.bool u)) (.sc (.bool v))=if wY P t=true then some ⟨true,bl (u==v)⟩else none:=rfl
theorem aWz {t:TypeId} {u v:Bool}:nF P .neq t (.sc (.bool u)) (.sc (.bool v))=if wY P t=true then some ⟨true,bl (!(u==v))⟩else none:=rfl
theorem aW0 {op:BinOp} {t:TypeId} {a:AV} {cs:List AV}:nF P op t a (.agg cs)=none:=by
 cases a<;>first|rfl|(rename_i v;cases v<;>rfl)
def aAt (d:Option (Bool×Nat)) (e:Option (AV×Nat)):Option Sv:=
 match d,e with
 |some (ag,size),some (y,o)=>(jY y ag size o).map fun a=>⟨true,a⟩
 |_,_=>none
theorem aW1 {t:TypeId} {p:AV} {ob:aF}:nG P t p ob=aAt (aJ P t) (lG ob p):=by
 unfold nG aAt
 cases aJ P t with
 |none=>rfl
 |some q=>obtain⟨a,b⟩:=q;cases lG ob p<;>rfl
theorem aW2 {ag:Bool} {size o:Nat} {y:AV}:aAt (some (ag,size)) (some (y,o))=(jY y ag size o).map fun a=>⟨true,a⟩:=rfl
theorem aW3 {y:AV} {size o:Nat}:jY y true size o=if o+size<=y.cells.length then some (if o=0/\size=y.cells.length/\y.isAgg=true then y else .agg ((y.cells.drop o).take size))else none:=rfl
theorem aW4 {y:AV} {size o:Nat}:jY y false size o=y.cells[o]?:=rfl
def ptS (x:Option AObj) (i o:Nat):Option (AV×Nat):=
 match x with
 |some x=>(x.xs[i]?).map fun y=>(y,o)
 |none=>none
theorem aW5 {ob:aF} {L i o:Nat}:lG ob (.ptr L i o)=ptS (lk ob L) i o:=by simp only[lG,ptS];cases lk ob L<;>rfl
theorem aW6 {x:AObj} {i o:Nat}:ptS (some x) i o=(x.xs[i]?).map fun y=>(y,o):=rfl
theorem aW7 {ob:aF} {l:Bool} {xs:List AV} {i o:Nat}:lG ob (.iptr l xs i o)=(xs[i]?).map fun y=>(y,o):=rfl
def aAv (d:Option (Nat×TypeId×Nat)) (p:AV):Option Sv:=
 match d with
 |some (off,_,n)=>match p with
  | .iptr l xs i o=>some ⟨decide (n≠0),.iptr l xs i (o+off)⟩
  | .ptr L i o=>some ⟨decide (n≠0),.ptr L i (o+off)⟩
  |_=>none
 |none=>none
theorem aW8 {t:TypeId} {f:Nat} {p:AV}:vD P t f p=aAv (bO P t f) p:=rfl
theorem aW9 {off n:Nat} {ft:TypeId} {l:Bool} {xs:List AV} {i o:Nat}:aAv (some (off,ft,n)) (.iptr l xs i o)=some ⟨decide (n≠0),.iptr l xs i (o+off)⟩:=rfl
theorem aXa {off n:Nat} {ft:TypeId} {L i o:Nat}:aAv (some (off,ft,n)) (.ptr L i o)=some ⟨decide (n≠0),.ptr L i (o+off)⟩:=rfl
theorem aXb {t:TypeId} {s:ByteArray}:pJ P t (.sc (.string s))=if mB P t=true then some ⟨true,nt .i64 s.size⟩else none:=rfl
def xR (d:Option (TypeId×Nat×Nat)) (n:Nat):Option Sv:=match d with
 |some _=>some ⟨true,nt .i64 n⟩
 |none=>none
theorem aXc {q:TypeId×Nat×Nat} {n:Nat}:xR (some q) n=some ⟨true,nt .i64 n⟩:=rfl
theorem aXd {t:TypeId} {l f:Bool} {xs:List AV}:pJ P t (.list l f xs)=xR (cE P t) xs.length:=rfl
theorem aXe {t:TypeId} {L lo n:Nat}:pJ P t (.ref L lo n)=xR (cE P t) n:=rfl
theorem aXf {t:TypeId} {L i o es n:Nat}:pJ P t (.aref L i o es n)=xR (cE P t) n:=rfl
def aH7 (d:Option (TypeId×Nat×Nat)) (l:Bool) (xs:List AV) (i:Int):Option Sv:=match d with
 |some (_,es,_)=>some ⟨decide (0<=i/\i<xs.length/\ ∀y,xs[i.toNat]?=some y->y.cells.length=es),.iptr l xs i.toNat 0⟩
 |none=>none
theorem aXg {t:TypeId} {l f:Bool} {xs:List AV} {k:IntKind} {i:Int} {ob:aF}:pK P t (.list l f xs) (.sc (.int k i)) ob=aH7 (cE P t) l xs i:=rfl
theorem aXh {e:TypeId} {es b:Nat} {l:Bool} {xs:List AV} {i:Int}:aH7 (some (e,es,b)) l xs i=some ⟨decide (0<=i/\i<xs.length/\ ∀y,xs[i.toNat]?=some y->y.cells.length=es),.iptr l xs i.toNat 0⟩:=rfl
def aAw (d:Option (TypeId×Nat×Nat)) (x:Option AObj) (L lo n:Nat) (i:Int):Option Sv:=match d,x with
 |some (_,es,_),some x=>some ⟨decide (x.es=es/\0<=i/\i<n),.ptr L (lo+i.toNat) 0⟩
 |_,_=>none
theorem aXi {t:TypeId} {L lo n:Nat} {k:IntKind} {i:Int} {ob:aF}:pK P t (.ref L lo n) (.sc (.int k i)) ob=aAw (cE P t) (lk ob L) L lo n i:=by
 simp only[pK,aAw]
 cases cE P t<;>cases lk ob L<;>rfl
theorem aXj {e:TypeId} {es b:Nat} {x:AObj} {L lo n:Nat} {i:Int}:aAw (some (e,es,b)) (some x) L lo n i=some ⟨decide (x.es=es/\0<=i/\i<n),.ptr L (lo+i.toNat) 0⟩:=rfl
def aH8 (d:Option (TypeId×Nat×Nat)) (L k o es' n:Nat) (i:Int):Option Sv:=match d with
 |some (_,es,_)=>some ⟨decide (es'=es/\0<=i/\i<n),.ptr L k (o+i.toNat*es)⟩
 |none=>none
theorem aXk {t:TypeId} {L k o es n:Nat} {kk:IntKind} {i:Int} {ob:aF}:pK P t (.aref L k o es n) (.sc (.int kk i)) ob=aH8 (cE P t) L k o es n i:=rfl
theorem aXl {e:TypeId} {es b:Nat} {L k o es' n:Nat} {i:Int}:aH8 (some (e,es,b)) L k o es' n i=some ⟨decide (es'=es/\0<=i/\i<n),.ptr L k (o+i.toNat*es)⟩:=rfl
def aH9 (d:Option (Nat×TypeId×Nat)) (L k o:Nat) (i:Int):Option Sv:=match d with
 |some (n,_,es)=>some ⟨decide (0<=i/\i<n),.ptr L k (o+i.toNat*es)⟩
 |none=>none
theorem aXm {t:TypeId} {L k o:Nat} {kk:IntKind} {i:Int} {ob:aF}:pK P t (.ptr L k o) (.sc (.int kk i)) ob=aH9 (jX P t) L k o i:=rfl
theorem aXn {e:TypeId} {n es L k o:Nat} {i:Int}:aH9 (some (n,e,es)) L k o i=some ⟨decide (0<=i/\i<n),.ptr L k (o+i.toNat*es)⟩:=rfl
def aIa (d:Option (Nat×TypeId×Nat)) (l:Bool) (xs:List AV) (k o:Nat) (i:Int):Option Sv:=match d with
 |some (n,_,es)=>some ⟨decide (0<=i/\i<n),.iptr l xs k (o+i.toNat*es)⟩
 |none=>none
theorem aXo {t:TypeId} {l:Bool} {xs:List AV} {k o:Nat} {kk:IntKind} {i:Int} {ob:aF}:pK P t (.iptr l xs k o) (.sc (.int kk i)) ob=aIa (jX P t) l xs k o i:=rfl
theorem aXp {e:TypeId} {n es k o:Nat} {l:Bool} {xs:List AV} {i:Int}:aIa (some (n,e,es)) l xs k o i=some ⟨decide (0<=i/\i<n),.iptr l xs k (o+i.toNat*es)⟩:=rfl
theorem aXq {t:TypeId} {s:ByteArray} {k:IntKind} {i:Int}:wZ P t (.sc (.string s)) (.sc (.int k i))=if mB P t=true then some ⟨decide (0<=i/\i<s.size),nt .u8 (s.data.toList.getD i.toNat 0).toNat⟩else none:=rfl
def aIb (d:Option (Nat×TypeId×Nat)) (P:Program) [Glob P] (cs:List AV):Option Sv:=match d with
 |some (off,ft,_)=>(rT P ft cs off).map fun a=>⟨true,a⟩
 |none=>none
theorem aXr {t:TypeId} {cs:List AV} {f:Nat}:yZ P t (.agg cs) f=aIb (bO P t f) P cs:=rfl
theorem aXs {off n:Nat} {ft:TypeId} {cs:List AV}:aIb (some (off,ft,n)) P cs=(rT P ft cs off).map fun a=>⟨true,a⟩:=rfl
def aAx (d:Option (Bool×Nat)) (cs:List AV) (off:Nat):Option AV:=match d with
 |some (true,n)=>some (.agg ((cs.drop off).take n))
 |some (false,_)=>cs[off]?
 |none=>none
theorem aXt {t:TypeId} {cs:List AV} {off:Nat}:rT P t cs off=aAx (aJ P t) cs off:=rfl
theorem aXu {n off:Nat} {cs:List AV}:aAx (some (true,n)) cs off=some (.agg ((cs.drop off).take n)):=rfl
theorem aXv {n off:Nat} {cs:List AV}:aAx (some (false,n)) cs off=cs[off]?:=rfl
def aIc (z:Option AV) (k d:Nat) (s:ASt):Option St:=match z with
 |some z=>if z.plain=true/\z.has d=false then some ⟨decide (d<s.n),s.fresh d (boxK z k) (.ptr d 0 0)⟩else none
 |none=>none
theorem aXw {t:TypeId} {d:Nat}:zG P t d s=aIc (zbS (aK P t) (aL P t) (V0 P t)) (aK P t) d s:=rfl
theorem zbS_zero {z r:Option AV}:zbS 0 z r=z:=rfl
theorem zbS_succ {n:Nat} {z r:Option AV}:zbS (n+1) z r=r:=rfl
theorem aXx {a:AV} {k:Nat}:boxK a k=⟨false,false,false,a.cells.length,[a],k⟩:=rfl
theorem aXy {z:AV} {k d:Nat}:aIc (some z) k d s=if z.plain=true/\z.has d=false then some ⟨decide (d<s.n),s.fresh d (boxK z k) (.ptr d 0 0)⟩else none:=rfl
theorem aXz {b:AV} {d:Nat}:zH b d s=if b.plain=true/\b.has d=false then some ⟨decide (d<s.n),s.fresh d (jA b) (.ptr d 0 0)⟩else none:=rfl
theorem aX0 {a:AV}:jA a=⟨false,false,false,a.cells.length,[a],0⟩:=rfl
theorem aAy {es:Nat} {xs:List AV}:dF es xs=⟨true,false,false,es,xs,0⟩:=rfl
def xS (x:Option AObj) (d:Option (Bool×Nat)) (L i o:Nat) (a:AV) (s:ASt):Option St:=match x,d with
 |some x,some (_,size)=>match x.xs[i]? with
  |some y=>if x.fz=false/\a.plain=true/\a.cells.length=size/\o+size<=y.cells.length then
   if x.arr=true then match share s a with
    |some (s1,b)=>match lk s1.o L with
     |some x1=>if x1.fz=false/\b.pure=true/\b.cells.length=size/\b.plain=true then some ⟨true,{s1 with o:=bR s1.o L {x1 with xs:=x1.xs.set i (kQ y b o)}}⟩else none
     |none=>none
    |none=>none
   else some ⟨true,{s with o:=bR s.o L {x with xs:=x.xs.set i (kQ y a o)}}⟩
   else none
  |none=>none
 |_,_=>none
theorem aX1 {t:TypeId} {L i o:Nat} {a:AV}:xC P t (.ptr L i o) a s=xS (lk s.o L) (aJ P t) L i o a s:=by
 simp only[xC,xS];cases lk s.o L<;>cases aJ P t<;>rfl
def aAz (y:Option AV) (fz pin:Bool) (es:Nat) (xs:List AV) (kd size L i o:Nat) (a:AV) (s:ASt):Option St:=match y with
 |some y=>if fz=false/\a.plain=true/\a.cells.length=size/\o+size<=y.cells.length then some ⟨true,{s with o:=bR s.o L ⟨false,fz,pin,es,xs.set i (kQ y a o),kd⟩}⟩else none
 |none=>none
theorem aX2 {kd:Nat} {fz pin ag:Bool} {es size L i o:Nat} {xs:List AV} {a:AV}:xS (some ⟨false,fz,pin,es,xs,kd⟩) (some (ag,size)) L i o a s=aAz (xs[i]?) fz pin es xs kd size L i o a s:=by
 simp only[xS,aAz]
 cases xs[i]?<;>rfl
theorem aX3 {kd:Nat} {y:AV} {fz pin:Bool} {es size L i o:Nat} {xs:List AV} {a:AV}:aAz (some y) fz pin es xs kd size L i o a s=if fz=false/\a.plain=true/\a.cells.length=size/\o+size<=y.cells.length then some ⟨true,{s with o:=bR s.o L ⟨false,fz,pin,es,xs.set i (kQ y a o),kd⟩}⟩else none:=rfl
def L4 (y:Option AV) (b:Option (ASt×AV)) (fz:Bool) (size L i o:Nat) (a:AV):Option St:=match y,b with
 |some y,some (s1,b)=>if fz=false/\a.plain=true/\a.cells.length=size/\o+size<=y.cells.length then match lk s1.o L with
  |some x1=>if x1.fz=false/\b.pure=true/\b.cells.length=size/\b.plain=true then some ⟨true,{s1 with o:=bR s1.o L {x1 with xs:=x1.xs.set i (kQ y b o)}}⟩else none
  |none=>none
  else none
 |_,_=>none
theorem aX4 {kd:Nat} {fz pin ag:Bool} {es size L i o:Nat} {xs:List AV} {a:AV}:xS (some ⟨true,fz,pin,es,xs,kd⟩) (some (ag,size)) L i o a s=L4 (xs[i]?) (share s a) fz size L i o a:=by
 simp only[xS,L4]
 cases xs[i]? with
 |none=>cases share s a<;>rfl
 |some y=>
  cases share s a with
  |none=>simp
  |some q=>rfl
def aA0 (x1:Option AObj) (s1:ASt) (b y:AV) (size L i o:Nat):Option St:=match x1 with
 |some x1=>if x1.fz=false/\b.pure=true/\b.cells.length=size/\b.plain=true then some ⟨true,{s1 with o:=bR s1.o L {x1 with xs:=x1.xs.set i (kQ y b o)}}⟩else none
 |none=>none
theorem aX5 {y b a:AV} {s1:ASt} {fz:Bool} {size L i o:Nat}:L4 (some y) (some (s1,b)) fz size L i o a=if fz=false/\a.plain=true/\a.cells.length=size/\o+size<=y.cells.length then aA0 (lk s1.o L) s1 b y size L i o else none:=by
 simp only[L4,aA0]
theorem aX6 {kd:Nat} {s1:ASt} {b y:AV} {size L i o:Nat} {arr fz pin:Bool} {es:Nat} {xs:List AV}:aA0 (some ⟨arr,fz,pin,es,xs,kd⟩) s1 b y size L i o=
 if fz=false/\b.pure=true/\b.cells.length=size/\b.plain=true then some ⟨true,{s1 with o:=bR s1.o L ⟨arr,fz,pin,es,xs.set i (kQ y b o),kd⟩}⟩else none:=rfl
theorem aX7 {o:aF} {L:Nat} {x:AObj}:bR o L x=(L,x)::o:=rfl
theorem aX8 {y a:AV} {o:Nat}:kQ y a o=if o=0/\a.cells.length=y.cells.length/\a.isAgg=y.isAgg then a else .agg (splice y.cells a.cells o):=rfl
theorem aX9 {α:Type} {cs ds:List α} {off:Nat}:splice cs ds off=cs.take off++ds++cs.drop (off+ds.length):=rfl
def aId (d:Option (List AV×List (Nat×Nat))) (ps:Option (List (Nat×AV))):Option Sv:=match d,ps with
 |some (z,pl),some ps=>(qL (pl[·]?) z ps).map fun cs=>⟨true,.agg cs⟩
 |_,_=>none
theorem aYa {t:TypeId} {ps:Option (List (Nat×AV))}:zA P t ps=aId (dY P t) ps:=rfl
def aIe (pl:List (Nat×Nat)) (p:Option (Nat×Nat)) (cs:List AV) (a:AV) (r:List (Nat×AV)):Option (List AV):=match p with
 |some (off,size)=>if a.plain=true/\a.cells.length=size/\off+size<=cs.length then qL (pl[·]?) (splice cs a.cells off) r else none
 |none=>none
def L5 (pl:List (Nat×Nat)) (cs:List AV) (ps:List (Nat×AV)):Option (List AV):=qL (pl[·]?) cs ps
theorem aYb {z:List AV} {pl:List (Nat×Nat)} {ps:List (Nat×AV)}:aId (some (z,pl)) (some ps)=(L5 pl z ps).map fun cs=>⟨true,.agg cs⟩:=rfl
theorem aYc {pl:List (Nat×Nat)} {cs:List AV}:L5 pl cs []=some cs:=rfl
theorem aYd {pl:List (Nat×Nat)} {cs:List AV} {i:Nat} {a:AV} {r:List (Nat×AV)}:L5 pl cs ((i,a)::r)=aIe pl (pl[i]?) cs a r:=rfl
theorem aYe {pl:List (Nat×Nat)} {off size:Nat} {cs:List AV} {a:AV} {r:List (Nat×AV)}:aIe pl (some (off,size)) cs a r=if a.plain=true/\a.cells.length=size/\off+size<=cs.length then L5 pl (splice cs a.cells off) r else none:=rfl
def aYf (d:Option (TypeId×Nat×Nat)) (l h:Option Int) (len kH:Bool) (xs:List AV):Option Sv:=match d,l,h with
 |some (_,es,_),some l,some h=>some ⟨decide (0<=l/\l<=h/\h<=xs.length/\ ∀y∈xs,y.cells.length=es),.list len kH ((xs.drop l.toNat).take (h.toNat - l.toNat))⟩
 |_,_,_=>none
theorem aYg {e:TypeId} {es b:Nat} {l h:Int} {len kH:Bool} {xs:List AV}:aYf (some (e,es,b)) (some l) (some h) len kH xs=some ⟨decide (0<=l/\l<=h/\h<=xs.length/\ ∀y∈xs,y.cells.length=es),.list len kH ((xs.drop l.toNat).take (h.toNat - l.toNat))⟩:=rfl
def aA1 (d:Option (TypeId×Nat×Nat)) (x:Option AObj) (l h:Option Int) (L b n:Nat):Option Sv:=match d,x,l,h with
 |some (_,es,_),some x,some l,some h=>some ⟨decide (x.es=es/\0<=l/\l<=h/\h<=n),.ref L (b+l.toNat) (h.toNat - l.toNat)⟩
 |_,_,_,_=>none
theorem aYh {t:TypeId} {l:Bool} {xs:List AV} {i k:Nat} {lo hi:Option AV} {ob:aF}:jJ P t (.iptr l xs i k) lo hi ob=H2 l k (jX P t) lo hi xs[i]?:=rfl
theorem aYi {l:Bool} {k n es:Nat} {e:TypeId} {y:AV}:H2 l k (some (n,e,es)) none none (some y)=some ⟨decide (k+n*es<=y.cells.length/\n<=dD/\0<n),.list l true (rU y.cells k es n)⟩:=rfl
theorem aYj {t:TypeId} {L b n:Nat} {lo hi:Option AV} {ob:aF}:jJ P t (.ref L b n) lo hi ob=aA1 (cE P t) (lk ob L) (bd lo 0) (bd hi n) L b n:=by
 simp only[jJ,aA1]
 cases cE P t<;>cases lk ob L<;>cases bd lo 0<;>cases bd hi n<;>rfl
theorem aYk {e:TypeId} {es bb:Nat} {x:AObj} {l h:Int} {L b n:Nat}:aA1 (some (e,es,bb)) (some x) (some l) (some h) L b n=some ⟨decide (x.es=es/\0<=l/\l<=h/\h<=n),.ref L (b+l.toNat) (h.toNat - l.toNat)⟩:=rfl
def aA2 (c:Bool) (l h:Option Int) (s:ByteArray):Option Sv:=match c,l,h with
 |true,some l,some h=>some ⟨decide (0<=l/\l<=h/\h<=s.size),.sc (.string (s.extract l.toNat h.toNat))⟩
 |_,_,_=>none
theorem aYl {t:TypeId} {s:ByteArray} {lo hi:Option AV} {ob:aF}:jJ P t (.sc (.string s)) lo hi ob=aA2 (mB P t) (bd lo 0) (bd hi s.size) s:=by
 simp only[jJ,aA2]
 cases mB P t<;>cases bd lo 0<;>cases bd hi s.size<;>rfl
theorem aYm {l h:Int} {s:ByteArray}:aA2 true (some l) (some h) s=some ⟨decide (0<=l/\l<=h/\h<=s.size),.sc (.string (s.extract l.toNat h.toNat))⟩:=rfl
def aA3 (d:Option (Nat×TypeId×Nat)) (l:Option Int) (hi:Option AV) (L i o:Nat):Option Sv:=match d,l with
 |some (n,_,es),some l=>match bd hi n with
  |some h=>some ⟨decide (0<=l/\l<=h/\h<=n),.aref L i (o+l.toNat*es) es (h.toNat - l.toNat)⟩
  |none=>none
 |_,_=>none
theorem aYn {t:TypeId} {L i o:Nat} {lo hi:Option AV} {ob:aF}:jJ P t (.ptr L i o) lo hi ob=aA3 (jX P t) (bd lo 0) hi L i o:=by
 simp only[jJ,aA3]
 cases jX P t<;>cases bd lo 0<;>rfl
def aIf (h:Option Int) (n es:Nat) (l:Int) (L i o:Nat):Option Sv:=match h with
 |some h=>some ⟨decide (0<=l/\l<=h/\h<=n),.aref L i (o+l.toNat*es) es (h.toNat - l.toNat)⟩
 |none=>none
theorem aYo {e:TypeId} {n es:Nat} {l:Int} {hi:Option AV} {L i o:Nat}:aA3 (some (n,e,es)) (some l) hi L i o=aIf (bd hi n) n es l L i o:=rfl
theorem aYp {n es:Nat} {l h:Int} {L i o:Nat}:aIf (some h) n es l L i o=some ⟨decide (0<=l/\l<=h/\h<=n),.aref L i (o+l.toNat*es) es (h.toNat - l.toNat)⟩:=rfl
theorem aYq {d:Int}:bd none d=some d:=rfl
theorem aYr {k:IntKind} {i d:Int}:bd (some (.sc (.int k i))) d=some i:=rfl
def xT (a:Option AV) (l h:Option (Option AV)) (P:Program) [Glob P] (t:TypeId) (ob:aF):Option Sv:=match a,l,h with
 |some _,some none,_=>none
 |some _,_,some none=>none
 |some a,l,h=>jJ P t a (l.bind id) (h.bind id) ob
 |none,_,_=>none
theorem aYs {a:AV} {t:TypeId} {ob:aF}:xT (some a) none none P t ob=jJ P t a none none ob:=rfl
theorem aYt {a l:AV} {t:TypeId} {ob:aF}:xT (some a) (some (some l)) none P t ob=jJ P t a (some l) none ob:=rfl
theorem aYu {a h:AV} {t:TypeId} {ob:aF}:xT (some a) none (some (some h)) P t ob=jJ P t a none (some h) ob:=rfl
theorem aYv {a l h:AV} {t:TypeId} {ob:aF}:xT (some a) (some (some l)) (some (some h)) P t ob=jJ P t a (some l) (some h) ob:=rfl
theorem aYw {d:Nat} {ty:TypeId} {pos:String} {af:Array Edge} {g:Option (Nat×Bool)} {t:TypeId} {x:Operand} {lo hi:Option Operand}:
 bA P ⟨some d,.slice t x lo hi none,ty,pos,af,g⟩ s=eJ (xT (dA P s.t x) (lo.map (dA P s.t)) (hi.map (dA P s.t)) P t s.o):=by simp only[aVg,xT]
def aIg (d:Option (TypeId×Nat×Nat)) (z:TypeId->Option Value) (ps:Option (List (Nat×AV))) (len dd:Nat) (s:ASt):Option St:=match d,ps with
 |some (e,es,_),some ps=>match z e with
  |some _=>if ps.map (·.1)=List.range len then match nK s (ps.map (·.2))with
   |some (s1,bs)=>some ⟨decide (dd<s1.n/\len*es<=2^24/\len<=dD/\ ∀b∈bs,b.pure=true/\b.cells.length=es),s1.fresh dd (dF es bs) (.ref dd 0 len)⟩
   |none=>none
   else none
  |none=>none
 |_,_=>none
theorem aYx {t:TypeId} {len d:Nat} {ps:Option (List (Nat×AV))}:zK P t len ps d s=aIg (cE P t) (dQ P) ps len d s:=rfl
def aA4 (z:Option Value) (es:Nat) (ps:List (Nat×AV)) (len dd:Nat) (s:ASt):Option St:=match z with
 |some _=>if ps.map (·.1)=List.range len then match nK s (ps.map (·.2))with
  |some (s1,bs)=>some ⟨decide (dd<s1.n/\len*es<=2^24/\len<=dD/\ ∀b∈bs,b.pure=true/\b.cells.length=es),s1.fresh dd (dF es bs) (.ref dd 0 len)⟩
  |none=>none
  else none
 |none=>none
theorem aYy {e:TypeId} {es b:Nat} {z:TypeId->Option Value} {ps:List (Nat×AV)} {len d:Nat}:aIg (some (e,es,b)) z (some ps) len d s=aA4 (z e) es ps len d s:=rfl
def aA5 (x:Option (ASt×List AV)) (es len dd:Nat):Option St:=match x with
 |some (s1,bs)=>some ⟨decide (dd<s1.n/\len*es<=2^24/\len<=dD/\ ∀b∈bs,b.pure=true/\b.cells.length=es),s1.fresh dd (dF es bs) (.ref dd 0 len)⟩
 |none=>none
theorem aYz {v:Value} {es:Nat} {ps:List (Nat×AV)} {len d:Nat}:aA4 (some v) es ps len d s=if ps.map (·.1)=List.range len then aA5 (nK s (ps.map (·.2))) es len d else none:=by
 simp only[aA4,aA5]
theorem aY0 {s1:ASt} {bs:List AV} {es len d:Nat}:aA5 (some (s1,bs)) es len d=some ⟨decide (d<s1.n/\len*es<=2^24/\len<=dD/\ ∀b∈bs,b.pure=true/\b.cells.length=es),s1.fresh d (dF es bs) (.ref d 0 len)⟩:=rfl
def qX (x:Option (ASt×AV)) (r:List AV) (f:ASt->List AV->Option (ASt×List AV)):Option (ASt×List AV):=match x with
 |some (s1,b)=>match f s1 r with
  |some (s2,bs)=>some (s2,b::bs)
  |none=>none
 |none=>none
def aIh (b:AV) (x:Option (ASt×List AV)):Option (ASt×List AV):=match x with
 |some (s2,bs)=>some (s2,b::bs)
 |none=>none
theorem aY1 {s1:ASt} {b:AV} {r:List AV} {f:ASt->List AV->Option (ASt×List AV)}:qX (some (s1,b)) r f=aIh b (f s1 r):=rfl
theorem aY2 {s2:ASt} {b:AV} {bs:List AV}:aIh b (some (s2,bs))=some (s2,b::bs):=rfl
theorem aY3:nK s []=some (s,[]):=rfl
theorem aY4 {a:AV} {r:List AV}:nK s (a::r)=qX (share s a) r nK:=by first|rfl|(simp only[nK,qX];done)|(simp only[nK,qX];repeat' split)<;>simp_all
theorem aY5:lH s []=some (s,[]):=rfl
theorem aY6 {a:AV} {r:List AV}:lH s (a::r)=qX (jL s a) r lH:=by first|rfl|(simp only[lH,qX];done)|(simp only[lH,qX];repeat' split)<;>simp_all
def aA6 (x:Option (ASt×List AV)):Option (ASt×AV):=match x with
 |some (s1,ds)=>some (s1,.agg ds)
 |none=>none
theorem aY7 {s1:ASt} {ds:List AV}:aA6 (some (s1,ds))=some (s1,.agg ds):=rfl
theorem aY8 {cs:List AV}:share s (.agg cs)=aA6 (lH s cs):=rfl
theorem aY9 {v:Value}:share s (.sc v)=some (s,.sc v):=by simp[share,jL,AV.pure]
theorem aZa {f:Bool} {xs:List AV}:share s (.list false f xs)=some (s,.list false f xs):=by simp[share,jL,AV.pure]
theorem aZb {L lo n:Nat}:share s (.ref L lo n)=jL s (.ref L lo n):=rfl
theorem aZc {v:Value}:jL s (.sc v)=some (s,.sc v):=by simp[jL,AV.pure]
theorem aZd {f:Bool} {xs:List AV}:jL s (.list false f xs)=some (s,.list false f xs):=by simp[jL,AV.pure]
def aA7 (x:Option AObj) (s:ASt) (L lo n:Nat):Option (ASt×AV):=match x with
 |some x=>if x.arr=true/\x.pin=false then some (s.frz L x,.list false false (cA x.xs lo n))else none
 |none=>none
theorem aZe {L lo n:Nat}:jL s (.ref L lo n)=aA7 (lk s.o L) s L lo n:=by
 simp only[jL,aA7];cases lk s.o L<;>rfl
theorem aZf {kd:Nat} {fz:Bool} {es L lo n:Nat} {xs:List AV}:aA7 (some ⟨true,fz,false,es,xs,kd⟩) s L lo n=some ({s with o:=(L,⟨true,true,false,es,xs,kd⟩)::s.o},.list false false (cA xs lo n)):=rfl
theorem aA8 {α:Type} {xs:List α} {lo n:Nat}:cA xs lo n=if lo=0/\n=xs.length then xs else(xs.drop lo).take n:=rfl
def xU (d:Option (TypeId×Nat×Nat)) (d2:Bool) (ys:Option (List AV)) (z:TypeId->Option Value) (kk:TypeId->Nat) (a:AV) (dd:Nat) (s:ASt):Option St:=match d,d2,ys with
 |some (e,es,bytes),true,some ys=>match z e with
  |some _=>match a with
   | .list _ true xs=>some ⟨decide (dd<s.n/\(∀zv,z e=some zv->zv.cells.size=es)/\(∀y∈ys,y.cells.length=es)/\(∀y∈xs,y.cells.length=es)/\bytes≠0/\(2*(xs.length+ys.length)+200)*bytes<=2^48/\(xs= []\/ys≠ [])),
    s.renew dd dd dd (iL es (xs++ys) (kk e)) (.ref dd 0 (xs++ys).length)⟩
   | .ref L lo n=>match lk s.o L with
    |some x=>if x.arr=true/\x.fz=false/\lo=0 then
     some ⟨decide (dd<s.n/\(∀zv,z e=some zv->zv.cells.size=es)/\(∀y∈ys,y.cells.length=es)/\x.es=es/\bytes≠0/\(2*(n+ys.length)+200)*bytes<=2^48/\n<=x.xs.length),
      s.renew L (if x.pin=true then dd else L) dd (iL es (cA x.xs 0 n++ys) (if x.kd=kk e then kk e else 0)) (.ref (if x.pin=true then dd else L) 0 (n+ys.length))⟩else none
    |none=>none
   |_=>none
  |none=>none
 |_,_,_=>none
theorem aZg {st xt:TypeId} {a b:AV} {d:Nat}:tU P st xt a b d s=xU (cE P st) (fU P xt) (mC s.o b) (dQ P) (dZ P) a d s:=by
 simp only[tU,xU];cases cE P st<;>cases fU P xt<;>cases mC s.o b<;>rfl
def aZh (x:Option AObj) (L n es bytes k dd:Nat) (ys:List AV) (s:ASt):Option St:=match x with
 |some x=>if x.arr=true/\x.fz=false then some ⟨decide (dd<s.n/\(∀y∈ys,y.cells.length=es)/\x.es=es/\(2*(n+ys.length)+200)*bytes<=2^48/\n<=x.xs.length),
  s.renew L (if x.pin=true then dd else L) dd (iL es (cA x.xs 0 n++ys) (if x.kd=k then k else 0)) (.ref (if x.pin=true then dd else L) 0 (n+ys.length))⟩else none
 |none=>none
theorem aZi {kd k:Nat} {L n es es' bytes d:Nat} {xs ys:List AV} {pin:Bool}:aZh (some ⟨true,false,pin,es',xs,kd⟩) L n es bytes k d ys s=some ⟨decide (d<s.n/\(∀y∈ys,y.cells.length=es)/\es'=es/\(2*(n+ys.length)+200)*bytes<=2^48/\n<=xs.length),
 s.renew L (if pin=true then d else L) d (iL es (cA xs 0 n++ys) (if kd=k then k else 0)) (.ref (if pin=true then d else L) 0 (n+ys.length))⟩:=rfl
theorem aZj {es k:Nat} {xs:List AV}:iL es xs k=⟨true,false,false,es,xs,k⟩:=rfl
theorem aZk {o:aF} {l f:Bool} {ys:List AV}:mC o (.list l f ys)=some ys:=rfl
theorem aZl {o:aF} {L lo n:Nat}:mC o (.ref L lo n)=lI o (.ref L lo n):=rfl
theorem aZm {o:aF} {b:ByteArray}:mC o (.sc (.string b))=some (b.data.toList.map tS):=rfl
def L6 (x:Option AObj) (lo n:Nat):Option (List AV):=match x with
 |some x=>if x.arr=true then some (cA x.xs lo n)else none
 |none=>none
theorem aZn {o:aF} {l f:Bool} {ys:List AV}:lI o (.list l f ys)=some ys:=rfl
theorem aZo {o:aF} {L lo n:Nat}:lI o (.ref L lo n)=L6 (lk o L) lo n:=by first|rfl|(simp only[lI,L6];done)|(simp only[lI,L6];repeat' split)<;>simp_all
theorem aZp {kd:Nat} {fz pin:Bool} {es lo n:Nat} {xs:List AV}:L6 (some ⟨true,fz,pin,es,xs,kd⟩) lo n=some (cA xs lo n):=rfl
def A8 (b:Option AV) (x:Option (List AV)):Option (List AV):=match b,x with
 |some b,some bs=>some (b::bs)
 |_,_=>none
theorem aZq {b:AV} {bs:List AV}:A8 (some b) (some bs)=some (b::bs):=rfl
theorem aZr {o:aF}:lK o []=some []:=rfl
theorem aZs {o:aF} {a:AV} {r:List AV}:lK o (a::r)=A8 (mD o a) (lK o r):=by
 simp only[lK,A8]
 cases mD o a with
 |none=>rfl
 |some b=>cases lK o r<;>rfl
theorem aZt {o:aF}:lJ o []=some []:=rfl
theorem aZu {o:aF} {a:AV} {r:List AV}:lJ o (a::r)=A8 (jB o a) (lJ o r):=by
 simp only[lJ,A8]
 cases jB o a with
 |none=>rfl
 |some b=>cases lJ o r<;>rfl
theorem aZv {o:aF} {cs:List AV}:mD o (.agg cs)=(lJ o cs).map .agg:=rfl
theorem aZw {o:aF} {g:FuncId} {cs:List AV}:mD o (.clo g cs)=(lJ o cs).map (.clo g):=rfl
theorem aZx {o:aF} {v:Value}:mD o (.sc v)=some (.sc v):=rfl
theorem aZy {o:aF} {l f:Bool} {xs:List AV}:mD o (.list l f xs)=some (.list l f xs):=rfl
theorem aZz {o:aF} {l:Bool} {xs:List AV} {i k:Nat}:mD o (.iptr l xs i k)=some (.iptr l xs i k):=rfl
theorem aZ0 {o:aF}:mD o .dead=some .dead:=rfl
theorem aZ1 {o:aF} {v:Value}:jB o (.sc v)=some (.sc v):=rfl
theorem aZ2 {o:aF} {l f:Bool} {xs:List AV}:jB o (.list l f xs)=some (.list l f xs):=rfl
theorem aZ3 {o:aF} {l:Bool} {xs:List AV} {i k:Nat}:jB o (.iptr l xs i k)=some (.iptr l xs i k):=rfl
theorem aZ4 {o:aF}:jB o .dead=some .dead:=rfl
theorem aZ5 {o:aF} {L lo n:Nat}:mD o (.ref L lo n)=jB o (.ref L lo n):=rfl
theorem aZ6 {o:aF} {L i k:Nat}:mD o (.ptr L i k)=jB o (.ptr L i k):=rfl
theorem aZ7 {o:aF} {L i k es n:Nat}:mD o (.aref L i k es n)=jB o (.aref L i k es n):=rfl
def L7 (x:Option AObj) (lo n:Nat):Option AV:=match x with
 |some x=>if x.arr=true then some (.list (!x.fz) false (cA x.xs lo n))else none
 |none=>none
theorem aZ8 {o:aF} {L lo n:Nat}:jB o (.ref L lo n)=L7 (lk o L) lo n:=by first|rfl|(simp only[jB,L7];done)|(simp only[jB,L7];repeat' split)<;>simp_all
theorem aZ9 {kd:Nat} {fz pin:Bool} {es lo n:Nat} {xs:List AV}:L7 (some ⟨true,fz,pin,es,xs,kd⟩) lo n=some (.list (!fz) false (cA xs lo n)):=rfl
def L8 (x:Option AObj) (i k:Nat):Option AV:=match x with
 |some x=>if x.arr=true\/AV.pureL x.xs=true then some (.iptr true x.xs i k)else none
 |none=>none
theorem bAa {o:aF} {L i k:Nat}:jB o (.ptr L i k)=L8 (lk o L) i k:=by first|rfl|(simp only[jB,L8];done)|(simp only[jB,L8];repeat' split)<;>simp_all
theorem bAb {kd:Nat} {arr fz pin:Bool} {es i k:Nat} {xs:List AV}:L8 (some ⟨arr,fz,pin,es,xs,kd⟩) i k=if arr=true\/AV.pureL xs=true then some (.iptr true xs i k)else none:=rfl
def aA9 (y:Option AV) (k es n:Nat):Option AV:=match y with
 |some y=>if y.pure=true/\k+n*es<=y.cells.length/\n<=1048576/\y.isAgg=true then some (.list true false ((List.range n).map fun j=>qO y.cells (k+j*es) es))else none
 |none=>none
def bAc (x:Option AObj) (i k es n:Nat):Option AV:=match x with
 |some x=>aA9 (x.xs[i]?) k es n
 |none=>none
theorem bAd {x:AObj} {i k es n:Nat}:bAc (some x) i k es n=aA9 (x.xs[i]?) k es n:=rfl
theorem bAe {y:AV} {k es n:Nat}:aA9 (some y) k es n=if y.pure=true/\k+n*es<=y.cells.length/\n<=1048576/\y.isAgg=true then some (.list true false ((List.range n).map fun j=>qO y.cells (k+j*es) es))else none:=rfl
theorem bAf {cs:List AV} {off es:Nat}:qO cs off es=if es=1 then cs.getD off .dead else .agg ((cs.drop off).take es):=rfl
theorem bAg {d es:Nat} {xs:List AV}:qP s d (.own es xs)=s.renew d d d (dF es xs) (.ref d 0 xs.length):=rfl
theorem bAh {d:Nat} {v:Value}:qP s d (.sc v)=s.put d (.sc v):=rfl
theorem bAi {d:Nat} {cs:List AV}:qP s d (.agg cs)=s.put d (.agg cs):=rfl
theorem bAj {d:Nat} {l f:Bool} {xs:List AV}:qP s d (.list l f xs)=s.put d (.list l f xs):=rfl
theorem bAk {d:Nat} {g:FuncId} {cs:List AV}:qP s d (.clo g cs)=s.put d (.clo g cs):=rfl
def aIi (d:Nat) (x:ASt×List AV):ASt:=x.1.put d (.tup x.2)
theorem bAl {d:Nat} {rs:List AV}:qP s d (.tup rs)=aIi d (eO s.n d 0 s rs):=rfl
theorem bAm {d:Nat} {s1:ASt} {cs:List AV}:aIi d (s1,cs)=s1.put d (.tup cs):=rfl
def A9 (b:AV) (x:ASt×List AV):ASt×List AV:=(x.1,b::x.2)
theorem bAn {b:AV} {s1:ASt} {cs:List AV}:A9 b (s1,cs)=(s1,b::cs):=rfl
theorem bAo {n d i:Nat}:eO n d i s []=(s,[]):=rfl
theorem bAp {n d i es:Nat} {xs rs:List AV}:eO n d i s (.own es xs::rs)=A9 (.ref (n*(i+1)+d) 0 xs.length) (eO n d (i+1) (s.adopt (n*(i+1)+d) (dF es xs)) rs):=rfl
theorem bAq {n d i:Nat} {v:Value} {rs:List AV}:eO n d i s (.sc v::rs)=A9 (.sc v) (eO n d (i+1) s rs):=rfl
theorem bAr {n d i:Nat} {cs:List AV} {rs:List AV}:eO n d i s (.agg cs::rs)=A9 (.agg cs) (eO n d (i+1) s rs):=rfl
theorem bAs {n d i:Nat} {l f:Bool} {xs rs:List AV}:eO n d i s (.list l f xs::rs)=A9 (.list l f xs) (eO n d (i+1) s rs):=rfl
theorem bAt {n:Nat} {as:List AV}:entry n as=⟨n,(as.zipIdx 0).map fun p=>(p.2,p.1),[]⟩:=rfl
def xV (a:Option AV) (r:Option (List AV)):Option (List AV):=match a,r with
 |some a,some as=>some (a::as)
 |_,_=>none
theorem bAu {a:AV} {r:List AV}:xV (some a) (some r)=some (a::r):=rfl
theorem bAv:iR P s []=some []:=rfl
theorem bAw {r:ResultVar} {rs:List ResultVar}:iR P s (r::rs)=xV (sC P s r) (iR P s rs):=by
 simp only[iR,xV];cases sC P s r<;>cases iR P s rs<;>rfl
theorem bAx {t:Nat}:sC P s (.tmp t)=lk s.t t:=rfl
def L9 (p:Option AV) (t:TypeId) (P:Program) [Glob P] (o:aF):Option AV:=match p with
 |some (.ptr L i k)=>(nG P t (.ptr L i k) o).map (·.val)
 |_=>none
theorem bAy {a:Nat} {t:TypeId}:sC P s (.cell a t)=L9 (lk s.t a) t P s.o:=by first|rfl|(simp only[sC,L9];done)|(simp only[sC,L9];repeat' split)<;>simp_all
theorem bAz {L i k:Nat} {t:TypeId} {o:aF}:L9 (some (.ptr L i k)) t P o=(nG P t (.ptr L i k) o).map (·.val):=rfl
theorem bA0:lN [] s=some s:=rfl
def M0 (x:Option AObj) (L:Nat) (r:List Nat) (s:ASt):Option ASt:=match x with
 |some x=>if x.arr=true then lN r (s.frz L x)else none
 |none=>none
theorem bA1 {L:Nat} {r:List Nat}:lN (L::r) s=M0 (lk s.o L) L r s:=by first|rfl|(simp only[lN,M0];done)|(simp only[lN,M0];repeat' split)<;>simp_all
theorem bA2 {kd:Nat} {fz pin:Bool} {es L:Nat} {xs:List AV} {r:List Nat}:M0 (some ⟨true,fz,pin,es,xs,kd⟩) L r s=lN r {s with o:=(L,⟨true,true,pin,es,xs,kd⟩)::s.o}:=rfl
def M1 (x:Option (ASt×List AV)):Option AV:=match x with
 |some (s2,ys)=>if oQ (gG ys)=true then(nR s2.o ys).map iS else none
 |none=>none
theorem bA3 {s2:ASt} {ys:List AV}:M1 (some (s2,ys))=if oQ (gG ys)=true then(nR s2.o ys).map iS else none:=rfl
def aBa (xs:Option (List AV)) (s1:Option ASt):Option AV:=match xs,s1 with
 |some xs,some s1=>M1 (nQ s1 xs)
 |_,_=>none
theorem bA4 {rs:List ResultVar} {fs:List Nat}:uG P rs fs s=aBa (iR P s rs) (lN fs s):=by
 simp only[uG,aBa]
 cases iR P s rs with
 |none=>rfl
 |some xs=>cases lN fs s with
  |none=>rfl
  |some s1=>simp only[M1];cases nQ s1 xs<;>rfl
theorem bA5 {xs:List AV} {s1:ASt}:aBa (some xs) (some s1)=M1 (nQ s1 xs):=rfl
theorem bA6:nQ s []=some (s,[]):=rfl
theorem bA7 {a:AV} {r:List AV}:nQ s (a::r)=qX (pU s a) r nQ:=by first|rfl|(simp only[nQ,qX];done)|(simp only[nQ,qX];repeat' split)<;>simp_all
theorem bA8 {L lo n:Nat}:pU s (.ref L lo n)=some (s,.ref L lo n):=rfl
theorem bA9 {v:Value}:pU s (.sc v)=some (s,.sc v):=by simp[pU,share,jL,AV.pure]
theorem bBa {cs:List AV}:pU s (.agg cs)=aA6 (lH s cs):=rfl
theorem bBb {f:Bool} {xs:List AV}:pU s (.list false f xs)=some (s,.list false f xs):=by simp[pU,share,jL,AV.pure]
theorem bBc {g:FuncId} {cs:List AV}:pU s (.clo g cs)=if AV.pureL cs=true then some (s,.clo g cs)else none:=rfl
theorem bBd {o:aF}:nR o []=some []:=rfl
theorem bBe {o:aF} {a:AV} {r:List AV}:nR o (a::r)=xV (lQ o a) (nR o r):=by first|rfl|(simp only[nR,xV];done)|(simp only[nR,xV];repeat' split)<;>simp_all
theorem bBf {o:aF} {v:Value}:lQ o (.sc v)=some (.sc v):=by simp[lQ,AV.pure]
theorem bBg {o:aF} {cs:List AV}:lQ o (.agg cs)=if AV.pureL cs=true then some (.agg cs)else none:=rfl
theorem bBh {o:aF} {g:FuncId} {cs:List AV}:lQ o (.clo g cs)=if AV.pureL cs=true then some (.clo g cs)else none:=rfl
theorem bBi {o:aF} {f:Bool} {xs:List AV}:lQ o (.list false f xs)=some (.list false f xs):=by simp[lQ,AV.pure]
def xW (x:Option AObj) (lo n:Nat):Option AV:=match x with
 |some x=>if x.arr=true then(if x.fz=true then some (.list false false (cA x.xs lo n))else if x.pin=false/\lo=0/\n=x.xs.length then some (.own x.es x.xs)else none)else none
 |none=>none
theorem bBj {o:aF} {L lo n:Nat}:lQ o (.ref L lo n)=xW (lk o L) lo n:=by first|rfl|(simp only[lQ,xW];done)|(simp only[lQ,xW];repeat' split)<;>simp_all
theorem bBk {kd:Nat} {pin:Bool} {es lo n:Nat} {xs:List AV}:xW (some ⟨true,true,pin,es,xs,kd⟩) lo n=some (.list false false (cA xs lo n)):=rfl
theorem bBl {kd:Nat} {es lo n:Nat} {xs:List AV}:xW (some ⟨true,false,false,es,xs,kd⟩) lo n=if lo=0/\n=xs.length then some (.own es xs)else none:=by simp[xW]
theorem bBm:gG []= []:=rfl
theorem bBn {L lo n:Nat} {r:List AV}:gG (.ref L lo n::r)=L::gG r:=rfl
theorem bBo {v:Value} {r:List AV}:gG (.sc v::r)=gG r:=rfl
theorem bBp {cs:List AV} {r:List AV}:gG (.agg cs::r)=gG r:=rfl
theorem bBq {l f:Bool} {xs r:List AV}:gG (.list l f xs::r)=gG r:=rfl
theorem bBr {g:FuncId} {cs:List AV} {r:List AV}:gG (.clo g cs::r)=gG r:=rfl
theorem bBs:oQ []=true:=rfl
theorem bBt {a:Nat} {r:List Nat}:oQ (a::r)=(!r.contains a&&oQ r):=rfl
theorem bBu {r:AV}:iS [r]=r:=rfl
theorem bBv:iS []= .tup []:=rfl
theorem bBw {a b:AV} {r:List AV}:iS (a::b::r)= .tup (a::b::r):=rfl
def aBb (x:Option AV) (R:AV->Prop):Prop:=match x with
 |some r=>R r
 |none=>False
theorem bBx {rs:List ResultVar} {fs:List Nat} {R:AV->Prop}:K7 P rs fs R s=aBb (uG P rs fs s) R:=by simp only[K7,aBb]
theorem bBy {r:AV} {R:AV->Prop}:aBb (some r) R=R r:=rfl
def B0 (x:Option AV) (want:Bool):GV:=match x with
 |some (.sc (.bool b))=> .test b want
 |some (.tup [])=> .skip
 |_=> .bad
theorem bBz {want:Bool}:B0 (some (.tup [])) want= .skip:=rfl
theorem bB0 {ops:Array Oper} {j:Nat} {want:Bool}:gX ops (some (j,want)) s=B0 ((nM ops j).bind (lk s.t)) want:=by first|rfl|(simp only[gX,B0];done)|(simp only[gX,B0];repeat' split)<;>simp_all
theorem bB1 {b want:Bool}:B0 (some (.sc (.bool b))) want= .test b want:=rfl
theorem bB2 {ops:Array Oper} {j:Nat}:nM ops j=(ops[j]?).bind (·.dst):=rfl
end
attribute [go_sem ↓] aSz aS0 aS1 aS2 aS3 aS4 aS5 aS6 aS7 aS8 aS9 aTa aTg aTh aTm aTn aTo aTp aTq aTw aTx aTz aTy List.filter_cons List.filter_nil aT0 aT1 aT2 aT3 aT4 aT5 aT9
attribute [go_sem] bBz aTj aTk aTl aT8 aUa aUb
attribute [go_sem] aTb aTc aTi bB0 bB1 bB2 aTt aTu aTv aUc aUd aUe aUf aUg aUh aAb aAc aAd K8 K9 aAe aAf L0 aHx aHy aHz aH0 aH1 aH3 aH4 aH5 aUj L3 aAg aAh aAi aAj aAk aAl vQ aAm aH2 aUi aUk aUl aUm aUn aUo aUp aUq aUr aUs aUt aUu aUv aUw aUx aUy aH6 aUz aU0 aU1 aU2 aU3
attribute [go_sem] aU4 aU5 aU6 aU7 aU8 aVa aVb aVc aVd aVe aVf aVh aVi aVj aVk aVl aVm aVo aVp aVq aVr aVs aVt
attribute [go_sem] aVu aVv aVw aVx aVy aVz aV0
attribute [go_sem] aV1 aV2 aV3 aV4 aV5 aV6 aV7 aV8 aV9 aWa aWb aWc aWd aWe aWf aWg aWh aWi aWj aWk aWl aWm aWn aWo aWp aWq aWr aAn aAo aAp aWs aAq aWt aWu aWv aAr aAs
attribute [go_sem] aWw aWx aWy aWz aW0 qJ vC zB tO aW1 aW2 aW3 aW4 aW5 aW6 aW7 aW8 aW9 aXa aXb aXc aXd aXe aXf aXg aXh aXi aXj aXk aXl aXm aXn aXo aXp aXr aXs aXt aXu aXv aXw aXy aXz aX0 aXx zbS_zero zbS_succ aAy aZj aZk aZl aZm aX1 aX2 aX3 aX4 aX5 aX6 aX7 aX8 aX9 aYa aYb aYc aYd aYe
attribute [go_sem] aYh aYi aYg aYj aYk aYl aYm aYn aYo aYp aYq aYr aYx aYy aYz aY0 aY1 aY2 aY3 aY4 aY5 aY6 aY7 aY8 aY9 aZa aZb aZc aZd aZe aZf aA8 aZg aZi aZn aZo aZp aZq aZr aZs aZt aZu aZv aZw aZx aZy aZz aZ0 aZ1 aZ2 aZ3 aZ4 aZ5 aZ6 aZ7 aZ8 aZ9 bAa bAb bAd bAe bAf
attribute [go_sem] bAg bAh bAi bAj bAk bAl bAm bAn bAo bAp bAq bAr bAs bAt bAu bAv bAw bAx bAy bAz bA0 bA1 bA2 bA3 bA4 bA5 bA6 bA7 bA8 bA9 bBa bBb bBc bBd bBe bBf bBg bBh bBi bBj bBk bBl bBm bBn bBo bBp bBq bBr bBs bBt bBu bBv bBw bBx bBy aYw aYs aYt aYu aYv
attribute [go_sem] List.getElem?_cons_zero List.getElem?_cons_succ List.getElem?_nil List.map_cons List.map_nil List.length_cons List.length_nil List.take_zero List.take_succ_cons List.take_nil List.drop_zero List.drop_succ_cons List.drop_nil List.cons_append List.nil_append List.append_nil List.set_cons_zero List.set_cons_succ List.zipIdx_cons List.zipIdx_nil Option.map_some Option.map_none Option.bind_some Option.bind_none List.getElem?_toArray Nat.zero_add Nat.add_zero Int.toNat_natCast Int.toNat_zero List.contains_nil Bool.not_true Bool.not_false and_true true_and and_false false_and and_self or_true true_or or_false false_or if_true if_false ite_true ite_false ne_eq not_true_eq_false not_false_eq_true Bool.false_eq_true Bool.true_and Bool.and_true Bool.false_and Bool.and_false Bool.or_false Bool.false_or Bool.or_true Bool.true_or eq_self implies_true decide_true decide_false
section
variable {P : Program} [Glob P] {Q : Exit -> ASt -> Prop} {s : ASt} {k : ASt -> Prop}
section asteps
variable {dd : Option Nat} {d : Nat} {ty : TypeId} {pos : String} {af : Array Edge} {g : Option (Nat × Bool)}
theorem bB3 {x:Operand}:bS P ⟨dd,.move x,ty,pos,af,g⟩ k s=cL P (bA P ⟨dd,.move x,ty,pos,af,g⟩ s) dd k s:=rfl
theorem bB4 {x:Operand}:bS P ⟨dd,.assign x,ty,pos,af,g⟩ k s=cL P (bA P ⟨dd,.assign x,ty,pos,af,g⟩ s) dd k s:=rfl
theorem bB5 {c x y:Operand}:bS P ⟨dd,.pick c x y,ty,pos,af,g⟩ k s=cL P (bA P ⟨dd,.pick c x y,ty,pos,af,g⟩ s) dd k s:=rfl
theorem bB6 {t:TypeId}:bS P ⟨dd,.alloc t,ty,pos,af,g⟩ k s=cL P (bA P ⟨dd,.alloc t,ty,pos,af,g⟩ s) dd k s:=rfl
theorem bB7 {t:TypeId} {x:Operand}:bS P ⟨dd,.box t x,ty,pos,af,g⟩ k s=cL P (bA P ⟨dd,.box t x,ty,pos,af,g⟩ s) dd k s:=rfl
theorem bB8 {t:TypeId} {ps:Array (Nat×Operand)}:bS P ⟨dd,.build t ps,ty,pos,af,g⟩ k s=cL P (bA P ⟨dd,.build t ps,ty,pos,af,g⟩ s) dd k s:=rfl
theorem bB9 {t:TypeId} {l:Nat} {ps:Array (Nat×Operand)}:bS P ⟨dd,.buildSlice t l ps,ty,pos,af,g⟩ k s=cL P (bA P ⟨dd,.buildSlice t l ps,ty,pos,af,g⟩ s) dd k s:=rfl
theorem bCa {t:TypeId} {x:Operand}:bS P ⟨dd,.load t x,ty,pos,af,g⟩ k s=cL P (bA P ⟨dd,.load t x,ty,pos,af,g⟩ s) dd k s:=rfl
theorem bCb {t:TypeId} {x y:Operand}:bS P ⟨dd,.store t x y,ty,pos,af,g⟩ k s=cL P (bA P ⟨dd,.store t x y,ty,pos,af,g⟩ s) dd k s:=rfl
theorem bCc {x:Operand}:bS P ⟨dd,.nilCheck x,ty,pos,af,g⟩ k s=cL P (bA P ⟨dd,.nilCheck x,ty,pos,af,g⟩ s) dd k s:=rfl
theorem bCd {u:UnOp} {t:TypeId} {x:Operand}:bS P ⟨dd,.unOp u t x,ty,pos,af,g⟩ k s=cL P (bA P ⟨dd,.unOp u t x,ty,pos,af,g⟩ s) dd k s:=rfl
theorem bCe {t:TypeId} {x:Operand} {i:Nat}:bS P ⟨dd,.fieldAddr t x i,ty,pos,af,g⟩ k s=cL P (bA P ⟨dd,.fieldAddr t x i,ty,pos,af,g⟩ s) dd k s:=rfl
theorem bCf {t:TypeId} {x:Operand} {i:Nat}:bS P ⟨dd,.field t x i,ty,pos,af,g⟩ k s=cL P (bA P ⟨dd,.field t x i,ty,pos,af,g⟩ s) dd k s:=rfl
theorem bCg {t:TypeId} {x y:Operand}:bS P ⟨dd,.indexAddr t x y,ty,pos,af,g⟩ k s=cL P (bA P ⟨dd,.indexAddr t x y,ty,pos,af,g⟩ s) dd k s:=rfl
theorem bCh {t:TypeId} {x y:Operand}:bS P ⟨dd,.index t x y,ty,pos,af,g⟩ k s=cL P (bA P ⟨dd,.index t x y,ty,pos,af,g⟩ s) dd k s:=rfl
theorem bCi {t:TypeId} {x:Operand} {l h:Option Operand}:bS P ⟨dd,.slice t x l h none,ty,pos,af,g⟩ k s=cL P (bA P ⟨dd,.slice t x l h none,ty,pos,af,g⟩ s) dd k s:=by
 cases l<;>cases h<;>rfl
theorem bCj {x:Operand} {i:Nat}:bS P ⟨dd,.extract x i,ty,pos,af,g⟩ k s=cL P (bA P ⟨dd,.extract x i,ty,pos,af,g⟩ s) dd k s:=rfl
theorem bCk {fn:Fn} {a c:Array Operand}:bS P ⟨dd,.makeFunc fn a c,ty,pos,af,g⟩ k s=cL P (bA P ⟨dd,.makeFunc fn a c,ty,pos,af,g⟩ s) dd k s:=rfl
theorem bCl {t:TypeId} {x:Operand}:bS P ⟨dd,.makeMap t (some x),ty,pos,af,g⟩ k s=cL P (bA P ⟨dd,.makeMap t (some x),ty,pos,af,g⟩ s) dd k s:=rfl
theorem bCm {t:TypeId} {x:Operand}:bS P ⟨dd,.makeInterface t x,ty,pos,af,g⟩ k s=cL P (bA P ⟨dd,.makeInterface t x,ty,pos,af,g⟩ s) dd k s:=rfl
theorem bCn {x:Operand} {xs:Array Operand} {ts:Array TypeId}:bS P ⟨dd,.call ⟨.value x,xs,ts⟩,ty,pos,af,g⟩ k s=cL P (bA P ⟨dd,.call ⟨.value x,xs,ts⟩,ty,pos,af,g⟩ s) dd k s:=rfl
theorem bCo {xs:Array Operand} {ts:Array TypeId}:bS P ⟨dd,.call ⟨.builtin .len,xs,ts⟩,ty,pos,af,g⟩ k s=cL P (bA P ⟨dd,.call ⟨.builtin .len,xs,ts⟩,ty,pos,af,g⟩ s) dd k s:=rfl
theorem bCp {xs:Array Operand} {ts:Array TypeId}:bS P ⟨dd,.call ⟨.builtin .min,xs,ts⟩,ty,pos,af,g⟩ k s=cL P (bA P ⟨dd,.call ⟨.builtin .min,xs,ts⟩,ty,pos,af,g⟩ s) dd k s:=rfl
theorem bCq {xs:Array Operand} {ts:Array TypeId}:bS P ⟨dd,.call ⟨.builtin .max,xs,ts⟩,ty,pos,af,g⟩ k s=cL P (bA P ⟨dd,.call ⟨.builtin .max,xs,ts⟩,ty,pos,af,g⟩ s) dd k s:=rfl
theorem bCr {xs:Array Operand} {ts:Array TypeId}:bS P ⟨dd,.call ⟨.builtin .cap,xs,ts⟩,ty,pos,af,g⟩ k s=cL P (bA P ⟨dd,.call ⟨.builtin .cap,xs,ts⟩,ty,pos,af,g⟩ s) dd k s:=rfl
theorem bCs {t yt:TypeId} {x y:Operand}:bS P ⟨dd,.binOp .add t x y yt,ty,pos,af,g⟩ k s=cL P (bA P ⟨dd,.binOp .add t x y yt,ty,pos,af,g⟩ s) dd k s:=rfl
theorem bCt {t yt:TypeId} {x y:Operand}:bS P ⟨dd,.binOp .sub t x y yt,ty,pos,af,g⟩ k s=cL P (bA P ⟨dd,.binOp .sub t x y yt,ty,pos,af,g⟩ s) dd k s:=rfl
theorem bCu {t yt:TypeId} {x y:Operand}:bS P ⟨dd,.binOp .mul t x y yt,ty,pos,af,g⟩ k s=cL P (bA P ⟨dd,.binOp .mul t x y yt,ty,pos,af,g⟩ s) dd k s:=rfl
theorem bCv {t yt:TypeId} {x y:Operand}:bS P ⟨dd,.binOp .quo t x y yt,ty,pos,af,g⟩ k s=cL P (bA P ⟨dd,.binOp .quo t x y yt,ty,pos,af,g⟩ s) dd k s:=rfl
theorem bCw {t yt:TypeId} {x y:Operand}:bS P ⟨dd,.binOp .rem t x y yt,ty,pos,af,g⟩ k s=cL P (bA P ⟨dd,.binOp .rem t x y yt,ty,pos,af,g⟩ s) dd k s:=rfl
theorem bCx {t yt:TypeId} {x y:Operand}:bS P ⟨dd,.binOp .and t x y yt,ty,pos,af,g⟩ k s=cL P (bA P ⟨dd,.binOp .and t x y yt,ty,pos,af,g⟩ s) dd k s:=rfl
theorem bCy {t yt:TypeId} {x y:Operand}:bS P ⟨dd,.binOp .or t x y yt,ty,pos,af,g⟩ k s=cL P (bA P ⟨dd,.binOp .or t x y yt,ty,pos,af,g⟩ s) dd k s:=rfl
theorem bCz {t yt:TypeId} {x y:Operand}:bS P ⟨dd,.binOp .xor t x y yt,ty,pos,af,g⟩ k s=cL P (bA P ⟨dd,.binOp .xor t x y yt,ty,pos,af,g⟩ s) dd k s:=rfl
theorem bC0 {t yt:TypeId} {x y:Operand}:bS P ⟨dd,.binOp .shl t x y yt,ty,pos,af,g⟩ k s=cL P (bA P ⟨dd,.binOp .shl t x y yt,ty,pos,af,g⟩ s) dd k s:=rfl
theorem bC1 {t yt:TypeId} {x y:Operand}:bS P ⟨dd,.binOp .shr t x y yt,ty,pos,af,g⟩ k s=cL P (bA P ⟨dd,.binOp .shr t x y yt,ty,pos,af,g⟩ s) dd k s:=rfl
theorem bC2 {t yt:TypeId} {x y:Operand}:bS P ⟨dd,.binOp .andNot t x y yt,ty,pos,af,g⟩ k s=cL P (bA P ⟨dd,.binOp .andNot t x y yt,ty,pos,af,g⟩ s) dd k s:=rfl
theorem bC3 {t yt:TypeId} {x y:Operand}:bS P ⟨dd,.binOp .eql t x y yt,ty,pos,af,g⟩ k s=zY (mI P t y (ev s.t x)) P (bA P ⟨dd,.binOp .eql t x y yt,ty,pos,af,g⟩ s) dd k s:=rfl
theorem bC4 {r:Res}:zY false P r dd k s=cL P r dd k s:=rfl
theorem bC5 {r:Res} {d:Nat}:zY true P r (some d) k s=(d<s.n/\Y4 fun b=>k (s.put d (bl b))):=rfl
theorem bC6 {t:TypeId} {y:Operand}:mI P t y none=false:=rfl
theorem bC7 {t:TypeId} {y:Operand} {v:Value}:mI P t y (some (.sc v))=false:=rfl
theorem bC8 {t:TypeId} {y:Operand} {v:List AV}:mI P t y (some (.agg v))=false:=rfl
theorem bC9 {t:TypeId} {y:Operand} {L lo n:Nat}:mI P t y (some (.ref L lo n))=false:=rfl
theorem bDa {t:TypeId} {y:Operand} {L lo n:Nat}:mI P t y (some (.ptr L lo n))=false:=rfl
theorem bDb {t:TypeId} {y:Operand} {l:Bool} {xs:List AV} {i o:Nat}:mI P t y (some (.iptr l xs i o))=false:=rfl
theorem bDc {t:TypeId} {y:Operand} {f:FuncId} {v:List AV}:mI P t y (some (.clo f v))=false:=rfl
theorem bDd {t:TypeId} {y:Operand} {L:Nat}:mI P t y (some (.mp L))=false:=rfl
theorem bDe {t:TypeId} {y:Operand} {l f:Bool} {x:AV} {xs:List AV}:mI P t y (some (.list l f (x::xs)))=false:=rfl
theorem bDf {t:TypeId} {l f:Bool}:mI P t (.const (.slice none 0 0)) (some (.list l f []))=decide (aP P t=1):=by
 unfold mI
 rw[decide_eq_decide]
 exact⟨fun h=>h.2,fun h=>⟨rfl,h⟩⟩
theorem nbI {k:Bool->Prop} (h: ∀b,k b):Y4 k:=h
theorem bDh {t yt:TypeId} {x y:Operand}:bS P ⟨dd,.binOp .lss t x y yt,ty,pos,af,g⟩ k s=cL P (bA P ⟨dd,.binOp .lss t x y yt,ty,pos,af,g⟩ s) dd k s:=rfl
theorem bDi {t yt:TypeId} {x y:Operand}:bS P ⟨dd,.binOp .leq t x y yt,ty,pos,af,g⟩ k s=cL P (bA P ⟨dd,.binOp .leq t x y yt,ty,pos,af,g⟩ s) dd k s:=rfl
theorem bDj {t yt:TypeId} {x y:Operand}:bS P ⟨dd,.binOp .gtr t x y yt,ty,pos,af,g⟩ k s=cL P (bA P ⟨dd,.binOp .gtr t x y yt,ty,pos,af,g⟩ s) dd k s:=rfl
theorem bDk {t yt:TypeId} {x y:Operand}:bS P ⟨dd,.binOp .geq t x y yt,ty,pos,af,g⟩ k s=cL P (bA P ⟨dd,.binOp .geq t x y yt,ty,pos,af,g⟩ s) dd k s:=rfl
def kV (r:Option St) (k:ASt->Prop) (z:Prop):Prop:=match r with
 |some r=>r.need/\k r.st
 |none=>z
theorem bDl {n:Bool} {st:ASt} {z:Prop}:kV (some ⟨n,st⟩) k z=(n/\k st):=rfl
theorem bDm {z:Prop}:kV none k z=z:=rfl
def M2 (v:Option AV) (d:Nat) (s:ASt):Option St:=match v with
 |some v=>some ⟨decide (d<s.n),s.put d v⟩
 |none=>none
theorem bDn {v:AV}:M2 (some v) d s=some ⟨decide (d<s.n),s.put d v⟩:=rfl
theorem bDo:M2 none d s=none:=rfl
def M3 (b:Bool) (d:Nat) (s:ASt):Option St:=match b with
 |true=>some ⟨decide (d<s.n),s.put d (bl false)⟩
 |false=>none
theorem bDp:M3 true d s=some ⟨decide (d<s.n),s.put d (bl false)⟩:=rfl
theorem bDq:M3 false d s=none:=rfl
theorem bDr {a b:TypeId} {x:Operand}:bS P ⟨some d,.convert a b x,ty,pos,af,g⟩ k s=cL P (bA P ⟨some d,.convert a b x,ty,pos,af,g⟩ s) (some d) k s:=by
 simp only[bS,mH,pQ];rfl
theorem bDs {t yt:TypeId} {x y:Operand}:bS P ⟨some d,.binOp .neq t x y yt,ty,pos,af,g⟩ k s=kV (M3 (oP P t (ev s.t x) (ev s.t y)) d s) k (cL P (bA P ⟨some d,.binOp .neq t x y yt,ty,pos,af,g⟩ s) (some d) k s):=by
 simp only[bS,mH,pQ,kV,M3];cases oP P t (ev s.t x) (ev s.t y)<;>rfl
theorem bDt {x y:Operand} {t t':TypeId}:bS P ⟨none,.call ⟨.builtin .delete,#[x,y],#[t,t']⟩,ty,pos,af,g⟩ k s=kV (zW P t s (ev s.t x) (ev s.t y)) k (cL P (bA P ⟨none,.call ⟨.builtin .delete,#[x,y],#[t,t']⟩,ty,pos,af,g⟩ s) none k s):=by
 simp only[bS,mH,pQ,kV];rfl
theorem bDu {t:TypeId}:bS P ⟨some d,.makeMap t none,ty,pos,af,g⟩ k s=(decide (d<s.n)=true/\k (s.renew d d d xF (.mp d))):=rfl
theorem bDv {t:TypeId} {x y:Operand} {b:Bool}:bS P ⟨some d,.lookup t x y b,ty,pos,af,g⟩ k s=kV (zV P t b d s (ev s.t x) (ev s.t y)) k (cL P (bA P ⟨some d,.lookup t x y b,ty,pos,af,g⟩ s) (some d) k s):=by
 simp only[bS,mH,pQ,kV];rfl
theorem bDw {t:TypeId} {x y z:Operand}:bS P ⟨none,.mapUpdate t x y z,ty,pos,af,g⟩ k s=kV (xJ P t s (ev s.t x) (ev s.t y) (ev s.t z)) k (cL P (bA P ⟨none,.mapUpdate t x y z,ty,pos,af,g⟩ s) none k s):=by
 simp only[bS,mH,pQ,kV];rfl
theorem bDx {t:TypeId} {b:Bool} {L:Nat} {v:Value}:zV P t b d s (some (.mp L)) (some (.sc v))=xH P t b d v s (lk s.o L):=rfl
theorem bDy {t:TypeId} {b:Bool} {L:Nat} {cs:List AV}:zV P t b d s (some (.mp L)) (some (.agg cs))=J2 P t b d L s (fJ (.agg cs)):=rfl
theorem bDz {a b:Value}:fJ (.agg [.sc a,.sc b])=some (.agg #[a,b]):=rfl
theorem bD0 {a b c:Value}:fJ (.agg [.sc a,.sc b,.sc c])=some (.agg #[a,b,c]):=rfl
theorem bD1 {t:TypeId} {b:Bool} {L:Nat} {v:Value}:J2 P t b d L s (some v)=xH P t b d v s (lk s.o L):=rfl
def xX (z:Option AV) (ok:Bool) (m:Option (Option (Nat×AV))):Option AV:=match z,m with
 |some z,some none=>some (if ok=true then .tup [z,bl false]else z)
 |some _,some (some (_,v))=>some (if ok=true then .tup [v,bl true]else v)
 |_,_=>none
theorem bD2 {z:AV} {ok:Bool}:xX (some z) ok (some none)=some (if ok=true then .tup [z,bl false]else z):=rfl
theorem bD3 {z v:AV} {ok:Bool} {i:Nat}:xX (some z) ok (some (some (i,v)))=some (if ok=true then .tup [v,bl true]else v):=rfl
theorem bD4 {t:TypeId} {b:Bool} {v:Value} {ar fz pin:Bool} {es kd:Nat} {xs:List AV}:xH P t b d v s (some ⟨ar,fz,pin,es,xs,kd⟩)=if gF P t v=true/\kd=1/\es=0 then M2 (xX (qQ P t) b (cI v xs 0)) d s else none:=by
 simp only[xH,M2]
 have e:zP P t v b xs=xX (qQ P t) b (cI v xs 0):=by
  unfold zP xX
  cases qQ P t with
  |none=>rfl
  |some z=>cases cI v xs 0 with
   |none=>rfl
   |some q=>cases q<;>rfl
 rw[e]
 cases xX (qQ P t) b (cI v xs 0)<;>rfl
def vR (r:Option ASt):Option St:=match r with
 |some r=>some ⟨true,r⟩
 |none=>none
theorem bD5 {r:ASt}:vR (some r)=some ⟨true,r⟩:=rfl
def mpR (P:Program) [Glob P] (t:TypeId) (L:Nat) (v:Value) (r:Option (ASt×AV)):Option ASt:=match r with
 |some (s1,v1)=>match lk s1.o L with
  |some x=>if gF P t v=true/\x.kd=1/\x.fz=false/\v1.pure=true/\x.es=0/\x.arr=true then match fC v v1 x.xs with
   |some ys=>if ys.length<=dD then some {s1 with o:=bR s1.o L {x with xs:=ys}} else none
   |none=>none
   else none
  |none=>none
 |none=>none
def mpQ (P:Program) [Glob P] (t:TypeId) (L:Nat) (v:Value) (s1:ASt) (v1:AV) (x:Option AObj):Option ASt:=match x with
 |some x=>if gF P t v=true/\x.kd=1/\x.fz=false/\v1.pure=true/\x.es=0/\x.arr=true then match fC v v1 x.xs with
  |some ys=>if ys.length<=dD then some {s1 with o:=bR s1.o L {x with xs:=ys}} else none
  |none=>none
  else none
 |none=>none
def mdP (L:Nat) (s1:ASt) (x:AObj) (ys:Option (List AV)):Option ASt:=match ys with
 |some ys=>some {s1 with o:=bR s1.o L {x with xs:=ys}}
 |none=>none
def B1 (L:Nat) (s1:ASt) (x:AObj) (ys:Option (List AV)):Option ASt:=match ys with
 |some ys=>if ys.length<=dD then some {s1 with o:=bR s1.o L {x with xs:=ys}} else none
 |none=>none
theorem bD6 {t:TypeId} {L:Nat} {v:Value} {b:AV}:xJ P t s (some (.mp L)) (some (.sc v)) (some b)=vR (oN P t L v b s (lk s.o L)):=by
 simp only[xJ,xI,fJ,qI,vR]
 cases oN P t L v b s (lk s.o L)<;>rfl
theorem bD7 {t:TypeId} {L:Nat} {cs:List AV} {b:AV}:xJ P t s (some (.mp L)) (some (.agg cs)) (some b)=xI P t s L b (fJ (.agg cs)):=rfl
theorem bD8 {t:TypeId} {L:Nat} {v:Value} {b:AV}:xI P t s L b (some v)=vR (oN P t L v b s (lk s.o L)):=by
 simp only[xI,vR]
 cases oN P t L v b s (lk s.o L)<;>rfl
theorem bD9 {t:TypeId} {L:Nat} {v:Value}:zW P t s (some (.mp L)) (some (.sc v))=vR (vJ P t L v s (lk s.o L)):=by
 simp only[zW,X7,fJ,qI,vR]
 cases vJ P t L v s (lk s.o L)<;>rfl
theorem bEa {t:TypeId} {L:Nat} {v:Value} {pin:Bool} {xs:List AV}:vJ P t L v s (some ⟨true,false,pin,0,xs,1⟩)=if gF P t v=true then mdP L s ⟨true,false,pin,0,xs,1⟩ (vH v xs)else none:=by
 simp only[vJ,true_and,and_true,mdP]
 cases vH v xs<;>rfl
theorem bEb {L:Nat} {x:AObj} {ys:List AV}:mdP L s x (some ys)=some {s with o:=bR s.o L {x with xs:=ys}}:=rfl
theorem bEc {t:TypeId} {L:Nat} {v:Value} {b:AV} {fz pin:Bool} {es kd:Nat} {xs:List AV}:oN P t L v b s (some ⟨true,fz,pin,es,xs,kd⟩)=mpR P t L v (share s b):=by
 simp only[oN,I7,mpR]
 cases share s b with
 |none=>rfl
 |some q=>rfl
theorem bEd {t:TypeId} {L:Nat} {v:Value} {b:AV} {pin:Bool} {xs:List AV}:oN P t L v b s (some ⟨false,false,pin,0,xs,1⟩)=if gF P t v=true then B1 L s ⟨false,false,pin,0,xs,1⟩ (fC v b xs)else none:=by
 by_cases h:gF P t v=true
 ·simp only[oN,zQ,B1,h,and_self,if_true]
  cases fC v b xs<;>rfl
 ·simp[oN,zQ,h]
theorem bEe {t:TypeId} {L:Nat} {v:Value} {s1:ASt} {v1:AV}:mpR P t L v (some (s1,v1))=mpQ P t L v s1 v1 (lk s1.o L):=rfl
theorem bEf {t:TypeId} {L:Nat} {v:Value} {s1:ASt} {v1:AV} {pin:Bool} {xs:List AV}:mpQ P t L v s1 v1 (some ⟨true,false,pin,0,xs,1⟩)=if gF P t v=true/\v1.pure=true then B1 L s1 ⟨true,false,pin,0,xs,1⟩ (fC v v1 xs)else none:=by
 simp only[mpQ,B1,true_and,and_true]
theorem bEg {L:Nat} {s1:ASt} {x:AObj} {ys:List AV}:B1 L s1 x (some ys)=if ys.length<=dD then some {s1 with o:=bR s1.o L {x with xs:=ys}} else none:=rfl
theorem bEh {t:TypeId} {x:Operand} {q:(ASt->Prop)->Prop} (h:J5 P t d s (ev s.t x)=some q):bS P ⟨some d,.range t x,ty,pos,af,g⟩ k s=q k:=by
 simp only[bS,mH,h]
theorem bEi {x:Operand} {q:(ASt->Prop)->Prop} (h:uA s d true (ev s.t x)=some q):bS P ⟨some d,.next x false,ty,pos,af,g⟩ k s=q k:=by
 simp only[bS,mH,h]
theorem bEj {x:Operand} {q:(ASt->Prop)->Prop} (h:uA s d false (ev s.t x)=some q):bS P ⟨some d,.entry x,ty,pos,af,g⟩ k s=q k:=by
 simp only[bS,mH,h]
theorem bEk:xF=⟨true,false,false,0,[],1⟩:=rfl
def mkS (P:Program) [Glob P] (d:Nat) (s:ASt) (l c:Int) (e es b:Nat) (z:Option AV):Option St:=match z with
 |some z=>if z.pure=true/\z.cells.length=es then some ⟨decide (d<s.n/\0<=l/\l<=c/\(b:Int)*c<=281474976710656/\c<=140737488355328),s.fresh d (dF es (List.replicate l.toNat z)) (.ref d 0 l.toNat)⟩else none
 |none=>none
def mkT (P:Program) [Glob P] (d:Nat) (s:ASt) (l c:Int):Option (TypeId×Nat×Nat)->Option St
 |some (e,es,b)=>mkS P d s l c e es b (aL P e)
 |none=>none
theorem bEm {l c:Int} {e es b:Nat}:mkT P d s l c (some (e,es,b))=mkS P d s l c e es b (aL P e):=rfl
theorem bEn {l c:Int} {e es b:Nat} {z:AV}:mkS P d s l c e es b (some z)=if z.pure=true/\z.cells.length=es then some ⟨decide (d<s.n/\0<=l/\l<=c/\(b:Int)*c<=281474976710656/\c<=140737488355328),s.fresh d (dF es (List.replicate l.toNat z)) (.ref d 0 l.toNat)⟩else none:=rfl
theorem bEo {x:Operand} {t:TypeId}:bS P ⟨none,.call ⟨.builtin .clear,#[x],#[t]⟩,ty,pos,af,g⟩ k s=kV (xK P t s (ev s.t x)) k (cL P (bA P ⟨none,.call ⟨.builtin .clear,#[x],#[t]⟩,ty,pos,af,g⟩ s) none k s):=by
 simp only[bS,mH,pQ,kV];rfl
def M4 (s:ASt) (L lo n es:Nat):Option AV->Option AObj->Option St
 |some z,some x=>if x.arr=true/\x.fz=false/\x.kd≠1/\z.pure=true/\z.cells.length=es then
  some ⟨decide (x.es=es/\lo+n<=x.xs.length),{s with o:=bR s.o L {x with xs:=splice x.xs (List.replicate n z) lo}}⟩else none
 |_,_=>none
def clT (P:Program) [Glob P] (s:ASt) (L lo n:Nat):Option (TypeId×Nat×Nat)->Option St
 |some (e,es,_)=>M4 s L lo n es (aL P e) (lk s.o L)
 |none=>none
theorem bEp {x y:Operand} {st xt:TypeId}:bS P ⟨some d,.call ⟨.builtin .append,#[x,y],#[st,xt]⟩,ty,pos,af,g⟩ k s=kV (tZ P st xt d s (ev s.t x) (ev s.t y)) k (cL P (bA P ⟨some d,.call ⟨.builtin .append,#[x,y],#[st,xt]⟩,ty,pos,af,g⟩ s) (some d) k s):=by
 simp only[bS,mH,pQ,kV];rfl
theorem bEq {t:TypeId} {x l h m:Operand}:bS P ⟨some d,.slice t x (some l) (some h) (some m),ty,pos,af,g⟩ k s=kV (J3 P t d s (ev s.t x) (ev s.t l) (ev s.t h) (ev s.t m)) k (cL P (bA P ⟨some d,.slice t x (some l) (some h) (some m),ty,pos,af,g⟩ s) (some d) k s):=by
 simp only[bS,mH,pQ,kV];rfl
def slF (d:Nat) (s:ASt) (lent:Bool) (xs:List AV) (h m:Int):Option (TypeId×Nat×Nat)->Option St
 |some (_,es,_)=>some ⟨decide (d<s.n/\h=xs.length/\m=xs.length/\ ∀y∈xs,y.cells.length=es),s.put d (.list lent true xs)⟩
 |none=>none
theorem bEs {lent:Bool} {xs:List AV} {h m:Int} {e:TypeId} {es b:Nat}:slF d s lent xs h m (some (e,es,b))=some ⟨decide (d<s.n/\h=xs.length/\m=xs.length/\ ∀y∈xs,y.cells.length=es),s.put d (.list lent true xs)⟩:=rfl
theorem bEt {st xt:TypeId} {l f:Bool} {xs:List AV} {b:Option AV}:tZ P st xt d s (some (.list l f xs)) b=none:=rfl
theorem bEu {st xt:TypeId} {L lo n:Nat} {b:Option AV}:tZ P st xt d s (some (.ref L lo n)) b=none:=rfl
theorem bEv {st xt:TypeId} {v:Value} {b:Option AV}:tZ P st xt d s (some (.sc v)) b=none:=rfl
theorem bEw {st xt:TypeId} {L lo n c:Nat} {v:Value}:tZ P st xt d s (some (.rc L lo n c)) (some (.sc v))=none:=rfl
def apC (d:Nat) (s:ASt) (L lo n c:Nat):Option (TypeId×Nat×Nat)->Bool->Option (List AV)->Option AObj->Option St
 |some (_,es,_),true,some ys,some x=>if x.arr=true/\x.fz=false/\x.kd≠1 then
  some ⟨decide (d<s.n/\(∀y∈ys,y.cells.length=es)/\x.es=es/\n+ys.length<=x.xs.length/\lo=0/\n+ys.length<=c),{s with o:=bR s.o L {x with xs:=splice x.xs ys n}}.put d (.rc L 0 (n+ys.length) c)⟩else none
 |_,_,_,_=>none
theorem bEx {st xt:TypeId} {L lo n c L' lo' n' c':Nat}:tZ P st xt d s (some (.rc L lo n c)) (some (.rc L' lo' n' c'))=apC d s L lo n c (cE P st) (fU P xt) (mC s.o (.rc L' lo' n' c')) (lk s.o L):=rfl
theorem bEy {L lo n c e es bt:Nat} {ys:List AV} {x:AObj}:apC d s L lo n c (some (e,es,bt)) true (some ys) (some x)=if x.arr=true/\x.fz=false/\x.kd≠1 then
 some ⟨decide (d<s.n/\(∀y∈ys,y.cells.length=es)/\x.es=es/\n+ys.length<=x.xs.length/\lo=0/\n+ys.length<=c),{s with o:=bR s.o L {x with xs:=splice x.xs ys n}}.put d (.rc L 0 (n+ys.length) c)⟩else none:=rfl
theorem bEz {t:TypeId} {L lo n:Nat}:xK P t s (some (.ref L lo n))=qR P t s (some (.ref L lo n)):=rfl
def clC (n:Nat) (z:Option St):Option AObj->Option St
 |some x=>if n<=x.xs.length then z else none
 |none=>none
theorem bE0 {t:TypeId} {L lo n c:Nat}:xK P t s (some (.rc L lo n c))=clC (lo+n) (qR P t s (some (.ref L lo n))) (lk s.o L):=rfl
theorem aIk {n:Nat} {z:Option St} {x:AObj} (h:n<=x.xs.length):clC n z (some x)=z:=if_pos h
def s3 (d:Nat) (s:ASt) (b c:Nat) (l h m:Int):Option (TypeId×Nat×Nat)->Option St
 |some _=>some ⟨decide (d<s.n/\0<=l/\l<=h/\h<=m/\(b:Int)+m<=c),s.put d .dead⟩
 |none=>none
theorem bE1 {t:TypeId} {L b n c:Nat} {k1 k2 k3:IntKind} {l h m:Int}:J3 P t d s (some (.rc L b n c)) (some (.sc (.int k1 l))) (some (.sc (.int k2 h))) (some (.sc (.int k3 m)))=s3 d s b c l h m (cE P t):=rfl
theorem bE2 {b c:Nat} {l h m:Int} {q:TypeId×Nat×Nat}:s3 d s b c l h m (some q)=some ⟨decide (d<s.n/\0<=l/\l<=h/\h<=m/\(b:Int)+m<=c),s.put d .dead⟩:=rfl
theorem bE3 {t:TypeId} {L lo n:Nat}:qR P t s (some (.ref L lo n))=clT P s L lo n (cE P t):=by
 simp only[qR]
 cases cE P t with
 |none=>rfl
 |some q=>obtain⟨e,es,b⟩:=q;simp only[clT,M4];cases aL P e<;>cases lk s.o L<;>rfl
theorem bE4 {L lo n:Nat} {e es b:Nat}:clT P s L lo n (some (e,es,b))=M4 s L lo n es (aL P e) (lk s.o L):=rfl
theorem bE5 {L lo n es:Nat} {z:AV} {x:AObj}:M4 s L lo n es (some z) (some x)=if x.arr=true/\x.fz=false/\x.kd≠1/\z.pure=true/\z.cells.length=es then
 some ⟨decide (x.es=es/\lo+n<=x.xs.length),{s with o:=bR s.o L {x with xs:=splice x.xs (List.replicate n z) lo}}⟩else none:=rfl
def cpX (d:Nat) (s:ASt) (L lo n:Nat) (es:Nat) (ys:List AV):Option AObj->Option St
 |some x=>if x.arr=true/\x.fz=false/\x.kd≠1 then
  some ⟨decide (d<s.n/\(∀y∈ys,y.cells.length=es)/\x.es=es/\ys.length<=n/\(ys≠ []\/lo=0)/\lo+n<=x.xs.length),{s with o:=bR s.o L {x with xs:=splice x.xs ys lo}}.put d (nt .i64 ys.length)⟩
  else none
 |none=>none
def cpR (d:Nat) (s:ASt) (L lo n:Nat) (t:Option (TypeId×Nat×Nat)) (r:Option (List AV)):Option St:=match t,r with
 |some (_,es,_),some ys=>cpX d s L lo n es ys (lk s.o L)
 |_,_=>none
theorem bE7 {L lo n e es b:Nat} {ys:List AV}:cpR d s L lo n (some (e,es,b)) (some ys)=cpX d s L lo n es ys (lk s.o L):=rfl
attribute [go_sem] aRj
theorem bE8 {t:TypeId} {v:Value} {y:Option AV}:oP P t (some (.sc v)) y=false:=rfl
theorem bE9 {t:TypeId} {l f:Bool} {xs:List AV} {y:Option AV}:oP P t (some (.list l f xs)) y=false:=rfl
theorem bFa {t:TypeId} {cs:List AV} {y:Option AV}:oP P t (some (.agg cs)) y=false:=rfl
theorem bFb {t:TypeId} {L lo n:Nat} {y:Option AV}:oP P t (some (.ref L lo n)) y=false:=rfl
theorem bFc {t:TypeId} {f:FuncId} {cs:List AV} {y:Option AV}:oP P t (some (.clo f cs)) y=false:=rfl
theorem bFd {t:TypeId} {l:Bool} {xs:List AV} {i o:Nat} {y:Option AV}:oP P t (some (.iptr l xs i o)) y=false:=rfl
theorem bFe {t:TypeId} {L i o:Nat} {v:Value}:oP P t (some (.ptr L i o)) (some (.sc v))=false:=rfl
theorem bFf {t:TypeId} {L i o L' i' o':Nat}:oP P t (some (.ptr L i o)) (some (.ptr L' i' o'))=(decide (L=L'/\i=i'/\o=o')&&X6 P t):=rfl
theorem bFg {st xt:TypeId} {l f:Bool} {xs:List AV} {b:AV}:xD P st xt (.list l f xs) b d s=tU P st xt (.list l f xs) b d s:=rfl
theorem bFh {st xt:TypeId} {L lo n:Nat} {b:AV}:xD P st xt (.ref L lo n) b d s=tU P st xt (.ref L lo n) b d s:=rfl
attribute [go_sem] bC4 bC5 bC6 bC7 bC8 bC9 bDa bDb bDc bDd bDe bDf
attribute [go_sem] bEs bEq bEt bEu bEv bEw bEx bEy bEz bE0 aIk bE1 bE2
attribute [go_sem] bB3 bB4 bB5 bB6 bB7 bB8 bB9 bCa bCb bCc bCd bCe bCf bCg bCh bCi bCj bCk bDu bCl bDx bDy bDz bD0 bD1 bD7 bD8 bD9 bEa bEb bEc bEd bD2 bD3 bD4 bD5 bD6 bEe bEf bEg bEk bEm bEn bCm bDv bDw bCn bCo bEp bCp bCq bE7 bCr bEo bE3 bE4 bE5 bDt bCs bCt bCu bCv bCw bCx bCy bCz bC0 bC1 bC2 bC3 bDh bDi bDj bDk bDl bDm bDn bDo bDp bDq bDr bDs bE8 bE9 bFa bFb bFc bFd bFe bFf bFg bFh
end asteps
end
end Go.Ab
namespace Go.Ab
open Go.RowKit
mutual
def AV.okIn (o:aF):AV->Bool
 | .agg cs=>AV.okInL o cs
 | .tup cs=>AV.okInL o cs
 | .clo _ cs=>AV.okInL o cs
 | .ref L _ _=>(lk o L).isSome
 | .ptr L _ _=>(lk o L).isSome
 | .aref L _ _ _ _=>(lk o L).isSome
 | .mp L=>(lk o L).isSome
 | .yl L=>(lk o L).isSome
 | .rc L _ _ _=>(lk o L).isSome
 |_=>true
def AV.okInL (o:aF):List AV->Bool
 | []=>true
 |a::r=>a.okIn o&&AV.okInL o r
end
mutual
theorem aIm {o:aF} {L:Nat}: ∀{a:AV},a.okIn o=true->a.has L=true->(lk o L).isSome=true
 | .agg cs,h,hh=>by simp only[AV.okIn]at h;simp only[AV.has]at hh;exact B2 h hh
 | .tup cs,h,hh=>by simp only[AV.okIn]at h;simp only[AV.has]at hh;exact B2 h hh
 | .clo g cs,h,hh=>by simp only[AV.okIn]at h;simp only[AV.has]at hh;exact B2 h hh
 | .ref L' _ _,h,hh=>by simp[AV.has]at hh;subst hh;simpa[AV.okIn]using h
 | .ptr L' _ _,h,hh=>by simp[AV.has]at hh;subst hh;simpa[AV.okIn]using h
 | .aref L' _ _ _ _,h,hh=>by simp[AV.has]at hh;subst hh;simpa[AV.okIn]using h
 | .mp L',h,hh=>by simp[AV.has]at hh;subst hh;simpa[AV.okIn]using h
 | .yl L',h,hh=>by simp[AV.has]at hh;subst hh;simpa[AV.okIn]using h
 | .rc L' _ _ _,h,hh=>by simp[AV.has]at hh;subst hh;simpa[AV.okIn]using h
 | .lh _,_,hh=>by simp[AV.has]at hh
 | .sc _,_,hh=>by simp[AV.has]at hh
 | .list _ _ _,_,hh=>by simp[AV.has]at hh
 | .iptr _ _ _ _,_,hh=>by simp[AV.has]at hh
 | .own _ _,_,hh=>by simp[AV.has]at hh
 | .dead,_,hh=>by simp[AV.has]at hh
theorem B2 {o:aF} {L:Nat}: ∀{cs:List AV},AV.okInL o cs=true->AV.hasL L cs=true->(lk o L).isSome=true
 | [],_,hh=>by simp[AV.hasL]at hh
 |c::cs,h,hh=>by
  simp only[AV.okInL,Bool.and_eq_true]at h
  simp only[AV.hasL,Bool.or_eq_true]at hh
  rcases hh with hh|hh
  ·exact aIm h.1 hh
  ·exact B2 h.2 hh
end
theorem pX {α:Type}: ∀{l:List (Nat×α)} {i:Nat} {a:α},lk l i=some a->(i,a)∈l
 | [],i,a,h=>by simp[lk]at h
 |(k,b)::l,i,a,h=>by
  simp only[lk]at h
  by_cases hk:k=i
  ·subst hk;rw[if_pos rfl]at h;obtain rfl:=Option.some.inj h;simp
  ·rw[if_neg hk]at h;simp[pX h]
def oR (o:aF) (x:AObj):Bool:=x.arr||AV.okInL o x.xs
theorem Le.sub {s0 s:ASt} (hn:s0.n=s.n) (ht: ∀p∈s0.t,lk s.t p.1=some p.2) (ho: ∀p∈s0.o,lk s.o p.1=some p.2) (hr: ∀p∈s0.t,p.2.okIn s0.o=true) (hb: ∀p∈s0.o,oR s0.o p.2=true):Le s0 s:=by
 intro C F μ a w hs
 have hlo: ∀L x,lk s0.o L=some x->lk s.o L=some x:=fun L x hx=>ho _ (pX hx)
 have hloc: ∀L,(lk s0.o L).isSome=true->aE s0.o μ L=aE s.o μ L:=fun L hL=>by
  obtain⟨x,hx⟩:=Option.isSome_iff_exists.1 hL
  simp[aE,hx,hlo L x hx]
 refine⟨F,μ,⟨hs.sw.facts,hs.sw.sub,hs.sw.lentc,hs.sw.grow,hs.sw.newf,hs.sw.fr,fun L x hx=>?_,fun L x L' x' b c c' hx hx'=>hs.sw.dist L x L' x' b c c' (hlo L x hx) (hlo L' x' hx'),
  fun L x b c hx=>hs.sw.excl L x b c (hlo L x hx),fun L x b c hx=>hs.sw.mine L x b c (hlo L x hx),fun L x x0 h0 hx=>hs.sw.keep L x x0 h0 (hlo L x hx)⟩,hs.defers,by rw[hn];exact hs.n,fun i x hx=>?_⟩
 ·have:=hs.sw.obj L x (hlo L x hx)
  cases hm:μ L with
  |none=>rw[hm]at this;exact this
  |some p=>
   obtain⟨b,cap⟩:=p
   rw[hm]at this
   cases harr:x.arr with
   |true=>
    rcases this with⟨c,e,q1,q2,q3,q4,q5,q6,q7⟩|this|⟨_,k2,_⟩
    rotate_left
    ·exact .inr (.inl this)
    ·rw[harr]at k2;cases k2
    refine .inl ⟨c,e,q1,q2,q3,q4,q5,fun i y j a hy hj=>?_,q7⟩
    obtain⟨v,g1,g2,g3,g4⟩:=q6 i y j a hy hj
    rw[harr]at g3
    exact⟨v,g1,g2,by rw[harr];exact g3,g4⟩
   |false=>
    refine this.congr rfl (FLe.refl _) fun L' hL'=>hloc L' ?_
    have:=hb _ (pX hx)
    simp[oR,harr]at this
    exact B2 this hL'
 ·have hx':=ht _ (pX hx)
  exact(hs.slot i x hx').congr (FLe.refl _) fun L hL=>hloc L (aIm (hr _ (pX hx)) hL)
theorem Le.nil {s:ASt} {i T es:Nat} {l:Bool} (h:lk s.t i=some (.list l true [])):Le {n:=s.n,t:=(i,.ref T 0 0)::gE T (gE T s.t),o:=(T,dF es [])::killO T (killO T (cK s.o T))} s:=by
 intro C F μ a w hs
 have h1:=hs.renew0 (L:=T) (T:=T) (x:=dF es []) (p:=none) rfl rfl rfl (Fr.refl _ _) (by rfl) (fun b c hbc=>by cases hbc)
 refine⟨F,bJ μ T none,h1.sw,h1.defers,h1.n,fun j x hx=>?_⟩
 simp only[lk]at hx
 by_cases hij:i=j
 ·subst hij
  rw[if_pos rfl]at hx
  obtain rfl:=Option.some.inj hx
  have hv:=hs.slot i _ h
  generalize a.tmps.getD i undef=v at hv
  have hl:aE ((T,dF es [])::killO T (killO T (cK s.o T))) (bJ μ T none) T=some ⟨none,es,0,false⟩:=by simp[aE,lk,bJ,dF,bV]
  cases hv with
  |nil=>exact .refNil hl
  |list g1 g2 g3 g4=>
   have:=g4 rfl
   simp at this
   subst this
   exact .refNil hl
 ·rw[if_neg hij]at hx
  exact h1.slot j x hx
theorem Le.move {s:ASt} {i T T' lo n:Nat} {x:AObj} (h:lk s.t i=some (.ref T lo n)) (hk:x.kd≠1) (hx:lk s.o T=some x) (ha:x.arr=true) (hz:x.fz=false):
 Le {n:=s.n,t:=(i,.ref T' lo n)::gE T (gE T' s.t),o:=(T',{x with pin:=false})::killO T (killO T' (cK s.o T))} s:=by
 intro C F μ a w hs
 have ho:=hs.sw.obj T x hx
 have h1:=hs.renew0 (L:=T) (T:=T') (x:= {x with pin:=false}) (p:=μ T) hz rfl ha (Fr.refl _ _) (by
  cases hm:μ T with
  |none=>rw[hm]at ho;exact ho
  |some q=>
   obtain⟨b,cap⟩:=q
   rw[hm]at ho
   obtain⟨c,e,q1,q2,q3,q4,q5,q6,q7⟩:=ObjAt.std ho hk
   refine .inl ⟨c,e,q1,q2,q3,q4,q5,fun i y j a hy hj=>?_,q7⟩
   obtain⟨v,g1,g2,g3,g4⟩:=q6 i y j a hy hj
   rw[ha]at g3
   exact⟨v,g1,g2,by show RV (oF x.arr F) (oL x.arr bU) a v;rw[ha];exact g3,g4⟩) (fun b c hbc=> .inr ⟨x,c,hx,hz,hbc⟩)
 refine⟨F,bJ μ T' (μ T),h1.sw,h1.defers,h1.n,fun j y hy=>?_⟩
 simp only[lk]at hy
 by_cases hij:i=j
 ·subst hij
  rw[if_pos rfl]at hy
  obtain rfl:=Option.some.inj hy
  have hv:=hs.slot i _ h
  generalize a.tmps.getD i undef=v at hv
  have hl0:aE s.o μ T=some ⟨μ T,x.es,x.xs.length,false⟩:=by simp[aE,hx,lE hk]
  have hl:aE ((T',{x with pin:=false})::killO T (killO T' (cK s.o T))) (bJ μ T' (μ T)) T'=some ⟨μ T,x.es,x.xs.length,false⟩:=by simp[aE,lk,bJ,bV,hk]
  rcases aHl hv hl0 with⟨hm,rfl,rfl,q,rfl⟩|⟨b,cap,o,c,hm,rfl,g1,g2,g3,g4⟩
  ·simp only at hm
   exact .refNil (hl.trans (by rw[hm]))
  ·simp only at hm
   exact .ref (hl.trans (by rw[hm])) g1 g2 g3 g4
 ·rw[if_neg hij]at hy
  exact h1.slot j y hy
theorem ACall.bound {P f} [Glob P] {args:List AV} {R:AV->Prop} {i:Nat} {l fl:Bool} {xs:List AV} (h:args[i]?=some (.list l fl xs)) (hc: ∀cargs w,(callFunc f cargs).run P w= .ok (.enter f cargs) w) (k:xs.length<=dD->ACall P f args R):ACall P f args R:=by
 refine⟨hc,fun w F cargs h0 h1 h2 h3=>?_⟩
 have hi:i<cargs.size:=by rw[<-h2];exact(List.getElem?_eq_some_iff.1 h).1
 refine(k ?_).2 w F cargs h0 h1 h2 h3
 have hv:=h3 i _ cargs[i] h (by simp[hi])
 generalize cargs[i]=v at hv
 cases hv with
 |nil=>simp
 |list g1 g2 g3=>exact g3
theorem bFi {o:aF} {v:Value}:(AV.sc v).okIn o=true:=rfl
theorem bFj {o:aF} {l f:Bool} {xs:List AV}:(AV.list l f xs).okIn o=true:=rfl
theorem bFk {o:aF} {l:Bool} {xs:List AV} {i k:Nat}:(AV.iptr l xs i k).okIn o=true:=rfl
theorem bFl {o:aF}:AV.dead.okIn o=true:=rfl
theorem bFm {o:aF} {L a b:Nat}:(AV.ref L a b).okIn o=(lk o L).isSome:=rfl
theorem bFn {o:aF} {L a b:Nat}:(AV.ptr L a b).okIn o=(lk o L).isSome:=rfl
theorem bFo {o:aF} {L:Nat}:(AV.mp L).okIn o=(lk o L).isSome:=rfl
theorem bFp {o:aF} {cs:List AV}:(AV.agg cs).okIn o=AV.okInL o cs:=by simp[AV.okIn]
theorem bFq {o:aF} {g:FuncId} {cs:List AV}:(AV.clo g cs).okIn o=AV.okInL o cs:=by simp[AV.okIn]
theorem bFr {o:aF}:AV.okInL o []=true:=rfl
theorem bFs {o:aF} {a:AV} {r:List AV}:AV.okInL o (a::r)=(a.okIn o&&AV.okInL o r):=by simp[AV.okInL]
theorem bFt {o:aF} {fz pin:Bool} {es kd:Nat} {xs:List AV}:oR o ⟨true,fz,pin,es,xs,kd⟩=true:=rfl
theorem bFu {o:aF} {fz pin:Bool} {es kd:Nat} {xs:List AV}:oR o ⟨false,fz,pin,es,xs,kd⟩=AV.okInL o xs:=rfl
attribute [go_sem] bFi bFj bFk bFl bFm bFn bFp bFo bFq bFr bFs bFt bFu Option.isSome_some
theorem aBi {P:Program} [Glob P] {b:Code} {Q:Exit->ASt->Prop} {s:ASt} (I:Nat->ASt->Prop) (n:Nat) (s0:ASt) (hle:Le s0 s) (h0:I n s0) (hr: ∀n s,I n s->bW P b (qV (Again I n) Q) s):bW P (.loop b) Q s:=⟨I,⟨n,s0,hle,h0⟩,hr⟩
theorem Again.mk {I:Nat->ASt->Prop} {n:Nat} {s:ASt} (n':Nat) (s0:ASt) (hn:n'<n) (hle:Le s0 s) (h:I n' s0):Again I n s:=⟨n',s0,hn,hle,h⟩
end Go.Ab
namespace Go.Ab
open Go.RowKit
end Go.Ab
namespace Go.Ab
open Go.RowKit Go.ChangeShapes Go.WideShapes
section
variable {H : Type} {enc : TypeId × Value -> H} {P : Program} [Glob P] {T : TypeId -> Prop}
theorem bFv {W W':World} {base:Nat} {sp':Nat->Bool} (K:Kids P T) (hz: ∀t e,T t->P.underlying t=some (.slice e)->0<P.cellsOf e) {t:TypeId} (hT:T t) {v:Value} {d:DataW H} {ps:List MemPlace}
 (h:DataW.Trod enc P W base (fun _=>true) true t v d ps) (hsame: ∀p∈ps,W.sameAt W' p) (hs: ∀p∈ps,sp' p.block=true):DataW.Trod enc P W' base sp' true t v d ps:=by
 obtain⟨n,hn⟩:=h
 exact⟨n,DataW.trod_stays K (fun {t e}=>hz t e) (fun h=>by cases h) hT hn hsame hs⟩
theorem aIn {W W':World} {base:Nat} {sp':Nat->Bool} (K:Kids P T) (hz: ∀t e,T t->P.underlying t=some (.slice e)->0<P.cellsOf e):
 ∀{ts:List TypeId} {vs:List Value} {ds:List (DataW H)} {ps:List MemPlace},(∀t∈ts,T t)->DataW.TrodAll enc P W base (fun _=>true) true ts vs ds ps->(∀p∈ps,W.sameAt W' p)->(∀p∈ps,sp' p.block=true)->
  DataW.TrodAll enc P W' base sp' true ts vs ds ps
 | [],[],[],_,_,h,_,_=>h
 |_::_,_::_,_::_,_,hT,⟨p,q,h1,h2,e⟩,hm,hs=>⟨p,q,bFv K hz (hT _ (List.mem_cons.2 (Or.inl rfl))) h1 (fun x hx=>hm x (by rw[e];exact List.mem_append_left _ hx)) (fun x hx=>hs x (by rw[e];exact List.mem_append_left _ hx)),
  aIn K hz (fun t ht=>hT t (List.mem_cons.2 (Or.inr ht))) h2 (fun x hx=>hm x (by rw[e];exact List.mem_append_right _ hx)) (fun x hx=>hs x (by rw[e];exact List.mem_append_right _ hx)),e⟩
theorem bFw {W W':World} (hfr:Fr (fun _=>False) W W') (may:MemPlace->Prop):W.keptBut W' may:=by
 refine⟨hfr.os,hfr.output,fun i hi=>?_⟩
 rw[hfr.block i hi (fun h=>h)]
 split
 ·rename_i h1 h2
  rw[h1]at h2
  cases h2
  exact⟨rfl,rfl,rfl,fun _ _=>rfl⟩
 ·rename_i h1 h2
  rw[h1]at h2
  cases h2
  exact .inr ⟨rfl,rfl⟩
 ·rfl
theorem bFx {W W':World} (hfr:Fr (fun _=>False) W W') {p:MemPlace} (hp:p.block<W.heap.size):W.sameAt W' p:=by
 cases p with
 |cell b off=>exact qG (hfr.block b hp (fun h=>h))
 |map b=>exact hfr.block b hp (fun h=>h)
theorem bUr (K:Kids P T) (hz: ∀t e,T t->P.underlying t=some (.slice e)->0<P.cellsOf e) {f:Func} {s:ChangeSpec} {apart fresh handsOn again:Bool} {W W':World} {args:Array Value} {ds gs:List (DataW H)} {before:List MemPlace} {bt:TypeId}
 (hT: ∀t∈f.params.toList,T t) (hrt:f.resultTypes= #[bt]) (hbt:P.underlying bt=some .bool) (hvars:s.vars= []) (hW:DataW.Whole enc P f.params.toList s.vars apart W args.toList ds gs before)
 (hfn:s.fn H ds= {results:= [.lit (.bool true)],args:=ds}) (hfr:Fr (fun _=>False) W W'):s.post enc P f apart fresh handsOn again W args (.bool true) W':=by
 have hW':=hW
 obtain⟨p,q,hA,hV,rfl,hzf,hn⟩:=hW
 rw[hvars]at hV
 obtain⟨rfl,rfl⟩:=trodVars_none hV
 have hlt: ∀x∈p,x.block<W.heap.size:=DataW.TrodAll.lt hA
 have hargs: ∀sp:Nat->Bool,(∀x∈p,sp x.block=true)->DataW.TrodAll enc P W' 0 sp true f.params.toList args.toList ds p:=fun sp hs=>
  aIn K hz hT hA (fun x hx=>bFx hfr (hlt x hx)) hs
 have hres: ∀(b:Nat) (sp:Nat->Bool) (hd:Bool),DataW.TrodAll enc P W' b sp hd f.resultTypes.toList ((Value.bool true).resultList f.resultTypes.size) [.lit (.bool true)] []:=fun b sp hd=>by
  rw[hrt]
  exact trodAll_cons_mk (shut_bool hbt _) trodAll_mk0
 have hvs: ∀sp:Nat->Bool,DataW.TrodVars enc P W' sp s.vars ([]:List (DataW H)) []:=fun sp=>by rw[hvars];rfl
 simp only[List.append_nil]at hW' hzf hn
 refine⟨ds,[],p,[],p,[],hW',?_,?_,?_,bFw hfr _,fun _=>⟨?_,?_⟩⟩
 ·simp only[List.append_nil,hfn];exact hres _ _ _
 ·simp only[List.append_nil,hfn];exact hargs _ (fun x hx=>by simpa using hlt x hx)
 ·simp only[List.append_nil,hfn];exact hvs _
 ·exact ok_one hrt rfl (okWide_bool_mk hbt _)
 ·refine⟨_,[],[]++p,⟨[]++p,[],trodAll_append (hargs _ (fun _ _=>rfl)) (hres 0 _ _),hvs _,by simp,fun b off hp=>?_,fun ha=>?_⟩,fun x hx _=>by simpa using hx⟩
  ·have hb:b<W.heap.size:=hlt (.cell b off) (by simpa using hp)
   have:W'.frozen? ⟨b,off,none⟩=W.frozen? ⟨b,off,none⟩:=by simp only[World.frozen?,hfr.block b hb (fun h=>h)]
   rw[this]
   exact hzf b off (by simpa using hp)
  ·simpa using hn ha
end
end Go.Ab
namespace Go.Ab
open Go.RowKit
structure Hide (K T:ASt->Prop):Prop where
 to: ∀s,T s->K s
theorem Hide.go {P:Program} [Glob P] {Q:Exit->ASt->Prop} {K:ASt->Prop} {c:Code} {s:ASt} (h:Hide K (bW P c Q)) (k:bW P c Q s):K s:=h.to s k
theorem jQ {P:Program} [Glob P] {a b:Code} {Q:Exit->ASt->Prop} {s:ASt} (h: ∀K,Hide K (bW P b Q)->bW P a (qV K Q) s):bW P (.seq a b) Q s:=h (Z7 (bW P b Q)) ⟨fun s k=>⟨s,Le.refl s,k⟩⟩
theorem aIo {P:Program} [Glob P] {a b:Code} {Q:Exit->ASt->Prop} {s:ASt} (s1:ASt) (h: ∀K,(∀s',Le s1 s'->K s')->bW P a (qV K Q) s) (hb:bW P b Q s1):bW P (.seq a b) Q s:=h (Z7 (bW P b Q)) (fun _ hl=>⟨s1,hl,hb⟩)
theorem sD {P:Program} [Glob P] {id:Nat} {ops:Array Oper} {b:Code} {Q:Exit->ASt->Prop} {s:ASt} (h:False):bW P (.seq (.region id ops true) b) Q s:=h.elim
def bt (s:ByteArray) (i:Nat):Int:=((s.data.toList.getD i 0).toNat:Int)
theorem bFy (s:ByteArray) (i:Nat):0<=bt s i/\bt s i<=255:=by
 have:=(s.data.toList.getD i 0).toNat_lt
 unfold bt;omega
theorem bFz {P:Program} [Glob P] {t:TypeId} {s:ByteArray} {k:IntKind} {i:Int}:wZ P t (.sc (.string s)) (.sc (.int k i))=if mB P t=true then some ⟨decide (0<=i/\i<s.size),nt .u8 (bt s i.toNat)⟩else none:=aXq
attribute [go_sem] bFz
theorem bF0 (a b:Int):(if b>a then b else a)=max a b:=by
 rw[Int.max_def];split<;>split<;>omega
theorem bF1 {P:Program} [Glob P] {d:Option Nat} {x y:Operand} {ts:Array TypeId} {ty:TypeId} {pos:String} {af g} {ρ:Operand->Option AV} {k k':IntKind} {a b:Int}
 (hx:ρ x=some (.sc (.int k a))) (hy:ρ y=some (.sc (.int k' b))):iE P ⟨d,.call ⟨.builtin .max,#[x,y],ts⟩,ty,pos,af,g⟩ ρ=some ⟨true,.sc (.int k (max a b))⟩:=by
 unfold iE
 rw[if_pos ⟨rfl,by simp[Op.operands,Call.operands,hx,hy,fJ,qI]⟩]
 have e:tM P (execOp (fun z=>rV ((ρ z).bind fJ)) ⟨d,.call ⟨.builtin .max,#[x,y],ts⟩,ty,pos,af,g⟩)=some (.value (.int k (if b>a then b else a))):=by
  simp only[execOp,resolve,Array.map,hx,hy]
  simp[hx,hy,fJ,qI,rV]
  rfl
 rw[e,bF0]
 rfl
def M6 (f:Int->Int->Int) (z:Option Sv):Option AV->Option AV->Option Sv
 |some (.sc (.int k a)),some (.sc (.int _ b))=>some ⟨true,.sc (.int k (f a b))⟩
 |_,_=>z
theorem bF2 {f:Int->Int->Int} {z:Option Sv} {k k':IntKind} {a b:Int}:M6 f z (some (.sc (.int k a))) (some (.sc (.int k' b)))=some ⟨true,.sc (.int k (f a b))⟩:=rfl
theorem bF3 {f:Int->Int->Int} {z:Option Sv} {x y:Option AV} (h: ∀k k' a b,x=some (.sc (.int k a))->y=some (.sc (.int k' b))->z=some ⟨true,.sc (.int k (f a b))⟩):z=M6 f z x y:=by
 unfold M6
 split
 ·exact h _ _ _ _ rfl rfl
 ·rfl
theorem bF4 {P:Program} [Glob P] {d:Nat} {x y:Operand} {ts:Array TypeId} {ty:TypeId} {pos:String} {af g} {s:ASt}:bA P ⟨some d,.call ⟨.builtin .max,#[x,y],ts⟩,ty,pos,af,g⟩ s=
 eJ (M6 max (iE P ⟨some d,.call ⟨.builtin .max,#[x,y],ts⟩,ty,pos,af,g⟩ (dA P s.t)) (dA P s.t x) (dA P s.t y)):=
 aVn.trans (congrArg eJ (bF3 fun k k' a b hx hy=>bF1 hx hy))
attribute [go_sem] bF4 bF2
theorem eE (a b:ByteArray):(a==b)=decide (a=b):=by
 rw[Bool.eq_iff_iff,decide_eq_true_eq]
 constructor
 ·intro h
  obtain⟨a⟩:=a;obtain⟨b⟩:=b
  have h':(a==b)=true:=h
  rw[eq_of_beq h']
 ·rintro rfl
  obtain⟨a⟩:=a
  show(a==a)=true
  simp
def kB (P:Program) [Glob P] (e:TypeId):Option Nat:=(dQ P e).map fun v=>v.cells.size
def aBj (q:Option Nat) (kk es bytes:Nat) (ys xs:List AV) (d:Nat) (s:ASt):Option St:=match q with
 |some n=>some ⟨decide (d<s.n/\n=es/\(∀y∈ys,y.cells.length=es)/\(∀y∈xs,y.cells.length=es)/\bytes≠0/\(2*(xs.length+ys.length)+200)*bytes<=2^48/\(xs= []\/ys≠ [])),s.renew d d d (iL es (xs++ys) kk) (.ref d 0 (xs++ys).length)⟩
 |none=>none
theorem bF5 {n kk es bytes d:Nat} {ys xs:List AV} {s:ASt}:aBj (some n) kk es bytes ys xs d s=some ⟨decide (d<s.n/\n=es/\(∀y∈ys,y.cells.length=es)/\(∀y∈xs,y.cells.length=es)/\bytes≠0/\(2*(xs.length+ys.length)+200)*bytes<=2^48/\(xs= []\/ys≠ [])),s.renew d d d (iL es (xs++ys) kk) (.ref d 0 (xs++ys).length)⟩:=rfl
theorem bF6 {P:Program} [Glob P] {e:TypeId} {es bytes:Nat} {ys xs:List AV} {l:Bool} {d:Nat} {s:ASt}:
 xU (some (e,es,bytes)) true (some ys) (dQ P) (dZ P) (.list l true xs) d s=aBj (kB P e) (dZ P e) es bytes ys xs d s:=by
 simp only[xU,aBj,kB]
 cases dQ P e with
 |none=>rfl
 |some v=>simp
def aBk (q:Option Nat) (x:Option AObj) (L n es bytes kk d:Nat) (ys:List AV) (s:ASt):Option St:=match q with
 |some z=>match x with
  |some x=>if x.arr=true/\x.fz=false then some ⟨decide (d<s.n/\z=es/\(∀y∈ys,y.cells.length=es)/\x.es=es/\bytes≠0/\(2*(n+ys.length)+200)*bytes<=2^48/\n<=x.xs.length),
   s.renew L (if x.pin=true then d else L) d (iL es (cA x.xs 0 n++ys) (if x.kd=kk then kk else 0)) (.ref (if x.pin=true then d else L) 0 (n+ys.length))⟩else none
  |none=>none
 |none=>none
theorem bF7 {z:Nat} {kd kk:Nat} {L n es es' bytes d:Nat} {xs ys:List AV} {pin:Bool} {s:ASt}:aBk (some z) (some ⟨true,false,pin,es',xs,kd⟩) L n es bytes kk d ys s=some ⟨decide (d<s.n/\z=es/\(∀y∈ys,y.cells.length=es)/\es'=es/\bytes≠0/\(2*(n+ys.length)+200)*bytes<=2^48/\n<=xs.length),
 s.renew L (if pin=true then d else L) d (iL es (cA xs 0 n++ys) (if kd=kk then kk else 0)) (.ref (if pin=true then d else L) 0 (n+ys.length))⟩:=rfl
theorem bF8 {P:Program} [Glob P] {e:TypeId} {es bytes:Nat} {ys:List AV} {L n d:Nat} {s:ASt}:
 xU (some (e,es,bytes)) true (some ys) (dQ P) (dZ P) (.ref L 0 n) d s=aBk (kB P e) (lk s.o L) L n es bytes (dZ P e) d ys s:=by
 simp only[xU,aBk,kB]
 cases dQ P e with
 |none=>rfl
 |some v=>
  cases lk s.o L with
  |none=>rfl
  |some x=>simp
theorem bF9 (c:UInt8):(tS c).cells= [tS c]:=rfl
attribute [go_sem] bF5 bF6 bF7 bF8 bF9 List.forall_mem_map
section
variable {P : Program} [Glob P] {Q : Exit -> ASt -> Prop} {s : ASt} {k : ASt -> Prop}
theorem zqd {p:Prop} [Decidable p] {x y:Code} (h1:p->bW P x Q s) (h2: ¬p->bW P y Q s):pW P (some (.sc (.bool (decide p)))) x y Q s:=aTe h1 h2
theorem zqn {p:Prop} [Decidable p] {x y:Code} (h1: ¬p->bW P x Q s) (h2:p->bW P y Q s):pW P (some (.sc (.bool (!decide p)))) x y Q s:=aTf h1 h2
theorem zgd {p:Prop} [Decidable p] {want:Bool} {o:Oper} (h1:p->gK P (.test true want) o k s) (h2: ¬p->gK P (.test false want) o k s):gK P (.test (decide p) want) o k s:=aTr h1 h2
theorem zgn {p:Prop} [Decidable p] {want:Bool} {o:Oper} (h1: ¬p->gK P (.test true want) o k s) (h2:p->gK P (.test false want) o k s):gK P (.test (!decide p) want) o k s:=aTs h1 h2
theorem zdd {p:Prop} [Decidable p] {want:Bool} {o:Oper} (h1:p->fK P (.test true want) o k s) (h2: ¬p->fK P (.test false want) o k s):fK P (.test (decide p) want) o k s:=aT6 h1 h2
theorem zdn {p:Prop} [Decidable p] {want:Bool} {o:Oper} (h1: ¬p->fK P (.test true want) o k s) (h2:p->fK P (.test false want) o k s):fK P (.test (!decide p) want) o k s:=aT7 h1 h2
theorem zqs {b:Bool} {x y:Code} (h1:b=true->bW P x Q s) (h2:b=false->bW P y Q s):pW P (some (.sc (.bool b))) x y Q s:=aTd h1 h2
end
theorem Le.sub4 {s0 s:ASt} (hn:s0.n=s.n) (h:(∀p∈s0.t,lk s.t p.1=some p.2)/\(∀p∈s0.o,lk s.o p.1=some p.2)/\(∀p∈s0.t,p.2.okIn s0.o=true)/\(∀p∈s0.o,oR s0.o p.2=true)):Le s0 s:=Le.sub hn h.1 h.2.1 h.2.2.1 h.2.2.2
end Go.Ab
namespace Go.Ab
open Go.RowKit Go.ChangeShapes Go.WideShapes
theorem bUs {P:Program} [Glob P] {f:FuncId} {as:List AV} (h:ACall P f as (fun r=>r=bl true)) {W:World} {F:Bool->aZ} {cargs:Array Value} (hg:GlF P F) (hF:Fok F W) (hl:as.length=cargs.size)
 (ha: ∀(i:Nat) (a:AV) (v:Value),as[i]?=some a->cargs[i]?=some v->RV F bU a v):Calls P f cargs W fun e W'=>e= .returned (.bool true)/\Fr (fun _=>False) W W':=
 (h.2 W F cargs hg hF hl ha).mono fun e W' ⟨v,r,F',he,hr,hp,hv⟩=>by
  subst hr
  obtain⟨p,hv⟩:=(show ∃p,ResV1 F' W' W.heap.size p v (bl true)from hv)
  obtain⟨_,hv⟩:=(show AV.pure (bl true)=true/\RV F' bU (bl true) v from hv)
  cases hv
  exact⟨he,hp.fr⟩
def noF:Bool->aZ:=fun _ _ _=>none
theorem aIp (w:World):Fok noF w:=⟨fun _ _ _ _ h=>(by cases h),fun _ _ _ h=>(by cases h)⟩
end Go.Ab
namespace Go.Ab
open Go.RowKit
def wF (w:World):Bool->aZ:=fun _ b k=>w.cell? ⟨b,k,none⟩
theorem bUt (w:World):Fok (wF w) w:=⟨fun _ _ _ _ h=>h,fun _ _ _ h=>h⟩
def CellsR (w:World) (cs:List AV) (vs:List Value):Prop:=cs.length=vs.length/\ ∀(j:Nat) (a:AV) (v:Value),cs[j]?=some a->vs[j]?=some v->RV (wF w) bU a v/\one v=true
theorem CellsR.nil {w:World}:CellsR w [] []:=⟨rfl,fun j a v h=>by simp at h⟩
theorem CellsR.one1 {w:World} {a:AV} {v:Value} (h:RV (wF w) bU a v) (ho:one v=true):CellsR w [a] [v]:=⟨rfl,fun j b u hb hu=>by
 cases j with
 |zero=>simp at hb hu;subst hb;subst hu;exact⟨h,ho⟩
 |succ j=>simp at hb⟩
theorem CellsR.append {w:World} {cs cs':List AV} {vs vs':List Value} (h:CellsR w cs vs) (h':CellsR w cs' vs'):CellsR w (cs++cs') (vs++vs'):=by
 refine⟨by simp[h.1,h'.1],fun j a v ha hv=>?_⟩
 by_cases hj:j<cs.length
 ·rw[List.getElem?_append_left hj]at ha
  rw[List.getElem?_append_left (by rw[<-h.1];exact hj)]at hv
  exact h.2 j a v ha hv
 ·rw[List.getElem?_append_right (by omega)]at ha
  rw[List.getElem?_append_right (by rw[<-h.1];omega),<-h.1]at hv
  exact h'.2 _ a v ha hv
section
variable {H : Type} {enc : TypeId × Value -> H} {P : Program} [Glob P] {w : World}
def Came (enc:TypeId×Value->H) (P:Program) [Glob P] (w:World) {α:Type} (n:Nat) (t:TypeId) (en:α->AV) (ok:α->Prop):Prop:=
 ∀cs d ps,DataW.trod enc P w 0 (fun _=>true) true n t cs=some (d,ps)->(∀m∈d.weights P t,m<=reachBytes)-> ∃x,ok x/\CellsR w (en x).cells cs
theorem Came.zero {α:Type} {t:TypeId} {en:α->AV} {ok:α->Prop}:Came enc P w 0 t en ok:=fun cs d ps h=>by simp[DataW.trod]at h
theorem Came.bool {n:Nat} {t:TypeId} (hu:P.underlying t=some .bool):Came enc P w n t (fun b:Bool=> .sc (.bool b)) (fun _=>True):=by
 intro cs d ps h hw
 cases n with
 |zero=>simp[DataW.trod]at h
 |succ n=>
  rw[DataW.trod_step]at h
  unfold DataW.trodStep at h
  rw[hu]at h
  split at h<;>first|(rename_i b _ _;exact⟨_,trivial,CellsR.one1 (.sc rfl) rfl⟩)|simp_all
theorem Came.int {n:Nat} {t:TypeId} {k:IntKind} (hu:P.underlying t=some (.int k)):Came enc P w n t (fun i:Int=> .sc (.int k i)) (fun i=>k.min<=i/\i<=k.max):=by
 intro cs d ps h hw
 cases n with
 |zero=>simp[DataW.trod]at h
 |succ n=>
  rw[DataW.trod_step]at h
  unfold DataW.trodStep at h
  rw[hu]at h
  split at h
  case h_2 k0 k' m hk=>
   obtain rfl:k=k0:=by simpa using hk
   split at h
   ·rename_i hc
    obtain⟨rfl,hc⟩:=hc
    exact⟨m,by simpa[Lit.wf]using hc,CellsR.one1 (.sc rfl) rfl⟩
   ·cases h
  all_goals simp_all
theorem Came.string {n:Nat} {t:TypeId} (hu:P.underlying t=some .string):Came enc P w n t (fun s:ByteArray=> .sc (.string s)) (fun s=>s.size<=reachBytes):=by
 intro cs d ps h hw
 cases n with
 |zero=>simp[DataW.trod]at h
 |succ n=>
  rw[DataW.trod_step]at h
  unfold DataW.trodStep at h
  rw[hu]at h
  split at h
  case h_4 s hk=>
   split at h
   ·obtain⟨rfl,rfl⟩:=Prod.mk.inj (Option.some.inj h)
    exact⟨s,by have:=hw s.data.toList.length (by simp only[DataW.weights,List.mem_singleton]);rw[Array.length_toList]at this;exact this,CellsR.one1 (.sc rfl) rfl⟩
   ·cases h
  all_goals simp_all
theorem aIq {e:TypeId}: ∀{ds:List (DataW H)} {d:DataW H},d∈ds-> ∀m∈d.weights P e,m∈DataW.weightsAll P e ds
 | [],_,h,_,_=>by simp at h
 |d0::ds,d,h,m,hm=>by
  simp only[DataW.weightsAll,List.mem_append]
  rcases List.mem_cons.1 h with rfl|h
  ·exact .inl hm
  ·exact .inr (aIq h m hm)
theorem Came.slice {n:Nat} {t e:TypeId} {α:Type} {en:α->AV} {ok:α->Prop} (hu:P.underlying t=some (.slice e)) (hes:0<P.cellsOf e) (hb:0<P.bytesOf e) (h1:Came enc P w n e en ok):
 Came enc P w (n+1) t (fun l:List α=> .list false false (l.map en)) (fun l=>(∀x∈l,ok x)/\l.length*P.bytesOf e<=reachBytes):=by
 intro cs d ps h hw
 rw[DataW.trod_step]at h
 unfold DataW.trodStep at h
 rw[hu]at h
 split at h
 case h_7=>
  exact⟨[],⟨by simp,by simp⟩,CellsR.one1 .nil rfl⟩
 case h_8 e' a len cap hk=>
  obtain rfl:e=e':=by simpa using hk
  simp only at h
  split at h
  ·rename_i hc
   obtain⟨hc1,hc2,hc3⟩:=hc
   simp only[if_true,Option.map_eq_some_iff,Option.bind_eq_some_iff]at h
   obtain⟨elems,he,rest,hrest,hd⟩:=h
   obtain⟨rfl,rfl⟩:=Prod.mk.inj hd
   have hlen:elems.length=len:=by simpa using mapM_some_length he
   have hrl:rest.length=cap - len:=by simpa using mapM_some_length hrest
   have hel: ∀i,i<len-> ∃x:α,ok x/\ ∃vs:List Value,CellsR w (en x).cells vs/\vs.length=P.cellsOf e/\ ∀j,j<P.cellsOf e->w.cell? ((a.add (i*P.cellsOf e)).add j)=vs[j]?:=by
    intro i hi
    have hy:=mapM_some_get he i i (by simp[hi])
    have hlt:i<elems.length:=by omega
    rw[List.getElem?_eq_getElem hlt]at hy
    simp only[Option.bind_eq_some_iff]at hy
    obtain⟨vs,hv1,hv2⟩:=hy
    obtain⟨_,c2,c3⟩:=World.cells?_some hv1
    obtain⟨x,hx1,hx2⟩:=h1 vs elems[i].1 elems[i].2 hv2 (fun m hm=>hw m (by
     simp only[DataW.weights,hu,List.mem_cons,List.mem_append]
     exact .inr (.inl (aIq (List.mem_map.2 ⟨_,List.getElem_mem hlt,rfl⟩) m hm))))
    exact⟨x,hx1,vs,hx2,c2,c3⟩
   have hwt:(len+(cap - len))*P.bytesOf e<=reachBytes:=by
    have:=hw ((elems.length+rest.length)*P.bytesOf e) (by simp[DataW.weights,hu])
    rw[hlen,hrl]at this;exact this
   have hwl:len*P.bytesOf e<=reachBytes:=Nat.le_trans (Nat.mul_le_mul_right _ (by omega)) hwt
   have hch: ∃l:List α,l.length=len/\ ∀(i:Nat) (x:α),l[i]?=some x->ok x/\ ∃vs:List Value,CellsR w (en x).cells vs/\vs.length=P.cellsOf e/\ ∀j,j<P.cellsOf e->w.cell? ((a.add (i*P.cellsOf e)).add j)=vs[j]?:=by
    clear he hrest hw hd hwt hwl hc2 hlen hrl
    induction len with
    |zero=>exact⟨[],rfl,fun i x hx=>by simp at hx⟩
    |succ m ih=>
     obtain⟨l,g1,g2⟩:=ih (fun i hi=>hel i (by omega))
     obtain⟨x,hx⟩:=hel m (by omega)
     refine⟨l++ [x],by simp[g1],fun i y hy=>?_⟩
     by_cases hi:i<l.length
     ·rw[List.getElem?_append_left hi]at hy;exact g2 i y hy
     ·rw[List.getElem?_append_right (by omega)]at hy
      cases hq:i - l.length with
      |zero=>
       rw[hq]at hy;simp at hy;subst hy
       obtain rfl:i=m:=by omega
       exact hx
      |succ q=>rw[hq]at hy;simp at hy
   obtain⟨l,g1,g2⟩:=hch
   refine⟨l,⟨fun x hx=>?_,by rw[g1];exact hwl⟩,CellsR.one1 ?_ rfl⟩
   ·obtain⟨i,hi⟩:=List.getElem?_of_mem hx
    exact(g2 i x hi).1
   ·by_cases hcap:cap=0
    ·subst hcap
     have hl0:len=0:=by omega
     subst hl0
     obtain rfl:l= []:=List.eq_nil_of_length_eq_zero g1
     exact .nil
    ·have hsp:a.spot=none:=by
      by_cases hl0:len=0
      ·have hr0:0<rest.length:=by omega
       have hy:=mapM_some_get hrest 0 0 (by rw[List.getElem?_range (by omega)])
       rw[List.getElem?_eq_getElem hr0]at hy
       simp only[Option.bind_eq_some_iff]at hy
       obtain⟨vs,hv1,hv2⟩:=hy
       obtain⟨_,c2,c3⟩:=World.cells?_some hv1
       have c0:=c3 0 hes
       rw[List.getElem?_eq_getElem (by omega)]at c0
       simpa[Addr.add,hl0]using World.cell?_spot c0
      ·have h0:0<l.length:=by omega
       obtain⟨_,vs,c1,c2,c3⟩:=g2 0 l[0] (by simp[h0])
       have c0:=c3 0 hes
       rw[List.getElem?_eq_getElem (by omega)]at c0
       simpa[Addr.add]using World.cell?_spot c0
     obtain⟨b,off,spot⟩:=a
     simp only at hsp
     subst hsp
     have hadd: ∀k,(Addr.mk b off none).add k=⟨b,off+k,none⟩:=fun k=>by
      unfold Addr.add;split
      ·rename_i hk;subst hk;rfl
      ·rfl
     have hadd2: ∀k j,((Addr.mk b off none).add k).add j=⟨b,off+k+j,none⟩:=fun k j=>by
      rw[hadd];unfold Addr.add;split
      ·rename_i hk;subst hk;rfl
      ·rfl
     simp only[hadd2]at g2
     have key:= @RV.list (wF w) bU false false (l.map en) b off off cap (P.cellsOf e) (fun i j=>(w.cell? ⟨b,off+i*P.cellsOf e+j,none⟩).getD .nilIface)
      (fun y hy=>by
       obtain⟨x,hx,rfl⟩:=List.mem_map.1 hy
       obtain⟨i,hi⟩:=List.getElem?_of_mem hx
       obtain⟨_,vs,c1,c2,c3⟩:=g2 i x hi
       rw[c1.1,c2])
      (by rw[List.length_map,g1];exact hc2)
      (by
       rw[List.length_map,g1]
       have:len<=len*P.bytesOf e:=Nat.le_mul_of_pos_right _ hb
       have h47:=reachBytes_lt
       unfold dD;omega)
      (fun hf=>by cases hf) (fun _=>rfl)
      (fun i y j c hy hj=>by
       simp only[List.getElem?_map,Option.map_eq_some_iff]at hy
       obtain⟨x,hx,rfl⟩:=hy
       obtain⟨_,vs,c1,c2,c3⟩:=g2 i x hx
       have hjl:j<P.cellsOf e:=by rw[<-c2,<-c1.1];exact(List.getElem?_eq_some_iff.1 hj).1
       show w.cell? _=_
       rw[c3 j hjl,List.getElem?_eq_getElem (by omega)];rfl)
      (fun i y j c hy hj=>by
       simp only[List.getElem?_map,Option.map_eq_some_iff]at hy
       obtain⟨x,hx,rfl⟩:=hy
       obtain⟨_,vs,c1,c2,c3⟩:=g2 i x hx
       have hjl:j<P.cellsOf e:=by rw[<-c2,<-c1.1];exact(List.getElem?_eq_some_iff.1 hj).1
       have hv:vs[j]?=some vs[j]:=List.getElem?_eq_getElem (by omega)
       rw[c3 j hjl,hv]
       exact(c1.2 j c vs[j] hj hv).1)
      (fun i y j c hy hj=>by
       simp only[List.getElem?_map,Option.map_eq_some_iff]at hy
       obtain⟨x,hx,rfl⟩:=hy
       obtain⟨_,vs,c1,c2,c3⟩:=g2 i x hx
       have hjl:j<P.cellsOf e:=by rw[<-c2,<-c1.1];exact(List.getElem?_eq_some_iff.1 hj).1
       have hv:vs[j]?=some vs[j]:=List.getElem?_eq_getElem (by omega)
       rw[c3 j hjl,hv]
       exact(c1.2 j c vs[j] hj hv).2)
     rw[List.length_map,g1]at key
     exact key
  ·cases h
 all_goals simp_all
def CameF (enc:TypeId×Value->H) (P:Program) [Glob P] (w:World) {α:Type} (n N:Nat) (fs:List Field) (off:Nat) (en:α->List AV) (ok:α->Prop):Prop:=
 ∀(cs:List Value) (xs:List (DataW H×List MemPlace)),cs.length=N->fs.mapM (fun f=>DataW.trod enc P w 0 (fun _=>true) true n f.type ((cs.drop f.offset).take (P.cellsOf f.type)))=some xs->(∀m∈DataW.weightsEach P (fs.map (·.type)) (xs.map (·.1)),m<=reachBytes)->
  ∃x,ok x/\CellsR w (en x) (cs.drop off)
theorem CameF.nil {n N:Nat}:CameF enc P w n N [] N (fun _:Unit=> []) (fun _=>True):=by
 intro cs xs hN h hw
 refine⟨(),trivial,?_⟩
 rw[List.drop_of_length_le (by omega)]
 exact CellsR.nil
theorem CameF.cons {n N off:Nat} (k:Nat) {f:Field} {fs:List Field} {α β:Type} {en:α->AV} {ok:α->Prop} {enr:β->List AV} {okr:β->Prop} (ho:f.offset=off) (hk:P.cellsOf f.type=k)
 (h1:Came enc P w n f.type en ok) (h2:CameF enc P w n N fs (off+k) enr okr):CameF enc P w n N (f::fs) off (fun x:α×β=>(en x.1).cells++enr x.2) (fun x=>ok x.1/\okr x.2):=by
 intro cs xs hN h hw
 subst ho;subst hk
 simp only[List.mapM_cons]at h
 cases hy:DataW.trod enc P w 0 (fun _=>true) true n f.type ((cs.drop f.offset).take (P.cellsOf f.type))with
 |none=>simp[hy]at h
 |some y=>
  cases hz:fs.mapM (fun f=>DataW.trod enc P w 0 (fun _=>true) true n f.type ((cs.drop f.offset).take (P.cellsOf f.type)))with
  |none=>simp[hy,hz]at h
  |some ys=>
   simp[hy,hz]at h
   subst h
   simp only[List.map_cons,DataW.weightsEach,List.mem_append]at hw
   obtain⟨x,a1,a2⟩:=h1 _ y.1 y.2 hy (fun m hm=>hw m (.inl hm))
   obtain⟨z,b1,b2⟩:=h2 cs ys hN hz (fun m hm=>hw m (.inr hm))
   refine⟨(x,z),⟨a1,b1⟩,?_⟩
   have e:cs.drop f.offset=(cs.drop f.offset).take (P.cellsOf f.type)++cs.drop (f.offset+P.cellsOf f.type):=by
    rw[<-List.drop_drop,List.take_append_drop]
   rw[e]
   exact a2.append b2
theorem Came.struct {n N:Nat} {t:TypeId} {fs:Array Field} {l:List Field} {α:Type} {en:α->List AV} {ok:α->Prop} (hu:P.underlying t=some (.struct fs)) (hl:fs.toList=l) (hN:P.cellsOf t=N)
 (h1:CameF enc P w n N l 0 en ok):Came enc P w (n+1) t (fun x:α=> .agg (en x)) ok:=by
 intro cs d ps h hw
 rw[DataW.trod_step]at h
 unfold DataW.trodStep at h
 rw[hu]at h
 split at h
 case h_9 cs0 fs' hk=>
  obtain rfl:fs=fs':=by simpa using hk
  split at h
  ·rename_i hc
   simp only[Option.map_eq_some_iff]at h
   obtain⟨xs,hx,hd⟩:=h
   obtain⟨rfl,rfl⟩:=Prod.mk.inj hd
   rw[hl]at hx
   obtain⟨x,a1,a2⟩:=h1 _ xs (by omega) hx (fun m hm=>hw m (by simpa[DataW.weights,hu,hl]using hm))
   exact⟨x,a1,by rw[List.drop_zero]at a2;exact a2⟩
  ·cases h
 all_goals simp_all
theorem Came.map {n:Nat} {t:TypeId} {α β:Type} {en:α->AV} {ok:α->Prop} {en':β->AV} {ok':β->Prop} (h:Came enc P w n t en ok) (g:α->β) (hg: ∀x,ok x->ok' (g x)/\en' (g x)=en x):Came enc P w n t en' ok':=by
 intro cs d ps h1 h2
 obtain⟨x,a1,a2⟩:=h cs d ps h1 h2
 obtain⟨b1,b2⟩:=hg x a1
 exact⟨g x,b1,by rw[b2];exact a2⟩
theorem Came.arg {t:TypeId} {α:Type} {en:α->AV} {ok:α->Prop} {base:Nat} {v:Value} {d:DataW H} {ps:List MemPlace} (h: ∀n,Came enc P w n t en ok) (ht:DataW.Trod enc P w 0 (fun _=>true) true t v d ps)
 (hv:Value.okWide P w .any base t v) (hw: ∀m∈d.weights P t,m<=reachBytes) (hag: ∀x cs,en x= .agg cs->tL P t=true) (hna:tL P t=true-> ∀x,∃cs,en x= .agg cs): ∃x,ok x/\RV (wF w) bU (en x) v:=by
 obtain⟨n,ht⟩:=ht
 obtain⟨x,a1,a2,a3⟩:=h n _ d ps ht hw
 refine⟨x,a1,?_⟩
 unfold Value.okWide at hv
 by_cases hA:tL P t=true
 ·obtain⟨cs,hcs⟩:=hna hA x
  rw[hcs]at a2 a3 ⊢
  have: ∃vs:Array Value,v= .agg vs:=by
   unfold tL at hA
   split at hA<;>split at hv<;>simp_all<;>(obtain⟨vs,rfl,_⟩:=hv;exact⟨vs,rfl⟩)
  obtain⟨vs,rfl⟩:=this
  refine .agg (by simpa[AV.cells,Value.cells]using a2) (fun i a v ha hv=>(a3 i a v (by simpa[AV.cells]using ha) (by simpa[Value.cells]using hv)).1) (fun i v hv=>?_)
  have hl:cs.length=vs.size:=by simpa[AV.cells,Value.cells]using a2
  have hi:i<cs.length:=by rw[hl];exact(Array.getElem?_eq_some_iff.1 hv).1
  exact(a3 i cs[i] v (by simp[AV.cells,hi]) (by simpa[Value.cells]using hv)).2
 ·have hc:(en x).cells= [en x]:=by
   cases he:en x with
   |agg cs=>exact absurd (hag x cs he) hA
   |_=>rfl
  rw[hc]at a2 a3
  have hvc:v.cells.toList= [v]:=by
   unfold Value.cells at a2 ⊢
   split
   ·exfalso
    unfold tL at hA
    split at hv
    ·simp_all
    ·simp_all
    ·unfold Cell.okWide Cell.ok at hv
     split at hv<;>simp_all
   ·rfl
  rw[hvc]at a3
  exact(a3 0 (en x) v rfl rfl).1
end
end Go.Ab
namespace Go.Ab
open Go.RowKit
def mK (live:List Nat):List (Nat×AV)->List (Nat×AV)
 | []=> []
 |p::r=>if live.contains p.1=true then p::mK live r else mK live r
def mL (out:List Nat):aF->aF
 | []=> []
 |p::r=>if out.contains p.1=true then mL out r else p::mL out r
theorem bGa {live:List Nat}:mK live []= []:=rfl
theorem bGb {live:List Nat} {p:Nat×AV} {r:List (Nat×AV)}:mK live (p::r)=if live.contains p.1=true then p::mK live r else mK live r:=rfl
theorem bGc {out:List Nat}:mL out []= []:=rfl
theorem bGd {out:List Nat} {p:Nat×AObj} {r:aF}:mL out (p::r)=if out.contains p.1=true then mL out r else p::mL out r:=rfl
attribute [go_sem] bGa bGb bGc bGd
structure HideA {α:Type} (A:ASt->Prop) (S:α->ASt) (meas:α->Nat) (inv:α->Prop) (x:α):Prop where
 go: ∀s y,Le (S y) s->meas y<meas x->inv y->A s
inductive OweX (p:Prop):Type
 |mk
structure Owe (p:Prop) (x:OweX p):Prop where
 it:p
theorem HideA.next {α:Type} {A:ASt->Prop} {S:α->ASt} {meas:α->Nat} {inv:α->Prop} {x:α} {s:ASt} (h:HideA A S meas inv x) (y:α) (hl:Le (S y) s) (hm:meas y<meas x) (hi:Owe (inv y) .mk):A s:=h.go s y hl hm hi.it
theorem bL {α:Type} {P:Program} [Glob P] {b:Code} {Q:Exit->ASt->Prop} {n:Nat} {t:List (Nat×AV)} {o:aF} (live out:List Nat) (f:α->List (Nat×AV)) (g:α->aF) (meas:α->Nat) (inv:α->Prop) (x0:α)
 (h0:Le ⟨n,f x0++mK live t,g x0++mL out o⟩ ⟨n,t,o⟩) (hi:Owe (inv x0) .mk)
 (hr: ∀x,inv x-> ∀A,HideA A (fun x=>⟨n,f x++mK live t,g x++mL out o⟩) meas inv x->bW P b (qV A Q) ⟨n,f x++mK live t,g x++mL out o⟩):bW P (.loop b) Q ⟨n,t,o⟩:=by
 refine⟨fun m s=> ∃x,m=meas x/\inv x/\s=⟨n,f x++mK live t,g x++mL out o⟩,⟨meas x0,_,h0,x0,rfl,hi.it,rfl⟩,?_⟩
 rintro m s ⟨x,rfl,hx,rfl⟩
 exact hr x hx _ ⟨fun s y hl hm hi=>⟨meas y,_,hm,hl,y,rfl,hi,rfl⟩⟩
end Go.Ab
namespace Go.Ab
open Go.RowKit
def pZ (σ:Nat->Nat) (s:ASt):ASt:= {n:=s.n,t:=s.t.map fun p=>(p.1,p.2.ren σ),o:=iM σ (fun _ b=>b) s.o}
theorem Le.ren {s:ASt} (σ τ:Nat->Nat) (h1: ∀p∈s.o,τ (σ p.1)=p.1) (h2: ∀p∈s.o,p.2.pin=true->σ p.1=p.1):Le (pZ σ s) s:=by
 intro C F μ a w hs
 have h:=hs.sw
 have hlk: ∀{M y},lk (iM σ (fun _ b=>b) s.o) M=some y-> ∃x,M=σ (τ M)/\lk s.o (τ M)=some x/\y= {dI σ x with pin:=x.pin}:=fun {M y} hy=>by
  obtain⟨x,g1,g2,g3⟩:=vF (σ:=σ) (τ:=τ) h1 hy
  exact⟨x,g1,g2,g3⟩
 have htau: ∀{L x},lk s.o L=some x->τ (σ L)=L:=fun {L x} hx=>h1 _ (pX hx)
 have hloc: ∀L,aE s.o μ L≠none->aE (pZ σ s).o (fun M=>μ (τ M)) (σ L)=aE s.o μ L:=fun L hL=>
  W5 (σ:=σ) (τ:=τ) (q:=fun _ b=>b) (μ':=fun M=>μ (τ M)) h1 (fun L x hx=>by show μ (τ (σ L))=μ L;rw[htau hx]) hL
 refine⟨F,fun M=>μ (τ M),⟨h.facts,h.sub,h.lentc,h.grow,h.newf,h.fr,fun M y hy=>?_,fun M y M' y' b c c' hy hy' hm hm'=>?_,fun M y b c hy hm hz=>?_,fun M y b c hy hm=>?_,fun M y y0 h0 hy hp=>?_⟩,hs.defers,hs.n,fun i x hx=>?_⟩
 ·obtain⟨x,g1,g2,rfl⟩:=hlk hy
  exact I3 (h.obj _ x g2) fun L hL=>hloc L hL
 ·obtain⟨x,g1,g2,rfl⟩:=hlk hy
  obtain⟨x',g1',g2',rfl⟩:=hlk hy'
  rw[g1,g1',h.dist _ x _ x' b c c' g2 g2' hm hm']
 ·obtain⟨x,g1,g2,rfl⟩:=hlk hy
  exact h.excl _ x b c g2 hm (by simpa[I1]using hz)
 ·obtain⟨x,g1,g2,rfl⟩:=hlk hy
  exact h.mine _ x b c g2 hm
 ·obtain⟨x,g1,g2,rfl⟩:=hlk hy
  have hp:x.pin=true:=hp
  have e:σ (τ M)=τ M:=h2 _ (pX g2) hp
  have hM:M=τ M:=g1.trans e
  rw[hM]at h0
  have:=h.keep _ x y0 h0 g2 hp
  rw[<-hM]at this
  show μ (τ M)=_/\_
  rw[<-hM]
  exact⟨this.1,by rw[xE];exact this.2.1,by show(dI _ x).arr=_;rw[I0];exact this.2.2⟩
 ·simp only[pZ]at hx
  rw[vE (fun y:AV=>y.ren σ)]at hx
  cases hy:lk s.t i with
  |none=>simp[hy]at hx
  |some y=>
   simp[hy]at hx
   subst hx
   have hv:=hs.slot i y hy
   exact hv.ren fun L hL=>hloc L (hv.has_loc L hL)
def M7 (P:Program) [Glob P] (rs:List ResultVar) (R:AV->aF->Prop):Exit->ASt->Prop
 | .normal,s=> ∃s0 xs,Le s0 s/\iR P s0 rs=some xs/\R (iS xs) s0.o
 | .ret,s=> ∃s0 xs,Le s0 s/\iR P s0 rs=some xs/\R (iS xs) s0.o
 |_,_=>False
theorem dC {P:Program} [Glob P] {f:FuncId} {fn:Func} {c:Code} {args:List AV} {o:aF} {R:AV->aF->Prop} (hf:P.funcs[f]?=some fn) (hc: ∀cargs w,(callFunc f cargs).run P w= .ok (.enter f cargs) w) (hb:fn.body=some c)
 (hn:args.length<=fn.ntmps) (h:bW P c (M7 P fn.results.toList R) (pV fn.ntmps args o)):MCall P f args o R:=by
 refine aHs hf hc hb hn fun C _ F μ a w hm hs=>?_
 refine wpIn_mono (pT c _ _ (.inl rfl) h C F μ a w hm hs) ?_
 rintro e a' w' ⟨F',μ',s',hq,hm',hs'⟩
 cases e with
 |normal=>
  obtain⟨s0,xs,hl,h1,h2⟩:=hq
  obtain⟨F2,μ2,hs2⟩:=hl _ F' μ' a' w' hs'
  exact⟨F2,μ2,s0,⟨xs,h1,h2⟩,hm',hs2⟩
 |ret=>
  obtain⟨s0,xs,hl,h1,h2⟩:=hq
  obtain⟨F2,μ2,hs2⟩:=hl _ F' μ' a' w' hs'
  exact⟨F2,μ2,s0,⟨xs,h1,h2⟩,hm',hs2⟩
 |_=>exact hq.elim
end Go.Ab
namespace Go.Ab
open Go.RowKit
def cO (ps:List (Nat×Nat)) (L:Nat):Nat:=match lk ps L with
 |some M=>M
 |none=>L
theorem bGe {L:Nat}:cO [] L=L:=rfl
theorem bGf {k v L:Nat} {r:List (Nat×Nat)}:cO ((k,v)::r) L=if k=L then v else cO r L:=by
 unfold cO;simp only[lk];by_cases h:k=L
 ·rw[if_pos h,if_pos h]
 ·rw[if_neg h,if_neg h]
theorem aX {P:Program} [Glob P] {s:ASt} {k:ASt->Prop} {g:FuncId} {as:List AV} {d:Nat} (ps qs:List (Nat×Nat)) (B:Nat) (oc:aF) (ac:List AV) {r0:AV} {o0:aF} (hf:Fits (cO ps) (cO qs) B oc s.o) (hac:AV.labsL (dS oc) ac=true) (has:as=ac.map (AV.ren (cO ps)))
 (hc:MCall P g ac oc (fun r o'=>r=r0/\o'=o0)) (hd:d<s.n) (hrest:oO (cO ps) (cO qs) oc o0 s.o=true) (hk:k (mG (cO ps) (cO qs) B oc s d r0 o0)):cL P (.c g as) (some d) k s:=
 aHu (cO ps) (cO qs) B oc ac hf hac has hc hd fun r o' h=>by obtain⟨rfl,rfl⟩:=h;exact⟨hrest,hk⟩
theorem bGg {P:Program} [Glob P] {s:ASt} {k:ASt->Prop} {g:FuncId} {as:List AV} {d:Nat} (ks:List Nat) (ps qs:List (Nat×Nat)) (B:Nat) (oc:aF) (ac:List AV) {r0:AV} {o0:aF} (hf:Fits (cO ps) (cO qs) B oc (killOs ks s.o)) (hac:AV.labsL (dS oc) ac=true) (has:as=ac.map (AV.ren (cO ps)))
 (hc:MCall P g ac oc (fun r o'=>r=r0/\o'=o0)) (hd:d<s.n) (hrest:oO (cO ps) (cO qs) oc o0 (killOs ks s.o)=true) (hk:k (mG (cO ps) (cO qs) B oc {s with o:=killOs ks s.o} d r0 o0)):cL P (.c g as) (some d) k s:=
 ⟨hd,.inr (.inr (.inr ⟨ks,cO ps,cO qs,B,oc,ac,_,hf,hac,has,hc,fun r o' h=>by obtain⟨rfl,rfl⟩:=h;exact⟨hrest,hk⟩⟩))⟩
theorem bGh {o:aF}:killOs [] o=o:=rfl
theorem bGi {T:Nat} {r:List Nat} {o:aF}:killOs (T::r) o=killOs r (killO T o):=rfl
attribute [go_sem] bGh bGi
def vS (q:Nat->Bool):List (Nat×AV)->List (Nat×AV)
 | []=> []
 |p::r=>(p.1,if p.2.labs q=true then p.2 else .dead)::vS q r
theorem aIr (q:Nat->Bool): ∀t:List (Nat×AV),t.map (fun p=>(p.1,if p.2.labs q=true then p.2 else .dead))=vS q t
 | []=>rfl
 |p::r=>by simp only[List.map_cons,vS,aIr q r]
theorem bGj {q:Nat->Bool}:vS q []= []:=rfl
theorem bGk {q:Nat->Bool} {p:Nat×AV} {r:List (Nat×AV)}:vS q (p::r)=(p.1,if p.2.labs q=true then p.2 else .dead)::vS q r:=rfl
def vT (σ:Nat->Nat) (q:Nat->Bool):aF->aF
 | []=> []
 |p::r=>(σ p.1,{dI σ p.2 with pin:=q p.1})::vT σ q r
theorem bGl {σ:Nat->Nat} {q:Nat->Bool}:vT σ q []= []:=rfl
theorem bGm {σ:Nat->Nat} {q:Nat->Bool} {p:Nat×AObj} {r:aF}:vT σ q (p::r)=(σ p.1,{dI σ p.2 with pin:=q p.1})::vT σ q r:=rfl
theorem aIs (σ:Nat->Nat) (q:Nat->Bool): ∀o:aF,iM σ (fun L _=>q L) o=vT σ q o
 | []=>rfl
 |p::r=>by simp only[iM,List.map_cons,vT]at*;rw[<-aIs σ q r];rfl
theorem bGn {σ τ:Nat->Nat} {B:Nat} {oc:aF} {s:ASt} {d:Nat} {r:AV} {o':aF}:mG σ τ B oc s d r o'=
 ⟨s.n,(d,r.ren (fN σ B oc o'))::vS (rZ σ τ oc o') s.t,vT (fN σ B oc o') (fun L=>lM oc o' L&&jM s.o (σ L)) o'++jN σ oc s.o⟩:=by
 unfold mG sA
 rw[aIr,aIs]
theorem bGo {σ:Nat->Nat} {oc:aF}:jN σ oc []= []:=rfl
theorem bGp {σ:Nat->Nat} {oc:aF} {p:Nat×AObj} {r:aF}:jN σ oc (p::r)=if kR σ oc p.1=true then jN σ oc r else p::jN σ oc r:=by
 unfold jN;rw[List.filter_cons];cases kR σ oc p.1<;>simp
theorem bGq {σ:Nat->Nat} {M:Nat}:kR σ [] M=false:=rfl
theorem bGr {σ:Nat->Nat} {p:Nat×AObj} {oc:aF} {M:Nat}:kR σ (p::oc) M=(decide (σ p.1=M)||kR σ oc M):=by
 unfold kR;rw[List.any_cons];rfl
theorem bGs {L:Nat}:dS [] L=false:=rfl
theorem bGt {p:Nat×AObj} {o:aF} {L:Nat}:dS (p::o) L=(decide (p.1=L)||dS o L):=by
 unfold dS;obtain⟨k,x⟩:=p;simp only[lk];by_cases h:k=L
 ·simp[h]
 ·simp[h]
theorem bGu {L:Nat}:jM [] L=false:=rfl
theorem bGv {p:Nat×AObj} {o:aF} {L:Nat}:jM (p::o) L=if p.1=L then p.2.pin else jM o L:=by
 unfold jM;obtain⟨k,x⟩:=p;simp only[lk];by_cases h:k=L
 ·rw[if_pos h,if_pos h]
 ·rw[if_neg h,if_neg h]
theorem bGw {oc o':aF} {L:Nat}:lM oc o' L=(dS oc L&&jM o' L):=rfl
theorem bGx {σ τ:Nat->Nat} {oc o':aF} {M:Nat}:rZ σ τ oc o' M=(!kR σ oc M||lM oc o' (τ M)):=rfl
theorem bGy {σ:Nat->Nat} {B:Nat} {oc o':aF} {L:Nat}:fN σ B oc o' L=if lM oc o' L=true then σ L else L+B:=rfl
theorem bGz {σ τ:Nat->Nat} {oc o' s:aF}:oO σ τ oc o' s=(jN σ oc s).all fun p=>p.2.arr||AV.labsL (rZ σ τ oc o') p.2.xs:=rfl
theorem bG0 {σ:Nat->Nat} {fz pin:Bool} {es kd:Nat} {xs:List AV}:dI σ ⟨true,fz,pin,es,xs,kd⟩=⟨true,fz,pin,es,xs,kd⟩:=rfl
theorem bG1 {σ:Nat->Nat} {fz pin:Bool} {es kd:Nat} {xs:List AV}:dI σ ⟨false,fz,pin,es,xs,kd⟩=⟨false,fz,pin,es,xs.map (AV.ren σ),kd⟩:=rfl
theorem bG2 {σ:Nat->Nat} {x y:AObj}:X3 σ x (some y)=(y.kd=x.kd/\y.arr=x.arr/\y.fz=x.fz/\y.es=x.es/\y.xs=(dI σ x).xs):=rfl
theorem bG3 {B:Nat}:pP B []=true:=rfl
theorem bG4 {B:Nat} {p:Nat×AObj} {o:aF}:pP B (p::o)=(decide (p.1<B)&&pP B o):=rfl
attribute [go_sem] bGe bGf bGj bGk bGl bGm bGn bGo bGp bGq bGr bGs bGt bGu bGv bGw bGx bGy bGz bG0 bG1 bG2 bG3 bG4 AV.ren AV.renL AV.labs AV.labsL List.all_cons List.all_nil List.forall_mem_cons
theorem bG5 {n:Nat} {t:List (Nat×AV)} {o:aF} {L T:Nat} {x:AObj}:ASt.renew0 ⟨n,t,o⟩ L T x=⟨n,gE L (gE T t),(T,x)::killO L (killO T (cK o L))⟩:=rfl
attribute [go_sem] bG5
theorem bG6:dD=140737488355328:=rfl
attribute [go_sem] bG6
theorem bG7 {n:Nat} {as:List AV} {o:aF}:pV n as o=⟨n,(as.zipIdx 0).map fun p=>(p.2,p.1),o⟩:=rfl
theorem Fits.mk' {σ τ:Nat->Nat} {B:Nat} {oc s:aF} (h1:pP B s=true) (h2: ∀p∈oc,τ (σ p.1)=p.1/\p.2.pin=true/\X3 σ p.2 (lk s (σ p.1))/\(p.2.arr||AV.labsL (dS oc) p.2.xs)=true):Fits σ τ B oc s:=⟨h1,h2⟩
theorem cJ {P:Program} [Glob P] {rs:List ResultVar} {R:AV->aF->Prop} {s:ASt} (s0:ASt) (xs:List AV) (hl:Le s0 s) (h1:iR P s0 rs=some xs) (h2:R (iS xs) s0.o):M7 P rs R .ret s:=⟨s0,xs,hl,h1,h2⟩
theorem nS {P:Program} [Glob P] {rs:List ResultVar} {R:AV->aF->Prop} {s:ASt} (s0:ASt) (xs:List AV) (hl:Le s0 s) (h1:iR P s0 rs=some xs) (h2:R (iS xs) s0.o):M7 P rs R .normal s:=⟨s0,xs,hl,h1,h2⟩
theorem Le.renSub {s0 s:ASt} (ps qs:List (Nat×Nat)) (h1: ∀p∈s.o,cO qs (cO ps p.1)=p.1) (h2: ∀p∈s.o,p.2.pin=true->cO ps p.1=p.1) (hl:Le s0 (pZ (cO ps) s)):Le s0 s:=hl.trans (Le.ren _ _ h1 h2)
def vU (σ:Nat->Nat):List (Nat×AV)->List (Nat×AV)
 | []=> []
 |p::r=>(p.1,p.2.ren σ)::vU σ r
theorem bG8 {σ:Nat->Nat}:vU σ []= []:=rfl
theorem bG9 {σ:Nat->Nat} {p:Nat×AV} {r:List (Nat×AV)}:vU σ (p::r)=(p.1,p.2.ren σ)::vU σ r:=rfl
def vV (σ:Nat->Nat):aF->aF
 | []=> []
 |p::r=>(σ p.1,{dI σ p.2 with pin:=p.2.pin})::vV σ r
theorem bHa {σ:Nat->Nat}:vV σ []= []:=rfl
theorem bHb {σ:Nat->Nat} {p:Nat×AObj} {r:aF}:vV σ (p::r)=(σ p.1,{dI σ p.2 with pin:=p.2.pin})::vV σ r:=rfl
theorem bHc {σ:Nat->Nat} {n:Nat} {t:List (Nat×AV)} {o:aF}:pZ σ ⟨n,t,o⟩=⟨n,vU σ t,vV σ o⟩:=by
 have h1: ∀t:List (Nat×AV),t.map (fun p=>(p.1,p.2.ren σ))=vU σ t:=fun t=>by
  induction t with
  |nil=>rfl
  |cons p r ih=>simp only[List.map_cons,vU,ih]
 have h2: ∀o:aF,iM σ (fun _ b=>b) o=vV σ o:=fun o=>by
  induction o with
  |nil=>rfl
  |cons p r ih=>simp only[iM,List.map_cons,vV]at*;rw[ih]
 simp only[pZ,h1,h2]
attribute [go_sem] bG8 bG9 bHa bHb bHc bG7
theorem zHg {P:Program} [Glob P] {Q:Exit->ASt->Prop} {K:ASt->Prop} {c:Code} {s:ASt} (k:bW P c Q s) (h:Hide K (bW P c Q):=by assumption):K s:=Hide.go h k
theorem zAo {a b:Prop} (hb:b) (ha:a:=by omega):a/\b:=⟨ha,hb⟩
theorem zDr {P:Program} [Glob P] {id:Nat} {ops:Array Oper} {Q:Exit->ASt->Prop} {s:ASt} (m:Nat) (hm:P.follows .mixedOrders=true) (h:lP P ops m ops.toList (Q .normal) s) (hok:nP ops m=true:=by decide+kernel):bW P (.region id ops true) Q s:=aHv m hm hok h
theorem zT:(∀i:Decidable True,@decide True i=true)/\(∀i:Decidable False,@decide False i=false)/\((¬False)=True):=⟨fun _=>by simp,fun _=>by simp,by simp⟩
end Go.Ab
