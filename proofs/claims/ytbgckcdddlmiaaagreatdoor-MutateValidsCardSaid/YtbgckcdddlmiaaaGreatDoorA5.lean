import Derived.Test.YtbgckcdddlmiaaaGreatDoorA4
set_option linter.all false
namespace Go.Ab
structure Pre {α:Type} (cf:α->α->Int):Prop where
 tr: ∀x y z,cf x y<=0->cf y z<=0->cf x z<=0
 sw: ∀x y,¬cf x y<0->cf y x<=0
section
variable {α : Type} {cf : α -> α -> Int}
def aBm (cf:α->α->Int) (l:List α) (a b:Nat):Prop:= ∀(i j:Nat) (x y:α),a<=i->i<j->j<b->l[i]?=some x->l[j]?=some y->cf x y<=0
end
end Go.Ab
namespace Go.Ab
open Go.RowKit
theorem vW {β:Type} {P:Program} [Glob P] {s:ASt} {k:ASt->Prop} {g:FuncId} {as:List AV} {d:Nat} (ps qs:List (Nat×Nat)) (B:Nat) (oc:aF) (ac:List AV) {Q:β->Prop} {r0:β->AV} {o0:β->aF} (hf:Fits (cO ps) (cO qs) B oc s.o) (hac:AV.labsL (dS oc) ac=true) (has:as=ac.map (AV.ren (cO ps)))
 (hc:MCall P g ac oc (fun r o'=> ∃y,Q y/\r=r0 y/\o'=o0 y)) (hd:d<s.n) (hrest: ∀y,oO (cO ps) (cO qs) oc (o0 y) s.o=true) (hk: ∀y,Q y->k (mG (cO ps) (cO qs) B oc s d (r0 y) (o0 y))):cL P (.c g as) (some d) k s:=
 aHu (cO ps) (cO qs) B oc ac hf hac has hc hd fun r o' h=>by obtain⟨y,hy,rfl,rfl⟩:=h;exact⟨hrest y,hk y hy⟩
abbrev bB {α:Type} (en:α->AV) (es kd:Nat) (l:List α):AObj:=⟨true,false,true,es,l.map en,kd⟩
theorem bHd {P:Program} [Glob P] {op:BinOp} {t:TypeId} {l f:Bool} {xs:List AV} {b:AV}:nF P op t (.list l f xs) b=none:=by unfold nF;rfl
theorem bHe {P:Program} [Glob P] {t:TypeId} {l f:Bool} {x:AV} {xs:List AV}:qM P .eql t (.list l f (x::xs)) (.const (.slice none 0 0))=if aP P t=1 then some ⟨true,bl false⟩else none:=by
 unfold qM
 simp[tQ,gL]
attribute [go_sem] bHd bHe
theorem ACall.own_nil {P:Program} [Glob P] {f:FuncId} {args:List AV} {es:Nat} {xs:List AV} (h:ACall P f args (fun r=>r= .own es xs\/(xs= []/\r= .list false true []))):ACall P f args (fun r=>r= .own es xs):=by
 refine⟨h.1,fun w F cargs h0 h1 h2 h3=>(h.2 w F cargs h0 h1 h2 h3).mono ?_⟩
 rintro e w' ⟨v,r,F',g1,g2,g3,g4⟩
 rcases g2 with rfl|⟨rfl,rfl⟩
 ·exact⟨v,_,F',g1,rfl,g3,g4⟩
 ·refine⟨v,_,F',g1,rfl,g3,none,rfl,?_⟩
  obtain⟨p,hp,hr⟩:=(show ∃p,ResV1 F' w' w.heap.size p v (.list false true [])from g4)
  generalize hx:([]:List AV)=xs at hr
  cases hr with
  |nil=>exact⟨_,rfl⟩
  | @list _ _ _ _ _ b o o' cap es f q1 q2 q3 q4 q5 q6 q7 q8=>
   subst hx
   have:cap=0:=q4 rfl
   subst this
   exact⟨_,rfl⟩
set_option maxRecDepth 100000 in
theorem kL:(∀live:List Nat,mK live []= [])/\(∀(live:List Nat) (p:Nat×AV) (r:List (Nat×AV)),mK live (p::r)=if live.contains p.1=true then p::mK live r else mK live r)/\(∀out:List Nat,mL out []= [])/\(∀(out:List Nat) (p:Nat×AObj) (r:aF),mL out (p::r)=if out.contains p.1=true then mL out r else p::mL out r)/\
 (∀(a b:Nat) (l:List Nat),(a::l).contains b=(b==a||l.contains b))/\(∀a:Nat,[].contains a=false)/\(∀n:Nat,(n==n)=true)/\(∀b:Bool,(b||false)=b)/\(∀b:Bool,(false||b)=b)/\(∀b:Bool,(b||true)=true)/\(∀b:Bool,(true||b)=true)/\((false=true)=False)/\
 (∀(h:Decidable True) (a b:aF),@ite _ True h a b=a)/\(∀(h:Decidable False) (a b:aF),@ite _ False h a b=b)/\(∀(h:Decidable True) (a b:List (Nat×AV)),@ite _ True h a b=a)/\(∀(h:Decidable False) (a b:List (Nat×AV)),@ite _ False h a b=b)/\
 (∀(p:Nat×AObj) (a b:aF),(p::a)++b=p::(a++b))/\(∀a:aF,[]++a=a)/\(∀a:aF,a++ []=a)/\(∀(p:Nat×AV) (a b:List (Nat×AV)),(p::a)++b=p::(a++b))/\(∀a:List (Nat×AV),[]++a=a)/\ ∀a:List (Nat×AV),a++ []=a:=by
 and_intros<;>intros<;>first|rfl|simp
theorem aA {P:Program} [Glob P] {a b:Code} {Q:Exit->ASt->Prop} {s:ASt} (h: ∀K,Hide K (bW P b Q)->bW P a (qV K Q) s):bW P (.seq a b) Q s:=jQ h
end Go.Ab
