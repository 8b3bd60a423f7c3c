import Derived.Test.YtkbglbcphjmiiaaGreatDoorA4
set_option linter.unusedSimpArgs false
set_option linter.unusedVariables false
namespace Go.Ab
structure Pre {α:Type} (cf:α→α→Int):Prop where
 tr: ∀x y z,cf x y≤0→cf y z≤0→cf x z≤0
 sw: ∀x y,¬cf x y<0→cf y x≤0
section
variable {α : Type} {cf : α → α → Int}
def SrtOn (cf:α→α→Int) (l:List α) (a b:Nat):Prop:= ∀(i j:Nat) (x y:α),a≤i→i<j→j<b→l[i]?=some x→l[j]?=some y→cf x y≤0
structure Keep (l l':List α) (a b:Nat):Prop where
 perm:l'.Perm l
 out: ∀k,k<a∨b≤k→l'[k]?=l[k]?
theorem Keep.refl (l:List α) (a b:Nat):Keep l l a b:=⟨.refl _,fun _ _=>rfl⟩
theorem Keep.trans {l m r:List α} {a b:Nat} (h:Keep l m a b) (k:Keep m r a b):Keep l r a b:=⟨k.perm.trans h.perm,fun i hi=>(k.out i hi).trans (h.out i hi)⟩
theorem Keep.len {l m:List α} {a b:Nat} (h:Keep l m a b):m.length=l.length:=h.perm.length_eq
def swp (l:List α) (i j:Nat):List α:=match l[i]?,l[j]? with
 |some x,some y=>(l.set i y).set j x
 |_,_=>l
theorem swp_len (l:List α) (i j:Nat):(swp l i j).length=l.length:=by unfold swp;split<;>simp
theorem swp_eq {l:List α} {i j:Nat} (hi:i<l.length) (hj:j<l.length):swp l i j=(l.set i l[j]).set j l[i]:=by
 unfold swp;rw[List.getElem?_eq_getElem hi,List.getElem?_eq_getElem hj]
theorem swp_get {l:List α} {i j:Nat} (hi:i<l.length) (hj:j<l.length) (k:Nat):(swp l i j)[k]?=if k=j then l[i]? else if k=i then l[j]? else l[k]?:=by
 rw[swp_eq hi hj,List.getElem?_set,List.getElem?_set,List.length_set,List.getElem?_eq_getElem hi,List.getElem?_eq_getElem hj]
 by_cases h1:k=j
 ·subst h1;simp[hj]
 ·by_cases h2:k=i
  ·subst h2;simp[hi,h1,Ne.symm h1]
  ·simp[h1,h2,Ne.symm h1,Ne.symm h2]
theorem swp_perm (l:List α) (i j:Nat):(swp l i j).Perm l:=by
 unfold swp
 split
 ·rename_i x y hx hy
  obtain⟨hi,rfl⟩:=List.getElem?_eq_some_iff.1 hx
  obtain⟨hj,rfl⟩:=List.getElem?_eq_some_iff.1 hy
  exact List.set_set_perm hi hj
 ·exact .refl _
theorem swp_keep {l:List α} {i j a b:Nat} (hi:a≤i∧i<b) (hj:a≤j∧j<b):Keep l (swp l i j) a b:=by
 refine⟨swp_perm l i j,fun k hk=>?_⟩
 unfold swp
 split
 ·rw[List.getElem?_set,List.getElem?_set]
  rw[if_neg (by omega),if_neg (by omega)]
 ·rfl
structure Sink (cf:α→α→Int) (l:List α) (a i j:Nat):Prop where
 rest: ∀(p q:Nat) (x y:α),a≤p→p<q→q≤i→p≠j→q≠j→l[p]?=some x→l[q]?=some y→cf x y≤0
 up: ∀(q:Nat) (x y:α),j<q→q≤i→l[j]?=some x→l[q]?=some y→cf x y≤0
theorem Sink.start {l:List α} {a i:Nat} (h:SrtOn cf l a i):Sink cf l a i i:=
 ⟨fun p q x y h1 h2 h3 h4 h5 hx hy=>h p q x y h1 h2 (by omega) hx hy,fun q x y h1 h2=>by omega⟩
theorem Sink.step {l:List α} {a i j:Nat} (h:Sink cf l a i (j+1)) (hj:a≤j) (hl:j+1<l.length) (hji:j+1≤i) {x y:α} (hx:l[j+1]?=some x) (hy:l[j]?=some y) (hc:cf x y<0):Sink cf (swp l (j+1) j) a i j:=by
 have g:=swp_get (l:=l) (i:=j+1) (j:=j) hl (by omega)
 refine⟨fun p q u v h1 h2 h3 h4 h5 hu hv=>?_,fun q u v h1 h2 hu hv=>?_⟩
 ·rw[g,if_neg h4]at hu
  rw[g,if_neg h5]at hv
  by_cases e1:p=j+1
  ·rw[if_pos e1]at hu
   subst e1
   rw[if_neg (by omega)]at hv
   exact h.rest j q u v hj (by omega) h3 (by omega) (by omega) hu hv
  ·rw[if_neg e1]at hu
   by_cases e2:q=j+1
   ·rw[if_pos e2]at hv
    exact h.rest p j u v h1 (by omega) (by omega) e1 (by omega) hu hv
   ·rw[if_neg e2]at hv
    exact h.rest p q u v h1 h2 h3 e1 e2 hu hv
 ·rw[g,if_pos rfl,hx]at hu
  cases hu
  rw[g,if_neg (by omega)]at hv
  by_cases e2:q=j+1
  ·rw[if_pos e2,hy]at hv
   cases hv
   omega
  ·rw[if_neg e2]at hv
   exact h.up q x v (by omega) h2 hx hv
theorem Sink.stop (hp:Pre cf) {l:List α} {a i j:Nat} (h:Sink cf l a i j) (hji:j≤i) (hs:j≤a∨ ∀x y,l[j]?=some x→l[j - 1]?=some y→ ¬cf x y<0):SrtOn cf l a (i+1):=by
 intro p q x y h1 h2 h3 hx hy
 by_cases e1:p=j
 ·subst e1;exact h.up q x y h2 (by omega) hx hy
 ·by_cases e2:q=j
  ·subst e2
   rcases hs with hs|hs
   ·omega
   ·have hq:q<l.length:=(List.getElem?_eq_some_iff.1 hy).1
    have hz:l[q - 1]?=some l[q - 1]:=List.getElem?_eq_getElem (by omega)
    have h4:=hp.sw _ _ (hs y _ hy hz)
    by_cases e3:p=q - 1
    ·subst e3;rw[hx]at hz;cases hz;exact h4
    ·exact hp.tr _ _ _ (h.rest p (q - 1) x _ h1 (by omega) (by omega) e1 (by omega) hx hz) h4
  ·exact h.rest p q x y h1 h2 (by omega) e1 e2 hx hy
theorem SrtOn.short {l:List α} {a b:Nat} (h:b≤a+1):SrtOn cf l a b:=fun i j x y h1 h2 h3=>by omega
theorem SrtOn.sub {l:List α} {a b c d:Nat} (h:SrtOn cf l a b) (h1:a≤c) (h2:d≤b):SrtOn cf l c d:=fun i j x y g1 g2 g3=>h i j x y (by omega) g2 (by omega)
theorem Keep.mem {l m:List α} {a b:Nat} (h:Keep l m a b) {x:α}:x∈m↔x∈l:=h.perm.mem_iff
end
end Go.Ab
namespace Go.Ab
open Go.RowKit
theorem stepK_fex {β:Type} {P:Program} {s:ASt} {k:ASt→Prop} {g:FuncId} {as:List AV} {d:Nat} (ps qs:List (Nat×Nat)) (B:Nat) (oc:Objs) (ac:List AV) {Q:β→Prop} {r0:β→AV} {o0:β→Objs} (hf:Fits (mapL ps) (mapL qs) B oc s.o) (hac:AV.labsL (isK oc) ac=true) (has:as=ac.map (AV.ren (mapL ps)))
 (hc:MCall P g ac oc (fun r o'=> ∃y,Q y∧r=r0 y∧o'=o0 y)) (hd:d<s.n) (hrest: ∀y,restOk (mapL ps) (mapL qs) oc (o0 y) s.o=true) (hk: ∀y,Q y→k (useS (mapL ps) (mapL qs) B oc s d (r0 y) (o0 y))):stepK P (.c g as) (some d) k s:=
 stepK_f (mapL ps) (mapL qs) B oc ac hf hac has hc hd fun r o' h=>by obtain⟨y,hy,rfl,rfl⟩:=h;exact⟨hrest y,hk y hy⟩
abbrev rowO {α:Type} (en:α→AV) (es kd:Nat) (l:List α):AObj:=⟨true,false,true,es,l.map en,kd⟩
theorem binA_list {P:Program} {op:BinOp} {t:TypeId} {l f:Bool} {xs:List AV} {b:AV}:binA P op t (.list l f xs) b=none:=by unfold binA;rfl
theorem nilEqA_cons {P:Program} {t:TypeId} {l f:Bool} {x:AV} {xs:List AV}:nilEqA P .eql t (.list l f (x::xs)) (.const (.slice none 0 0))=if tyKd P t=1 then some ⟨true,bl false⟩else none:=by
 unfold nilEqA
 simp[nilK,nonNil]
attribute [go_sem] binA_list nilEqA_cons
theorem mapset_self {α β:Type} {f:α→β} {l:List α} {k:Nat} {a:β} (h:k<l.length):((l.map f).set k a)[k]?=some a:=by
 rw[List.getElem?_set,if_pos rfl,if_pos (by rw[List.length_map];exact h)]
attribute [go_sem] mapset_self
theorem ACall.own_nil {P:Program} {f:FuncId} {args:List AV} {es:Nat} {xs:List AV} (h:ACall P f args (fun r=>r= .own es xs∨(xs= []∧r= .list false true []))):ACall P f args (fun r=>r= .own es xs):=by
 refine⟨h.1,fun w F cargs h1 h2 h3=>(h.2 w F cargs h1 h2 h3).mono ?_⟩
 rintro e w' ⟨v,r,F',g1,g2,g3,g4⟩
 rcases g2 with rfl|⟨rfl,rfl⟩
 ·exact⟨v,_,F',g1,rfl,g3,g4⟩
 ·refine⟨v,_,F',g1,rfl,g3,none,rfl,?_⟩
  obtain⟨p,hp,hr⟩:=(show ∃p,ResV1 F' w' w.heap.size p v (.list false true [])from g4)
  generalize hx:([]:List AV)=xs at hr
  cases hr with
  |nil=>exact⟨_,rfl⟩
  | @list _ _ _ _ _ b o o' cap es f q1 q2 q3 q4 q5 q6 q7 q8=>
   subst hx
   have:cap=0:=q4 rfl
   subst this
   exact⟨_,rfl⟩
theorem kL:(∀live:List Nat,keepT live []= [])∧(∀(live:List Nat) (p:Nat×AV) (r:List (Nat×AV)),keepT live (p::r)=if live.contains p.1=true then p::keepT live r else keepT live r)∧(∀out:List Nat,dropO out []= [])∧(∀(out:List Nat) (p:Nat×AObj) (r:Objs),dropO out (p::r)=if out.contains p.1=true then dropO out r else p::dropO out r)∧
 (∀(a b:Nat) (l:List Nat),(a::l).contains b=(b==a||l.contains b))∧(∀a:Nat,[].contains a=false)∧(∀n:Nat,(n==n)=true)∧(∀b:Bool,(b||false)=b)∧(∀b:Bool,(false||b)=b)∧(∀b:Bool,(b||true)=true)∧(∀b:Bool,(true||b)=true)∧((false=true)=False):=by
 refine⟨fun _=>rfl,fun _ _ _=>rfl,fun _=>rfl,fun _ _ _=>rfl,fun _ _ _=>List.contains_cons,fun _=>rfl,fun _=>?_,?_,?_,?_,?_,?_⟩<;>simp
theorem awK {P:Program} {a b:Code} {Q:Exit→ASt→Prop} {s:ASt} (h: ∀K,Hide K (awp P b Q)→awp P a (thenQ K Q) s):awp P (.seq a b) Q s:=h _ ⟨rfl⟩
end Go.Ab
