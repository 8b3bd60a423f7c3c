import Derived.Test.YtgmibdiofkmmbaaGreatDoorA4
set_option linter.all false
namespace Go.Ab
structure Pre {α:Type} (cf:α->α->Int):Prop where
 tr: ∀x y z,cf x y<=0->cf y z<=0->cf x z<=0
 sw: ∀x y,¬cf x y<0->cf y x<=0
section
variable {α : Type} {cf : α -> α -> Int}
def SrtOn (cf:α->α->Int) (l:List α) (a b:Nat):Prop:= ∀(i j:Nat) (x y:α),a<=i->i<j->j<b->l[i]?=some x->l[j]?=some y->cf x y<=0
structure Keep (l l':List α) (a b:Nat):Prop where
 perm:l'.Perm l
 out: ∀k,k<a\/b<=k->l'[k]?=l[k]?
theorem Keep.refl (l:List α) (a b:Nat):Keep l l a b:=⟨.refl _,fun _ _=>rfl⟩
theorem Keep.trans {l m r:List α} {a b:Nat} (h:Keep l m a b) (k:Keep m r a b):Keep l r a b:=⟨k.perm.trans h.perm,fun i hi=>(k.out i hi).trans (h.out i hi)⟩
theorem Keep.mono {l m:List α} {a b c d:Nat} (h:Keep l m a b) (h1:c<=a) (h2:b<=d):Keep l m c d:=⟨h.perm,fun i hi=>h.out i (by omega)⟩
theorem Keep.len {l m:List α} {a b:Nat} (h:Keep l m a b):m.length=l.length:=h.perm.length_eq
def lR (l:List α) (i j:Nat):List α:=match l[i]?,l[j]? with
 |some x,some y=>(l.set i y).set j x
 |_,_=>l
theorem bOo (l:List α) (i j:Nat):(lR l i j).length=l.length:=by unfold lR;split<;>simp
theorem J3 {l:List α} {i j:Nat} (hi:i<l.length) (hj:j<l.length):lR l i j=(l.set i l[j]).set j l[i]:=by
 unfold lR;rw[List.getElem?_eq_getElem hi,List.getElem?_eq_getElem hj]
theorem U8 {l:List α} {i j:Nat} (hi:i<l.length) (hj:j<l.length) (k:Nat):(lR l i j)[k]?=if k=j then l[i]? else if k=i then l[j]? else l[k]?:=by
 rw[J3 hi hj,List.getElem?_set,List.getElem?_set,List.length_set,List.getElem?_eq_getElem hi,List.getElem?_eq_getElem hj]
 by_cases h1:k=j
 ·subst h1;simp[hj]
 ·by_cases h2:k=i
  ·subst h2;simp[hi,h1,Ne.symm h1]
  ·simp[h1,h2,Ne.symm h1,Ne.symm h2]
theorem U9 (l:List α) (i j:Nat):(lR l i j).Perm l:=by
 unfold lR
 split
 ·rename_i x y hx hy
  obtain⟨hi,rfl⟩:=List.getElem?_eq_some_iff.1 hx
  obtain⟨hj,rfl⟩:=List.getElem?_eq_some_iff.1 hy
  exact List.set_set_perm hi hj
 ·exact .refl _
theorem bOp {l:List α} {i j a b:Nat} (hi:a<=i/\i<b) (hj:a<=j/\j<b):Keep l (lR l i j) a b:=by
 refine⟨U9 l i j,fun k hk=>?_⟩
 unfold lR
 split
 ·rw[List.getElem?_set,List.getElem?_set]
  rw[if_neg (by omega),if_neg (by omega)]
 ·rfl
structure Sink (cf:α->α->Int) (l:List α) (a i j:Nat):Prop where
 rest: ∀(p q:Nat) (x y:α),a<=p->p<q->q<=i->p≠j->q≠j->l[p]?=some x->l[q]?=some y->cf x y<=0
 up: ∀(q:Nat) (x y:α),j<q->q<=i->l[j]?=some x->l[q]?=some y->cf x y<=0
theorem Sink.start {l:List α} {a i:Nat} (h:SrtOn cf l a i):Sink cf l a i i:=
 ⟨fun p q x y h1 h2 h3 h4 h5 hx hy=>h p q x y h1 h2 (by omega) hx hy,fun q x y h1 h2=>by omega⟩
theorem Sink.step {l:List α} {a i j:Nat} (h:Sink cf l a i (j+1)) (hj:a<=j) (hl:j+1<l.length) (hji:j+1<=i) {x y:α} (hx:l[j+1]?=some x) (hy:l[j]?=some y) (hc:cf x y<0):Sink cf (lR l (j+1) j) a i j:=by
 have g:=U8 (l:=l) (i:=j+1) (j:=j) hl (by omega)
 refine⟨fun p q u v h1 h2 h3 h4 h5 hu hv=>?_,fun q u v h1 h2 hu hv=>?_⟩
 ·rw[g,if_neg h4]at hu
  rw[g,if_neg h5]at hv
  by_cases e1:p=j+1
  ·rw[if_pos e1]at hu
   subst e1
   rw[if_neg (by omega)]at hv
   exact h.rest j q u v hj (by omega) h3 (by omega) (by omega) hu hv
  ·rw[if_neg e1]at hu
   by_cases e2:q=j+1
   ·rw[if_pos e2]at hv
    exact h.rest p j u v h1 (by omega) (by omega) e1 (by omega) hu hv
   ·rw[if_neg e2]at hv
    exact h.rest p q u v h1 h2 h3 e1 e2 hu hv
 ·rw[g,if_pos rfl,hx]at hu
  cases hu
  rw[g,if_neg (by omega)]at hv
  by_cases e2:q=j+1
  ·rw[if_pos e2,hy]at hv
   cases hv
   omega
  ·rw[if_neg e2]at hv
   exact h.up q x v (by omega) h2 hx hv
theorem Sink.stop (hp:Pre cf) {l:List α} {a i j:Nat} (h:Sink cf l a i j) (hji:j<=i) (hs:j<=a\/ ∀x y,l[j]?=some x->l[j - 1]?=some y-> ¬cf x y<0):SrtOn cf l a (i+1):=by
 intro p q x y h1 h2 h3 hx hy
 by_cases e1:p=j
 ·subst e1;exact h.up q x y h2 (by omega) hx hy
 ·by_cases e2:q=j
  ·subst e2
   rcases hs with hs|hs
   ·omega
   ·have hq:q<l.length:=(List.getElem?_eq_some_iff.1 hy).1
    have hz:l[q - 1]?=some l[q - 1]:=List.getElem?_eq_getElem (by omega)
    have h4:=hp.sw _ _ (hs y _ hy hz)
    by_cases e3:p=q - 1
    ·subst e3;rw[hx]at hz;cases hz;exact h4
    ·exact hp.tr _ _ _ (h.rest p (q - 1) x _ h1 (by omega) (by omega) e1 (by omega) hx hz) h4
  ·exact h.rest p q x y h1 h2 (by omega) e1 e2 hx hy
theorem SrtOn.short {l:List α} {a b:Nat} (h:b<=a+1):SrtOn cf l a b:=fun i j x y h1 h2 h3=>by omega
theorem SrtOn.sub {l:List α} {a b c d:Nat} (h:SrtOn cf l a b) (h1:a<=c) (h2:d<=b):SrtOn cf l c d:=fun i j x y g1 g2 g3=>h i j x y (by omega) g2 (by omega)
theorem SrtOn.keep {l m:List α} {a b c d:Nat} (h:SrtOn cf l c d) (k:Keep l m a b) (ho:d<=a\/b<=c):SrtOn cf m c d:=fun i j x y g1 g2 g3 hx hy=>by
 rw[k.out i (by omega)]at hx
 rw[k.out j (by omega)]at hy
 exact h i j x y g1 g2 g3 hx hy
theorem Keep.mid {l m:List α} {a b:Nat} (h:Keep l m a b) {k:Nat} {x:α} (h1:a<=k) (h2:k<b) (hx:m[k]?=some x): ∃j,a<=j/\j<b/\l[j]?=some x:=by
 have hlen:=h.len
 have hk:k<m.length:=(List.getElem?_eq_some_iff.1 hx).1
 have e1:m.take a=l.take a:=by
  apply List.ext_getElem?
  intro i
  rw[List.getElem?_take,List.getElem?_take]
  split
  ·exact h.out i (by omega)
  ·rfl
 have e2:m.drop b=l.drop b:=by
  apply List.ext_getElem?
  intro i
  rw[List.getElem?_drop,List.getElem?_drop]
  exact h.out (b+i) (by omega)
 have hab:a<=b:=by omega
 have split3: ∀z:List α,z=z.take a++((z.take b).drop a++z.drop b):=fun z=>by
  rw[<-List.append_assoc,show z.take a=(z.take b).take a by rw[List.take_take];congr 1;omega,List.take_append_drop,List.take_append_drop]
 have hp:=h.perm
 rw[split3 m,split3 l,e1,e2]at hp
 have hp2:=(List.perm_append_right_iff _).1 ((List.perm_append_left_iff _).1 hp)
 have hm:x∈(m.take b).drop a:=by
  refine List.mem_of_getElem? (i:=k - a) ?_
  rw[List.getElem?_drop,List.getElem?_take,if_pos (by omega),show a+(k - a)=k by omega]
  exact hx
 have hm2:=hp2.mem_iff.1 hm
 obtain⟨i,hi⟩:=List.getElem?_of_mem hm2
 rw[List.getElem?_drop,List.getElem?_take]at hi
 split at hi
 ·exact⟨a+i,by omega,by omega,hi⟩
 ·cases hi
theorem Keep.mem {l m:List α} {a b:Nat} (h:Keep l m a b) {x:α}:x∈m↔x∈l:=h.perm.mem_iff
def lS (l:List α) (a b n:Nat):List α:=(List.range n).foldl (fun l i=>lR l (a+i) (b+i)) l
theorem V0 (l:List α) (a b n:Nat):lS l a b (n+1)=lR (lS l a b n) (a+n) (b+n):=by simp[lS,List.range_succ]
theorem aEf (l:List α) (a b n:Nat):(lS l a b n).length=l.length:=by
 induction n with
 |zero=>rfl
 |succ n ih=>rw[V0,bOo,ih]
theorem aEg (l:List α) (a b n:Nat):(lS l a b n).Perm l:=by
 induction n with
 |zero=>exact .refl _
 |succ n ih=>rw[V0];exact(U9 _ _ _).trans ih
theorem V1 {l:List α} {a b:Nat}: ∀{n:Nat},a+n<=b->b+n<=l.length-> ∀k:Nat,
 (lS l a b n)[k]?=if a<=k/\k<a+n then l[k - a+b]? else if b<=k/\k<b+n then l[k - b+a]? else l[k]?
 |0,h1,h2,k=>by
  rw[if_neg (by omega),if_neg (by omega)];rfl
 |n+1,h1,h2,k=>by
  have ih:=fun k=>V1 (l:=l) (a:=a) (b:=b) (n:=n) (by omega) (by omega) k
  rw[V0,U8 (by rw[aEf];omega) (by rw[aEf];omega)]
  by_cases e1:k=b+n
  ·subst e1
   rw[if_pos rfl,ih (a+n),if_neg (by omega),if_neg (by omega),if_neg (by omega),if_pos (by omega)]
   congr 1;omega
  ·rw[if_neg e1]
   by_cases e2:k=a+n
   ·subst e2
    rw[if_pos rfl,ih (b+n),if_neg (by omega),if_neg (by omega),if_pos (by omega)]
    congr 1;omega
   ·rw[if_neg e2,ih k]
    by_cases e3:a<=k/\k<a+n
    ·rw[if_pos e3,if_pos (by omega)]
    ·rw[if_neg e3,if_neg (show ¬(a<=k/\k<a+(n+1)) by omega)]
     by_cases e4:b<=k/\k<b+n
     ·rw[if_pos e4,if_pos (by omega)]
     ·rw[if_neg e4,if_neg (show ¬(b<=k/\k<b+(n+1)) by omega)]
def oB (f:Nat->Option α) (a m b k:Nat):Option α:=if a<=k/\k<a+(b - m)then f (k+(m - a))else if a+(b - m)<=k/\k<b then f (k - (b - m))else f k
structure Rot (l l':List α) (a m b:Nat):Prop where
 perm:l'.Perm l
 get: ∀k,l'[k]?=oB (fun i=>l[i]?) a m b k
theorem Rot.keep {l m':List α} {a m b:Nat} (h:Rot l m' a m b) (h1:a<=m) (h2:m<=b):Keep l m' a b:=
 ⟨h.perm,fun k hk=>by rw[h.get,oB,if_neg (by omega),if_neg (by omega)]⟩
theorem Rot.left (l:List α) (m b:Nat):Rot l l m m b:=⟨.refl _,fun k=>by
 unfold oB
 split
 ·congr 1;omega
 ·split
  ·omega
  ·rfl⟩
theorem Rot.right (l:List α) (a m:Nat):Rot l l a m m:=⟨.refl _,fun k=>by
 unfold oB
 split
 ·omega
 ·split
  ·congr 1;omega
  ·rfl⟩
structure RotS (l l':List α) (a m b i j:Nat):Prop where
 perm:l'.Perm l
 hi:a<=m - i
 hi2:i<=m
 hj:m+j<=b
 hb:b<=l.length
 get: ∀k,oB (fun i=>l'[i]?) (m - i) m (m+j) k=oB (fun i=>l[i]?) a m b k
theorem RotS.start {l:List α} {a m b:Nat} (h1:a<=m) (h2:m<=b) (hb:b<=l.length):RotS l l a m b (m - a) (b - m):=by
 refine⟨.refl _,by omega,by omega,by omega,hb,fun k=>?_⟩
 rw[show m - (m - a)=a by omega,show m+(b - m)=b by omega]
theorem RotS.len {l l':List α} {a m b i j:Nat} (h:RotS l l' a m b i j):l'.length=l.length:=h.perm.length_eq
theorem RotS.gt {l l':List α} {a m b i j:Nat} (h:RotS l l' a m b i j) (hij:j<i):RotS l (lS l' (m - i) m j) a m b (i - j) j:=by
 have:=h.hi;have:=h.hi2;have:=h.hj;have:=h.hb;have hl:=h.len
 have g:=V1 (l:=l') (a:=m - i) (b:=m) (n:=j) (by omega) (by omega)
 refine⟨(aEg _ _ _ _).trans h.perm,by omega,by omega,by omega,h.hb,fun k=>?_⟩
 rw[<-h.get]
 unfold oB
 simp only[g]
 repeat' split
 all_goals first|omega|rfl|(congr 1;omega)
theorem RotS.lt {l l':List α} {a m b i j:Nat} (h:RotS l l' a m b i j) (hij:i<=j):RotS l (lS l' (m - i) (m+j - i) i) a m b i (j - i):=by
 have:=h.hi;have:=h.hi2;have:=h.hj;have:=h.hb;have hl:=h.len
 have g:=V1 (l:=l') (a:=m - i) (b:=m+j - i) (n:=i) (by omega) (by omega)
 refine⟨(aEg _ _ _ _).trans h.perm,by omega,by omega,by omega,h.hb,fun k=>?_⟩
 rw[<-h.get]
 unfold oB
 simp only[g]
 repeat' split
 all_goals first|omega|rfl|(congr 1;omega)
theorem RotS.done {l l':List α} {a m b i:Nat} (h:RotS l l' a m b i i):Rot l (lS l' (m - i) m i) a m b:=by
 have:=h.hi;have:=h.hi2;have:=h.hj;have:=h.hb;have hl:=h.len
 have g:=V1 (l:=l') (a:=m - i) (b:=m) (n:=i) (by omega) (by omega)
 refine⟨(aEg _ _ _ _).trans h.perm,fun k=>?_⟩
 rw[<-h.get]
 unfold oB
 simp only[g]
 repeat' split
 all_goals first|omega|rfl|(congr 1;omega)
theorem Rot.stepR {l l':List α} {a k:Nat} (h:Rot l l' a (a+1) (k+1)) (hk:a<=k) (hl:k+1<l.length):Rot l (lR l' k (k+1)) a (a+1) (k+1+1):=by
 have hlen:=h.perm.length_eq
 refine⟨(U9 _ _ _).trans h.perm,fun q=>?_⟩
 rw[U8 (by omega) (by omega),h.get,h.get,h.get]
 unfold oB
 repeat' split
 all_goals first|omega|rfl|(congr 1;omega)
theorem Rot.stepL {l l':List α} {m k:Nat} (h:Rot l l' (k+1) m (m+1)) (hk:k+1<=m) (hl:m<l.length):Rot l (lR l' (k+1) k) k m (m+1):=by
 have hlen:=h.perm.length_eq
 refine⟨(U9 _ _ _).trans h.perm,fun q=>?_⟩
 rw[U8 (by omega) (by omega),h.get,h.get,h.get]
 unfold oB
 repeat' split
 all_goals first|omega|rfl|(congr 1;omega)
def LeOn (cf:α->α->Int) (l:List α) (a b c d:Nat):Prop:= ∀(p q:Nat) (x y:α),a<=p->p<b->c<=q->q<d->l[p]?=some x->l[q]?=some y->cf x y<=0
theorem Rot.at1 {l l':List α} {s m e k:Nat} (h:Rot l l' s m e) (h1:s<=k) (h2:k<s+(e - m)):l'[k]?=l[k+(m - s)]?:=by
 rw[h.get,oB,if_pos (by omega)]
theorem Rot.at2 {l l':List α} {s m e k:Nat} (h:Rot l l' s m e) (h1:s+(e - m)<=k) (h2:k<e):l'[k]?=l[k - (e - m)]?:=by
 rw[h.get,oB,if_neg (by omega),if_pos (by omega)]
theorem Rot.at3 {l l':List α} {s m e k:Nat} (h:Rot l l' s m e) (hs:s<=m) (he:m<=e) (h1:k<s\/e<=k):l'[k]?=l[k]?:=by
 rw[h.get,oB,if_neg (by omega),if_neg (by omega)]
theorem Rot.sorted {l l':List α} {a s m e b:Nat} (h:Rot l l' s m e) (ha:a<=s) (hs:s<=m) (he:m<=e) (hb:e<=b) (h1:SrtOn cf l a m) (h2:SrtOn cf l m b)
 (c2:LeOn cf l a s m e) (c3:LeOn cf l s m e b):
 SrtOn cf l' a (s+(e - m))/\SrtOn cf l' (s+(e - m)) b:=by
 constructor
 ·intro i j x y g1 g2 g3 hx hy
  by_cases e1:j<s
  ·rw[h.at3 hs he (.inl e1)]at hy
   rw[h.at3 hs he (.inl (by omega))]at hx
   exact h1 i j x y g1 g2 (by omega) hx hy
  ·rw[h.at1 (by omega) g3]at hy
   by_cases e2:i<s
   ·rw[h.at3 hs he (.inl e2)]at hx
    exact c2 i (j+(m - s)) x y g1 e2 (by omega) (by omega) hx hy
   ·rw[h.at1 (by omega) (by omega)]at hx
    exact h2 _ _ x y (by omega) (show i+(m - s)<j+(m - s) by omega) (by omega) hx hy
 ·intro i j x y g1 g2 g3 hx hy
  by_cases e1:e<=i
  ·rw[h.at3 hs he (.inr e1)]at hx
   rw[h.at3 hs he (.inr (by omega))]at hy
   exact h2 i j x y (by omega) g2 g3 hx hy
  ·rw[h.at2 g1 (by omega)]at hx
   by_cases e2:e<=j
   ·rw[h.at3 hs he (.inr e2)]at hy
    exact c3 (i - (e - m)) j x y (by omega) (by omega) e2 g3 hx hy
   ·rw[h.at2 (by omega) (by omega)]at hy
    exact h1 _ _ x y (by omega) (show i - (e - m)<j - (e - m) by omega) (by omega) hx hy
theorem Rot.cross (hp:Pre cf) {l l':List α} {a s m e b:Nat} (h:Rot l l' s m e) (ha:a<=s) (hs:s<=m) (he:m<=e) (hb:e<=b) (h1:SrtOn cf l a m) (h2:SrtOn cf l m b)
 (c1:LeOn cf l m e s m) (c4:LeOn cf l a s e b):LeOn cf l' a (s+(e - m)) (s+(e - m)) b:=by
 intro p q x y g1 g2 g3 g4 hx hy
 by_cases e1:p<s
 ·rw[h.at3 hs he (.inl e1)]at hx
  by_cases e2:e<=q
  ·rw[h.at3 hs he (.inr e2)]at hy
   exact c4 p q x y g1 e1 e2 g4 hx hy
  ·rw[h.at2 g3 (by omega)]at hy
   exact h1 p _ x y g1 (by omega) (by omega) hx hy
 ·rw[h.at1 (by omega) g2]at hx
  by_cases e2:e<=q
  ·rw[h.at3 hs he (.inr e2)]at hy
   exact h2 _ q x y (by omega) (by omega) g4 hx hy
  ·rw[h.at2 g3 (by omega)]at hy
   exact c1 _ _ x y (by omega) (by omega) (by omega) (by omega) hx hy
theorem SrtOn.join {l:List α} {a m b:Nat} (h1:SrtOn cf l a m) (h2:SrtOn cf l m b) (c:LeOn cf l a m m b):SrtOn cf l a b:=by
 intro i j x y g1 g2 g3 hx hy
 by_cases e1:j<m
 ·exact h1 i j x y g1 g2 e1 hx hy
 ·by_cases e2:i<m
  ·exact c i j x y g1 e2 (by omega) g3 hx hy
  ·exact h2 i j x y (by omega) g2 g3 hx hy
theorem LeOn.keep {l m':List α} {a m b:Nat} (c:LeOn cf l a m m b) (k:Keep l m' a m):LeOn cf m' a m m b:=by
 intro p q x y g1 g2 g3 g4 hx hy
 obtain⟨j,j1,j2,hj⟩:=k.mid g1 g2 hx
 rw[k.out q (by omega)]at hy
 exact c j q x y j1 j2 g3 g4 hj hy
theorem LeOn.keep2 {l m':List α} {a m b:Nat} (c:LeOn cf l a m m b) (k:Keep l m' m b):LeOn cf m' a m m b:=by
 intro p q x y g1 g2 g3 g4 hx hy
 obtain⟨j,j1,j2,hj⟩:=k.mid g3 g4 hy
 rw[k.out p (by omega)]at hx
 exact c p j x y g1 g2 j1 j2 hx hj
theorem LeOn.empty1 {l:List α} {a b c d:Nat} (h:b<=a):LeOn cf l a b c d:=fun p q x y h1 h2=>by omega
theorem LeOn.empty2 {l:List α} {a b c d:Nat} (h:d<=c):LeOn cf l a b c d:=fun p q x y _ _ h1 h2=>by omega
theorem LeOn.mono (hp:Pre cf) {l:List α} {a b c d h k:Nat} (h1:SrtOn cf l a b) (h2:SrtOn cf l c d) (hh:a<=h/\h<b) (hk:c<=k/\k<d) {x y:α} (hx:l[h]?=some x) (hy:l[k]?=some y) (hc:cf x y<=0):LeOn cf l a (h+1) k d:=by
 intro p q u v g1 g2 g3 g4 hu hv
 have e1:cf u y<=0:=by
  by_cases e:p=h
  ·subst e;rw[hx]at hu;cases hu;exact hc
  ·exact hp.tr _ _ _ (h1 p h u x g1 (by omega) hh.2 hu hx) hc
 by_cases e:q=k
 ·subst e;rw[hy]at hv;cases hv;exact e1
 ·exact hp.tr _ _ _ e1 (h2 k q y v hk.1 (by omega) g4 hy hv)
theorem LeOn.sub {l:List α} {a b c d a' b' c' d':Nat} (h:LeOn cf l a b c d) (h1:a<=a') (h2:b'<=b) (h3:c<=c') (h4:d'<=d):LeOn cf l a' b' c' d':=fun p q x y g1 g2 g3 g4=>h p q x y (by omega) (by omega) (by omega) (by omega)
theorem Rot.into (hp:Pre cf) {l l':List α} {a s m e b:Nat} (h:Rot l l' s m e) (ha:a<=s) (hs:s<=m) (he:m<=e) (hb:e<=b) (h1:SrtOn cf l a m) (h2:SrtOn cf l m b) (c1:LeOn cf l m e s m)
 (c2:LeOn cf l a s m b) (c3:LeOn cf l s m e b):Keep l l' a b/\SrtOn cf l' a b:=by
 obtain⟨g1,g2⟩:=h.sorted ha hs he hb h1 h2 (c2.sub (Nat.le_refl _) (Nat.le_refl _) (Nat.le_refl _) hb) c3
 exact⟨(h.keep hs he).mono ha hb,g1.join g2 (h.cross hp ha hs he hb h1 h2 c1 (c2.sub (Nat.le_refl _) (Nat.le_refl _) he (Nat.le_refl _)))⟩
structure SymS (cf:α->α->Int) (l:List α) (a m b mid s r:Nat):Prop where
 ha:a<=s
 hs:s<=r
 hr:r<=m
 hr2:r<=mid
 hb:mid+m<=b+s
 low:s=a\/mid+m=b+s\/ ∃x y,l[s - 1]?=some x/\l[mid+m - s]?=some y/\a<s/\mid+m - s<b/\cf x y<=0
 up:r=m\/r=mid\/ ∃x y,l[mid+m - 1 - r]?=some x/\l[r]?=some y/\cf x y<=0
theorem SymS.start {l:List α} {a m b mid:Nat} (h1:a<m) (h2:m<b) (hm:mid=(a+b) / 2):SymS cf l a m b mid (if mid<m then mid+m - b else a) (if mid<m then mid else m):=by
 split
 ·exact⟨by omega,by omega,by omega,by omega,by omega,.inr (.inl (by omega)),.inr (.inl rfl)⟩
 ·exact⟨by omega,by omega,by omega,by omega,by omega,.inl rfl,.inl rfl⟩
theorem SymS.right {l:List α} {a m b mid s r c:Nat} (h:SymS cf l a m b mid s r) (hc:s<=c/\c<r) {x y:α} (hx:l[c]?=some x) (hy:l[mid+m - 1 - c]?=some y) (hq:cf x y<=0):SymS cf l a m b mid (c+1) r:=by
 have:=h.ha;have:=h.hs;have:=h.hr;have:=h.hr2;have:=h.hb
 exact⟨by omega,by omega,by omega,by omega,by omega,.inr (.inr ⟨x,y,by rw[Nat.add_sub_cancel];exact hx,by rw[show mid+m - (c+1)=mid+m - 1 - c by omega];exact hy,by omega,by omega,hq⟩),h.up⟩
theorem SymS.left {l:List α} {a m b mid s r c:Nat} (h:SymS cf l a m b mid s r) (hc:s<=c/\c<r) {x y:α} (hx:l[mid+m - 1 - c]?=some x) (hy:l[c]?=some y) (hq:cf x y<=0):SymS cf l a m b mid s c:=by
 have:=h.ha;have:=h.hs;have:=h.hr;have:=h.hr2;have:=h.hb
 exact⟨by omega,by omega,by omega,by omega,by omega,h.low,.inr (.inr ⟨x,y,hx,hy,hq⟩)⟩
structure Four (cf:α->α->Int) (l l':List α) (a s mid e b:Nat):Prop where
 keep:Keep l l' a b
 r1:SrtOn cf l' a s
 r2:SrtOn cf l' s mid
 r3:SrtOn cf l' mid e
 r4:SrtOn cf l' e b
 le:LeOn cf l' a mid mid b
theorem SymS.done (hp:Pre cf) {l l':List α} {a m b mid s e:Nat} (h:SymS cf l a m b mid s s) (he:e=mid+m - s) (hl:b<=l.length) (h1:SrtOn cf l a m) (h2:SrtOn cf l m b) (hR:Rot l l' s m e):
 Four cf l l' a s mid e b:=by
 have:=h.ha;have:=h.hr;have:=h.hr2;have:=h.hb
 have hmid:s+(e - m)=mid:=by omega
 have c1:LeOn cf l m e s m:=by
  rcases h.up with g|g|⟨x,y,gx,gy,gc⟩
  ·exact .empty2 (by omega)
  ·exact .empty1 (by omega)
  ·by_cases q:m<e
   ·by_cases q2:s<m
    ·have:=LeOn.mono hp h2 h1 (h:=e - 1) (k:=s) (by omega) (by omega) (by rw[show e - 1=mid+m - 1 - s by omega];exact gx) gy gc
     rw[show e - 1+1=e by omega]at this
     exact this
    ·exact .empty2 (by omega)
   ·exact .empty1 (by omega)
 have c4:LeOn cf l a s e b:=by
  rcases h.low with g|g|⟨x,y,gx,gy,g1,g2,gc⟩
  ·exact .empty1 (by omega)
  ·exact .empty2 (by omega)
  ·have:=LeOn.mono hp h1 h2 (h:=s - 1) (k:=e) (by omega) (by omega) gx (by rw[he];exact gy) gc
   rw[show s - 1+1=s by omega]at this
   exact this
 refine⟨(hR.keep (by omega) (by omega)).mono (by omega) (by omega),?_,?_,?_,?_,?_⟩
 ·intro i j x y g1 g2 g3 hx hy
  rw[hR.at3 (by omega) (by omega) (.inl (by omega))]at hx hy
  exact h1 i j x y g1 g2 (by omega) hx hy
 ·intro i j x y g1 g2 g3 hx hy
  rw[hR.at1 (by omega) (by omega)]at hx hy
  exact h2 _ _ x y (by omega) (by omega) (by omega) hx hy
 ·intro i j x y g1 g2 g3 hx hy
  rw[hR.at2 (by omega) (by omega)]at hx hy
  exact h1 _ _ x y (by omega) (by omega) (by omega) hx hy
 ·intro i j x y g1 g2 g3 hx hy
  rw[hR.at3 (by omega) (by omega) (.inr (by omega))]at hx hy
  exact h2 i j x y (by omega) g2 g3 hx hy
 ·have:=hR.cross hp (a:=a) (b:=b) (by omega) (by omega) (by omega) (by omega) h1 h2 c1 c4
  rw[hmid]at this
  exact this
theorem Four.merge {l l1 l2 l3:List α} {a s mid e b:Nat} (h:Four cf l l1 a s mid e b) (ha:a<=mid) (hb:mid<=b) (k2:Keep l1 l2 a mid) (s2:SrtOn cf l2 a mid) (k3:Keep l2 l3 mid b) (s3:SrtOn cf l3 mid b):Keep l l3 a b/\SrtOn cf l3 a b:=by
 refine⟨(h.keep.trans (k2.mono (Nat.le_refl _) hb)).trans (k3.mono ha (Nat.le_refl _)),?_⟩
 exact(s2.keep k3 (.inl (Nat.le_refl _))).join s3 ((h.le.keep k2).keep2 k3)
theorem SrtOn.join_empty {l:List α} {a s m:Nat} (h1:SrtOn cf l a s) (h2:SrtOn cf l s m) (h:s<=a\/m<=s) (hs:a<=s/\s<=m):SrtOn cf l a m:=by
 rcases h with h|h
 ·obtain rfl:a=s:=by omega
  exact h2
 ·obtain rfl:m=s:=by omega
  exact h1
inductive Blk (cf:α->α->Int) (l:List α) (bs n:Nat):Nat->Prop
 |last {a:Nat}:n<=a+bs->SrtOn cf l a n->Blk cf l bs n a
 |more {a:Nat}:a+bs<=n->SrtOn cf l a (a+bs)->Blk cf l bs n (a+bs)->Blk cf l bs n a
inductive Full (cf:α->α->Int) (l:List α) (bs:Nat):Nat->Prop
 |zero:Full cf l bs 0
 |snoc {a:Nat}:Full cf l bs a->SrtOn cf l a (a+bs)->Full cf l bs (a+bs)
theorem Full.append {l:List α} {bs n a:Nat} (h:Full cf l bs a):a<=n->Blk cf l bs n a->Blk cf l bs n 0:=by
 induction h with
 |zero=>exact fun _ h=>h
 |snoc h1 h2 ih=>exact fun hn hb=>ih (by omega) (.more hn h2 hb)
theorem Full.keep {l m:List α} {bs a c d:Nat} (h:Full cf l bs a) (k:Keep l m c d):a<=c->Full cf m bs a:=by
 induction h with
 |zero=>exact fun _=> .zero
 |snoc h1 h2 ih=>exact fun hc=> .snoc (ih (by omega)) (h2.keep k (.inl hc))
theorem Blk.keep {l m:List α} {bs n a c d:Nat} (h:Blk cf l bs n a) (k:Keep l m c d):d<=a->Blk cf m bs n a:=by
 induction h with
 |last h1 h2=>exact fun hd=> .last h1 (h2.keep k (.inr hd))
 |more h1 h2 h3 ih=>exact fun hd=> .more h1 (h2.keep k (.inr hd)) (ih (by omega))
theorem Blk.two {l:List α} {bs n a:Nat} (h:Blk cf l bs n a) (hb:0<bs) (hn:a+2*bs<=n):SrtOn cf l a (a+bs)/\SrtOn cf l (a+bs) (a+2*bs)/\Blk cf l bs n (a+2*bs):=by
 cases h with
 |last h1 h2=>omega
 |more h1 h2 h3=>
  cases h3 with
  |last g1 g2=>
   have e:a+2*bs=n:=by omega
   rw[e]
   exact⟨h2,g2,.last (by omega) (SrtOn.short (by omega))⟩
  |more g1 g2 g3=>
   rw[show a+bs+bs=a+2*bs by omega]at g2 g3
   exact⟨h2,g2,g3⟩
theorem Blk.rest {l:List α} {bs n a:Nat} (h:Blk cf l bs n a) (hb:0<bs) (h1:n<a+2*bs) (h2:a+bs<n):SrtOn cf l a (a+bs)/\SrtOn cf l (a+bs) n:=by
 cases h with
 |last g1 g2=>omega
 |more g1 g2 g3=>
  cases g3 with
  |last k1 k2=>exact⟨g2,k2⟩
  |more k1 k2 k3=>omega
theorem Blk.one {l:List α} {bs n a:Nat} (h:Blk cf l bs n a) (h2:n<=a+bs):SrtOn cf l a n:=by
 cases h with
 |last g1 g2=>exact g2
 |more g1 g2 g3=>
  obtain rfl:n=a+bs:=by omega
  exact g2
end
end Go.Ab
namespace Go.Ab
open Go.RowKit
theorem iE {β:Type} {P:Program} [Glob P] {s:ASt} {k:ASt->Prop} {g:FuncId} {as:List AV} {d:Nat} (ps qs:List (Nat×Nat)) (B:Nat) (oc:aK) (ac:List AV) {Q:β->Prop} {r0:β->AV} {o0:β->aK} (hf:Fits (dJ ps) (dJ qs) B oc s.o) (hac:AV.labsL (eR oc) ac=true) (has:as=ac.map (AV.ren (dJ ps)))
 (hc:MCall P g ac oc (fun r o'=> ∃y,Q y/\r=r0 y/\o'=o0 y)) (hd:d<s.n) (hrest: ∀y,qN (dJ ps) (dJ qs) oc (o0 y) s.o=true) (hk: ∀y,Q y->k (nX (dJ ps) (dJ qs) B oc s d (r0 y) (o0 y))):dB P (.c g as) (some d) k s:=
 aKo (dJ ps) (dJ qs) B oc ac hf hac has hc hd fun r o' h=>by obtain⟨y,hy,rfl,rfl⟩:=h;exact⟨hrest y,hk y hy⟩
abbrev bP {α:Type} (en:α->AV) (es kd:Nat) (l:List α):AObj:=⟨true,false,true,es,l.map en,kd⟩
theorem bOq {P:Program} [Glob P] {op:BinOp} {t:TypeId} {l f:Bool} {xs:List AV} {b:AV}:oV P op t (.list l f xs) b=none:=by unfold oV;rfl
theorem bOr {P:Program} [Glob P] {t:TypeId} {l f:Bool} {x:AV} {xs:List AV}:kX P .eql t (.list l f (x::xs)) (.const (.slice none 0 0))=if bG P t=1 then some ⟨true,bl false⟩else none:=by
 unfold kX
 simp[oZ,iX]
attribute [go_sem] bOq bOr
theorem ACall.own_nil {P:Program} [Glob P] {f:FuncId} {args:List AV} {es:Nat} {xs:List AV} (h:ACall P f args (fun r=>r= .own es xs\/(xs= []/\r= .list false true []))):ACall P f args (fun r=>r= .own es xs):=by
 refine⟨h.1,fun w F cargs h0 h1 h2 h3=>(h.2 w F cargs h0 h1 h2 h3).mono ?_⟩
 rintro e w' ⟨v,r,F',g1,g2,g3,g4⟩
 rcases g2 with rfl|⟨rfl,rfl⟩
 ·exact⟨v,_,F',g1,rfl,g3,g4⟩
 ·refine⟨v,_,F',g1,rfl,g3,none,rfl,?_⟩
  obtain⟨p,hp,hr⟩:=(show ∃p,ResV1 F' w' w.heap.size p v (.list false true [])from g4)
  generalize hx:([]:List AV)=xs at hr
  cases hr with
  |nil=>exact⟨_,rfl⟩
  | @list _ _ _ _ _ b o o' cap es f q1 q2 q3 q4 q5 q6 q7 q8=>
   subst hx
   have:cap=0:=q4 rfl
   subst this
   exact⟨_,rfl⟩
set_option maxRecDepth 100000 in
theorem kL:(∀live:List Nat,nZ live []= [])/\(∀(live:List Nat) (p:Nat×AV) (r:List (Nat×AV)),nZ live (p::r)=if live.contains p.1=true then p::nZ live r else nZ live r)/\(∀out:List Nat,oA out []= [])/\(∀(out:List Nat) (p:Nat×AObj) (r:aK),oA out (p::r)=if out.contains p.1=true then oA out r else p::oA out r)/\
 (∀(a b:Nat) (l:List Nat),(a::l).contains b=(b==a||l.contains b))/\(∀a:Nat,[].contains a=false)/\(∀n:Nat,(n==n)=true)/\(∀b:Bool,(b||false)=b)/\(∀b:Bool,(false||b)=b)/\(∀b:Bool,(b||true)=true)/\(∀b:Bool,(true||b)=true)/\((false=true)=False)/\
 (∀(h:Decidable True) (a b:aK),@ite _ True h a b=a)/\(∀(h:Decidable False) (a b:aK),@ite _ False h a b=b)/\(∀(h:Decidable True) (a b:List (Nat×AV)),@ite _ True h a b=a)/\(∀(h:Decidable False) (a b:List (Nat×AV)),@ite _ False h a b=b)/\
 (∀(p:Nat×AObj) (a b:aK),(p::a)++b=p::(a++b))/\(∀a:aK,[]++a=a)/\(∀a:aK,a++ []=a)/\(∀(p:Nat×AV) (a b:List (Nat×AV)),(p::a)++b=p::(a++b))/\(∀a:List (Nat×AV),[]++a=a)/\ ∀a:List (Nat×AV),a++ []=a:=by
 and_intros<;>intros<;>first|rfl|simp
theorem aE {P:Program} [Glob P] {a b:Code} {Q:Exit->ASt->Prop} {s:ASt} (h: ∀K,Hide K (cY P b Q)->cY P a (rK K Q) s):cY P (.seq a b) Q s:=aD9 h
end Go.Ab
