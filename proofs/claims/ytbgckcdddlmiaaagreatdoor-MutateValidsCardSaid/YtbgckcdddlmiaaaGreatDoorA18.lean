import Derived.Test.YtbgckcdddlmiaaaGreatDoorA17
set_option linter.all false
namespace Go.Ab
open Go
theorem Le.frzL {n:Nat} {t:List (Nat×AV)}: ∀(Ls:List Nat) (o:aF),(∀L∈Ls,∃x,lk o L=some x/\x.kd≠1)->
 ∃o',Le ⟨n,t,o'⟩ ⟨n,t,o⟩/\ ∀M,lk o' M=(lk o M).map fun x=>if M∈Ls then x.frz else x
 | [],o,_=>⟨o,Le.refl _,fun M=>by simp⟩
 |L::Ls,o,h=>by
  obtain⟨x,h1,h2⟩:=h L (by simp)
  obtain⟨o',h3,h4⟩:=Le.frzL (n:=n) (t:=t) Ls ((L,x.frz)::o) (fun M hM=>by
   by_cases hL:L=M
   ·exact⟨x.frz,by simp[lk,hL],h2⟩
   ·obtain⟨y,h5,h6⟩:=h M (by simp[hM])
    exact⟨y,by simp[lk,hL,h5],h6⟩)
  refine⟨o',Le.trans h3 (Le.frz (s:=⟨n,t,o⟩) L h1 h2),fun M=>?_⟩
  rw[h4]
  simp only[lk]
  by_cases hL:L=M
  ·subst hL
   rw[if_pos rfl,h1]
   simp[AObj.frz]
  ·rw[if_neg hL]
   have: ¬M=L:=fun e=>hL e.symm
   simp[this]
theorem Le.mapOf {n:Nat} {t:List (Nat×AV)} {o:aF} (m:Nat) {E E':List AV} (h:lk o m=some ⟨false,false,false,0,E,1⟩) (hl:E'.length=E.length)
 (hE: ∀(i:Nat) (y:AV),E[i]?=some y-> ∃k L lo c x,y= .tup [.sc k,.ref L lo c]/\lk o L=some x/\x.arr=true/\x.fz=true/\E'[i]?=some (.tup [.sc k,.list false false (cA x.xs lo c)])):
 Le ⟨n,t,dV m ⟨true,false,false,0,E',1⟩ o⟩ ⟨n,t,o⟩:=by
 intro C F μ a w hs
 have hlk: ∀M y,lk (dV m ⟨true,false,false,0,E',1⟩ o) M=some y->(m=M/\y=⟨true,false,false,0,E',1⟩)\/(m≠M/\lk o M=some y):=fun M y hy=>by
  rw[nT (by rw[h];rfl)]at hy
  simp only[bR,lk]at hy
  by_cases hM:m=M
  ·rw[if_pos hM]at hy
   exact .inl ⟨hM,(Option.some.inj hy).symm⟩
  ·rw[if_neg hM]at hy
   exact .inr ⟨hM,hy⟩
 have hex: ∀M y,lk (dV m ⟨true,false,false,0,E',1⟩ o) M=some y-> ∃z,lk o M=some z/\z.fz=y.fz/\(y.pin=true->z=y):=fun M y hy=>by
  rcases hlk M y hy with⟨rfl,rfl⟩|⟨_,hy⟩
  ·exact⟨_,h,rfl,fun hp=>by cases hp⟩
  ·exact⟨y,hy,rfl,fun _=>rfl⟩
 have hloc:aE (dV m ⟨true,false,false,0,E',1⟩ o) μ=aE o μ:=by
  funext M
  simp only[aE,nT (o:=o) (L:=m) (x:=⟨true,false,false,0,E',1⟩) (i:=M) (by rw[h];rfl),bR,lk]
  by_cases hM:m=M
  ·subst hM;rw[if_pos rfl,h];rfl
  ·rw[if_neg hM]
 refine⟨F,μ,⟨hs.sw.facts,hs.sw.sub,hs.sw.lentc,hs.sw.grow,hs.sw.newf,hs.sw.fr,fun M y hy=>?_,fun M y M' y' b c c' hy hy'=>?_,fun M y b c hy hm hz=>?_,fun M y b c hy=>?_,fun M y x0 h0 hy hp=>?_⟩,hs.defers,hs.n,fun i y hy=>by rw[hloc];exact hs.slot i y hy⟩
 ·rw[hloc]
  rcases hlk M y hy with⟨rfl,rfl⟩|⟨_,hy⟩
  ·have ho:=hs.sw.obj m _ h
   cases hm:μ m with
   |none=>
    rw[hm]at ho
    have ho:E= []:=ho
    show E'= []
    rw[ho]at hl
    exact List.length_eq_zero_iff.1 hl
   |some p=>
    obtain⟨b,cap⟩:=p
    rw[hm]at ho
    have ho':ObjAt F (aE o μ) w ⟨false,false,false,0,E,1⟩ b cap:=ho
    obtain⟨_,_,r,hb,hodd⟩:=ho'.loop rfl rfl
    have hodd:OddOf F (aE o μ) 0 r E:=hodd
    cases r with
    |map es clock=>
     obtain⟨q1,q2,q3,q4⟩:=hodd
     refine .inr (.inl ⟨rfl,rfl,by show E'.length<=dD;rw[hl];exact q1,es,clock,hb,⟨by show es.size=E'.length;rw[hl];exact q2,q3⟩,fun i e y he hy=>?_⟩)
     have hi:i<E.length:=by rw[<-hl];exact(List.getElem?_eq_some_iff.1 hy).1
     obtain⟨k,L,lo,c,x,e1,e2,e3,e4,e5⟩:=hE i E[i] (List.getElem?_eq_getElem hi)
     obtain⟨v,f1,f2,f3⟩:=q4 i e E[i] he (List.getElem?_eq_getElem hi)
     rw[e1]at f1
     simp only[AV.tup.injEq,List.cons.injEq,AV.sc.injEq,and_true]at f1
     obtain⟨rfl,rfl⟩:=f1
     have hy:E'[i]?=some y:=hy
     rw[e5]at hy
     obtain rfl:=Option.some.inj hy
     exact⟨_,[],rfl,(U9 e2 (hs.sw.obj L x e2) e3 e4 f2 bU).shared rfl,f3,.inl rfl⟩
    |_=>exact hodd.elim
  ·exact hs.sw.obj M y hy
 ·obtain⟨z,h1,_⟩:=hex M y hy
  obtain⟨z',h1',_⟩:=hex M' y' hy'
  exact hs.sw.dist M z M' z' b c c' h1 h1'
 ·obtain⟨z,h1,h3,_⟩:=hex M y hy
  exact hs.sw.excl M z b c h1 hm (by rw[h3];exact hz)
 ·obtain⟨z,h1,_⟩:=hex M y hy
  exact hs.sw.mine M z b c h1
 ·obtain⟨z,h1,_,h7⟩:=hex M y hy
  obtain rfl:=h7 hp
  exact hs.sw.keep M z x0 h0 h1 hp
def fV (a b L:Nat):Nat:=if L=a then b else if L=b then a else L
theorem aBv (a b L:Nat):fV a b (fV a b L)=L:=by
 unfold fV
 by_cases h1:L=a
 ·subst h1
  by_cases h2:b=L
  ·simp[h2]
  ·simp[h2]
 ·by_cases h2:L=b
  ·subst h2;simp[h1]
  ·simp[h1,h2]
theorem Le.swap {s:ASt} (a b:Nat) (h: ∀p∈s.o,p.2.pin=true->p.1≠a/\p.1≠b):Le (pZ (fV a b) s) s:=
 Le.ren (fV a b) (fV a b) (fun p _=>aBv a b p.1) fun p hp hpin=>by
  obtain⟨h1,h2⟩:=h p hp hpin
  simp[fV,h1,h2]
theorem N2 {s:ASt} {a b M:Nat}:lk (pZ (fV a b) s).o M=(lk s.o (fV a b M)).map fun x=> {dI (fV a b) x with pin:=x.pin}:=by
 show lk (iM (fV a b) (fun _ b=>b) s.o) M=_
 unfold iM
 induction s.o with
 |nil=>rfl
 |cons p r ih=>
  rw[List.map_cons]
  simp only[lk]
  by_cases h:p.1=fV a b M
  ·have h':fV a b p.1=M:=by rw[h,aBv]
   rw[if_pos h',if_pos h];rfl
  ·have h': ¬fV a b p.1=M:=fun e=>h (by rw[<-e,aBv])
   rw[if_neg h',if_neg h,ih]
theorem bJn {s:ASt} {a b i:Nat}:lk (pZ (fV a b) s).t i=(lk s.t i).map (AV.ren (fV a b)):=by
 show lk (s.t.map fun p=>(p.1,p.2.ren (fV a b))) i=_
 induction s.t with
 |nil=>rfl
 |cons p r ih=>
  rw[List.map_cons]
  simp only[lk]
  by_cases h:p.1=i
  ·rw[if_pos h,if_pos h];rfl
  ·rw[if_neg h,if_neg h,ih]
theorem aJr {α:Type} {i:Nat}: ∀{a b:List (Nat×α)},lk (a++b) i=(lk a i).or (lk b i)
 | [],b=>rfl
 |p::r,b=>by
  rw[List.cons_append]
  simp only[lk]
  by_cases h:p.1=i
  ·rw[if_pos h,if_pos h];rfl
  ·rw[if_neg h,if_neg h,aJr]
theorem N3 {L:Nat} {x:AObj}: ∀{o:aF} {i:Nat},¬L=i->lk (dV L x o) i=lk o i
 | [],_,_=>rfl
 |(k,y)::r,i,h=>by
  unfold dV
  by_cases hk:k=L
  ·rw[if_pos hk]
   simp only[lk]
   subst hk
   rw[if_neg h,if_neg h,N3 h]
  ·rw[if_neg hk]
   simp only[lk]
   by_cases hi:k=i
   ·rw[if_pos hi,if_pos hi]
   ·rw[if_neg hi,if_neg hi,N3 h]
section
variable {α : Type}
abbrev mM (en:α->AV) (es:Nat) (r:List α):AObj:=⟨true,false,false,es,r.map en,0⟩
def cS (en:α->AV) (es:Nat):Nat->List (ByteArray×List α)->aF
 |_,[]=> []
 |b,g::l=>(b,mM en es g.2)::cS en es (b+1) l
def cZ:Nat->List (ByteArray×List α)->List AV
 |_,[]=> []
 |b,g::l=> .tup [.sc (.string g.1),.ref b 0 g.2.length]::cZ (b+1) l
abbrev gO (b:Nat) (gs:List (ByteArray×List α)):AObj:=⟨false,false,false,0,cZ b gs,1⟩
abbrev lR (en:α->AV) (g:ByteArray×List α):AV:= .tup [.sc (.string g.1),.list false false (g.2.map en)]
abbrev uI (en:α->AV) (gs:List (ByteArray×List α)):AObj:=⟨true,false,false,0,gs.map (lR en),1⟩
def dX:List (ByteArray×List α)->ByteArray->α->List (ByteArray×List α)
 | [],k,x=> [(k,[x])]
 |g::l,k,x=>if g.1=k then(g.1,g.2++ [x])::l else g::dX l k x
def iH:List (ByteArray×List α)->ByteArray->List α
 | [],_=> []
 |g::l,k=>if g.1=k then g.2 else iH l k
theorem aJs {k j:ByteArray} {x:α}: ∀{gs:List (ByteArray×List α)},iH (dX gs k x) j=if k=j then iH gs j++ [x]else iH gs j
 | []=>by
  by_cases h:k=j<;>simp[dX,iH,h]
 |g::l=>by
  unfold dX
  by_cases h:g.1=k
  ·rw[if_pos h]
   by_cases h2:k=j
   ·simp[iH,h,h2]
   ·simp[iH,h,h2]
  ·rw[if_neg h]
   by_cases h2:g.1=j
   ·have h3: ¬k=j:=fun e=>h (h2.trans e.symm)
    simp[iH,h2,h3]
   ·simp only[iH,if_neg h2,aJs]
theorem aJt (gs:List (ByteArray×List α)) (s:ByteArray):(∀g∈gs,¬g.1=s)\/ ∃(j:Nat) (hj:j<gs.length),gs[j].1=s/\ ∀(i:Nat) (hi:i<gs.length),i<j-> ¬gs[i].1=s:=by
 induction gs with
 |nil=>exact .inl (by simp)
 |cons p l ih=>
  by_cases h:p.1=s
  ·exact .inr ⟨0,by simp,h,fun k _ hk=>by omega⟩
  ·rcases ih with h1|⟨j,hj,h1,h2⟩
   ·refine .inl fun q hq=>?_
    rcases List.mem_cons.1 hq with rfl|hq
    ·exact h
    ·exact h1 q hq
   ·refine .inr ⟨j+1,by simpa using hj,h1,fun k hk hkj=>?_⟩
    cases k with
    |zero=>exact h
    |succ k=>exact h2 k (by simpa using hk) (by omega)
theorem aJu {k:ByteArray} {x:α}: ∀{gs:List (ByteArray×List α)},(∀g∈gs,¬g.1=k)->dX gs k x=gs++ [(k,[x])]
 | [],_=>rfl
 |g::l,h=>by
  rw[dX,if_neg (h g (by simp)),aJu fun q hq=>h q (by simp[hq])]
  rfl
theorem aJv {k:ByteArray} {x:α}: ∀{gs:List (ByteArray×List α)} {j:Nat} (hj:j<gs.length),gs[j].1=k->(∀(i:Nat) (hi:i<gs.length),i<j-> ¬gs[i].1=k)->dX gs k x=gs.set j (k,gs[j].2++ [x])
 |g::l,0,_,h,_=>by
  have h:g.1=k:=h
  rw[dX,if_pos h,List.set_cons_zero]
  simp[h]
 |g::l,j+1,hj,h,hn=>by
  have h0: ¬g.1=k:=hn 0 (by simp) (by omega)
  rw[dX,if_neg h0,aJv (j:=j) (by simpa using hj) h fun i hi hij=>hn (i+1) (by simpa using hi) (by omega)]
  rfl
theorem aJw {k:ByteArray} {x:α}: ∀{gs:List (ByteArray×List α)},(dX gs k x).length<=gs.length+1
 | []=>by simp[dX]
 |g::l=>by
  unfold dX
  split
  ·simp
  ·have:=aJw (k:=k) (x:=x) (gs:=l)
   simp;omega
theorem aJx {k:ByteArray} {x:α} {B:Nat}: ∀{gs:List (ByteArray×List α)},(∀g∈gs,g.2.length<=B)-> ∀g∈dX gs k x,g.2.length<=B+1
 | [],_,g,hg=>by
  rw[dX,List.mem_singleton]at hg
  subst hg
  simp
 |q::l,h,g,hg=>by
  unfold dX at hg
  split at hg
  ·rcases List.mem_cons.1 hg with rfl|hg
   ·have:=h q (by simp)
    simp;omega
   ·have:=h g (by simp[hg]);omega
  ·rcases List.mem_cons.1 hg with rfl|hg
   ·have:=h g (by simp);omega
   ·exact aJx (fun q hq=>h q (by simp[hq])) g hg
theorem uJ {en:α->AV} {es:Nat}: ∀{b:Nat} {gs:List (ByteArray×List α)} {i:Nat},lk (cS en es b gs) (b+i)=(gs[i]?).map fun g=>mM en es g.2
 |_,[],_=>rfl
 |b,g::l,0=>by rw[cS,lk,if_pos (Nat.add_zero b).symm];rfl
 |b,g::l,i+1=>by
  rw[cS,lk,if_neg (by omega),show b+(i+1)=(b+1)+i by omega,uJ,List.getElem?_cons_succ]
theorem N4 {en:α->AV} {es:Nat}: ∀{b:Nat} {gs:List (ByteArray×List α)} {p:Nat×AObj},p∈cS en es b gs-> ∃(i:Nat) (hi:i<gs.length),p=(b+i,mM en es gs[i].2)
 |_,[],p,h=>by simp[cS]at h
 |b,g::l,p,h=>by
  rw[cS]at h
  rcases List.mem_cons.1 h with rfl|h
  ·exact⟨0,by simp,rfl⟩
  ·obtain⟨i,hi,e⟩:=N4 h
   exact⟨i+1,by simpa using hi,by rw[e,show b+1+i=b+(i+1) by omega];rfl⟩
theorem B5: ∀{b:Nat} {gs:List (ByteArray×List α)},(cZ b gs).length=gs.length
 |_,[]=>rfl
 |b,g::l=>by rw[cZ,List.length_cons,B5,List.length_cons]
theorem aJy: ∀{b:Nat} {gs:List (ByteArray×List α)} {i:Nat},(cZ b gs)[i]?=(gs[i]?).map fun g=> .tup [.sc (.string g.1),.ref (b+i) 0 g.2.length]
 |_,[],_=>rfl
 |b,g::l,0=>rfl
 |b,g::l,i+1=>by
  rw[cZ,List.getElem?_cons_succ,aJy,List.getElem?_cons_succ,show b+1+i=b+(i+1) by omega]
theorem uK (a b:ByteArray):iF (.string a) (.string b)=some (decide (a=b)):=rfl
theorem aJz {s:ByteArray}: ∀{b:Nat} {gs:List (ByteArray×List α)} {k:Nat},(∀g∈gs,¬g.1=s)->cI (.string s) (cZ b gs) k=some none
 |_,[],_,_=>rfl
 |b,g::l,k,h=>by
  rw[cZ,cI,uK,decide_eq_false (fun e=>h g (by simp) e.symm)]
  exact aJz fun q hq=>h q (by simp[hq])
theorem aJ0 {s:ByteArray}: ∀{b:Nat} {gs:List (ByteArray×List α)} {j k:Nat} (hj:j<gs.length),gs[j].1=s->(∀(i:Nat) (hi:i<gs.length),i<j-> ¬gs[i].1=s)->cI (.string s) (cZ b gs) k=some (some (k+j,.ref (b+j) 0 gs[j].2.length))
 |b,g::l,0,k,_,h,_=>by
  have h:g.1=s:=h
  rw[cZ,cI,uK,decide_eq_true h.symm]
  rfl
 |b,g::l,j+1,k,hj,h,hn=>by
  have h0: ¬g.1=s:=hn 0 (by simp) (by omega)
  rw[cZ,cI,uK,decide_eq_false (fun e=>h0 e.symm)]
  have:=aJ0 (b:=b+1) (gs:=l) (j:=j) (k:=k+1) (by simpa using hj) h (fun i hi hij=>hn (i+1) (by simpa using hi) (by omega))
  simp only[this]
  simp only[List.getElem_cons_succ,Option.some.injEq,Prod.mk.injEq,AV.ref.injEq,true_and,and_true]
  omega
theorem aJ1 {en:α->AV} {s:ByteArray}: ∀{gs:List (ByteArray×List α)} {k:Nat},(∀g∈gs,¬g.1=s)->cI (.string s) (gs.map (lR en)) k=some none
 | [],_,_=>rfl
 |g::l,k,h=>by
  rw[List.map_cons,cI,uK,decide_eq_false (fun e=>h g (by simp) e.symm)]
  exact aJ1 fun q hq=>h q (by simp[hq])
theorem aJ2 {en:α->AV} {s:ByteArray}: ∀{gs:List (ByteArray×List α)} {j k:Nat} (hj:j<gs.length),gs[j].1=s->(∀(i:Nat) (hi:i<gs.length),i<j-> ¬gs[i].1=s)->cI (.string s) (gs.map (lR en)) k=some (some (k+j,.list false false (gs[j].2.map en)))
 |g::l,0,k,_,h,_=>by
  have h:g.1=s:=h
  rw[List.map_cons,cI,uK,decide_eq_true h.symm]
  rfl
 |g::l,j+1,k,hj,h,hn=>by
  have h0: ¬g.1=s:=hn 0 (by simp) (by omega)
  rw[List.map_cons,cI,uK,decide_eq_false (fun e=>h0 e.symm)]
  have:=aJ2 (en:=en) (gs:=l) (j:=j) (k:=k+1) (by simpa using hj) h (fun i hi hij=>hn (i+1) (by simpa using hi) (by omega))
  simp only[this]
  simp only[List.getElem_cons_succ,Option.some.injEq,Prod.mk.injEq,and_true]
  omega
theorem aJ3 {s:ByteArray}: ∀{gs:List (ByteArray×List α)},(∀g∈gs,¬g.1=s)->iH gs s= []
 | [],_=>rfl
 |g::l,h=>by rw[iH,if_neg (h g (by simp)),aJ3 fun q hq=>h q (by simp[hq])]
theorem aJ4 {s:ByteArray}: ∀{gs:List (ByteArray×List α)} {j:Nat} (hj:j<gs.length),gs[j].1=s->(∀(i:Nat) (hi:i<gs.length),i<j-> ¬gs[i].1=s)->iH gs s=gs[j].2
 |g::l,0,_,h,_=>by
  have h:g.1=s:=h
  rw[iH,if_pos h];rfl
 |g::l,j+1,hj,h,hn=>by
  have h0: ¬g.1=s:=hn 0 (by simp) (by omega)
  rw[iH,if_neg h0,aJ4 (j:=j) (by simpa using hj) h fun i hi hij=>hn (i+1) (by simpa using hi) (by omega)]
  rfl
theorem aBw {en:α->AV} (gs:List (ByteArray×List α)) (s:ByteArray):(cI (.string s) (gs.map (lR en)) 0=some none/\iH gs s= [])\/ ∃j,cI (.string s) (gs.map (lR en)) 0=some (some (j,.list false false ((iH gs s).map en))):=by
 rcases aJt gs s with h|⟨j,hj,h1,h2⟩
 ·exact .inl ⟨aJ1 h,aJ3 h⟩
 ·exact .inr ⟨0+j,by rw[aJ2 hj h1 h2,aJ4 hj h1 h2]⟩
theorem aJ5 {v:ByteArray×List α}: ∀{b:Nat} {gs:List (ByteArray×List α)} {j:Nat},j<gs.length->(cZ b gs).set j (.tup [.sc (.string v.1),.ref (b+j) 0 v.2.length])=cZ b (gs.set j v)
 |b,g::l,0,_=>rfl
 |b,g::l,j+1,h=>by
  rw[cZ,List.set_cons_succ,List.set_cons_succ,cZ,show b+(j+1)=(b+1)+j by omega,aJ5 (by simpa using h)]
theorem aJ6 {v:ByteArray×List α}: ∀{b:Nat} {gs:List (ByteArray×List α)},cZ b (gs++ [v])=cZ b gs++ [.tup [.sc (.string v.1),.ref (b+gs.length) 0 v.2.length]]
 |b,[]=>rfl
 |b,g::l=>by
  rw[List.cons_append,cZ,aJ6,cZ,List.cons_append,List.length_cons,show b+(l.length+1)=b+1+l.length by omega]
theorem aBx {en:α->AV} {es L:Nat}: ∀{b:Nat} {gs:List (ByteArray×List α)},killO L (cS en es b gs)=cS en es b gs
 |_,[]=>rfl
 |b,g::l=>by rw[cS,K8,K9,aBx]
theorem aBy {en:α->AV} {es L:Nat}: ∀{b:Nat} {gs:List (ByteArray×List α)},L<b->lk (cS en es b gs) L=none
 |_,[],_=>rfl
 |b,g::l,h=>by
  rw[cS,lk,if_neg (by omega)]
  exact aBy (by omega)
theorem aBz {en:α->AV} {es L:Nat}: ∀{b:Nat} {gs:List (ByteArray×List α)},L<b->cK (cS en es b gs) L=cS en es b gs
 |_,[],_=>rfl
 |b,g::l,h=>by
  rw[cS,L0,if_neg (by omega),aBz (by omega)]
theorem aB0 {L:Nat}: ∀{b:Nat} {gs:List (ByteArray×List α)},L<b->(cZ b gs).map (kill1 L)=cZ b gs
 |_,[],_=>rfl
 |b,g::l,h=>by
  rw[cZ,List.map_cons,aB0 (by omega),vQ]
  have: ¬L=b:=by omega
  simp[kt,AV.has,this]
theorem aJ7 {σ:Nat->Nat}: ∀{b:Nat} {gs:List (ByteArray×List α)},(∀i,i<gs.length->σ (b+i)=b+i)->(cZ b gs).map (AV.ren σ)=cZ b gs
 |_,[],_=>rfl
 |b,g::l,h=>by
  have h0:=h 0 (by simp)
  rw[cZ,List.map_cons,aJ7 fun i hi=>by have:=h (i+1) (by simpa using hi);rw[show b+1+i=b+(i+1) by omega];exact this]
  simp only[AV.ren,AV.renL]
  rw[Nat.add_zero]at h0
  rw[h0]
theorem bJo (o:aF) (L M:Nat):cK (cK o L) M=cK (cK o M) L:=by
 unfold cK
 rw[List.filter_filter,List.filter_filter]
 congr 1
 funext p
 exact Bool.and_comm _ _
theorem bJp (o:aF) (L:Nat):cK (cK o L) L=cK o L:=by
 unfold cK
 rw[List.filter_filter]
 congr 1
 funext p
 exact Bool.and_self _
theorem bJq (o:aF) (L M:Nat):killO L (cK o M)=cK (killO L o) M:=by
 unfold killO cK
 rw[List.filter_map]
 rfl
theorem bJr {en:α->AV} {es:Nat} {gs:List (ByteArray×List α)} {b J:Nat}:(∀L,L<b->lk (cK (cS en es b gs) J) L=none)/\(∀L,killO L (cK (cS en es b gs) J)=cK (cS en es b gs) J)/\(∀L,L<b->cK (cK (cS en es b gs) J) L=cK (cS en es b gs) J)/\cK (cK (cS en es b gs) J) J=cK (cS en es b gs) J:=by
 refine⟨fun L h=>?_,fun L=>?_,fun L h=>?_,bJp _ _⟩
 ·rw[qN,aBy h]
  split<;>rfl
 ·rw[bJq,aBx]
 ·rw[bJo,aBz h]
theorem aJ8 {o:aF}: ∀{b:Nat} {gs:List (ByteArray×List α)},(∀i,i<gs.length->(lk o (b+i)).isSome=true)->AV.okInL o (cZ b gs)=true
 |_,[],_=>rfl
 |b,g::l,h=>by
  have h0:=h 0 (by simp)
  rw[Nat.add_zero]at h0
  rw[cZ]
  simp only[AV.okInL,AV.okIn,h0,Bool.and_true,Bool.true_and]
  exact aJ8 fun i hi=>by rw[show b+1+i=b+(i+1) by omega];exact h (i+1) (by simpa using hi)
theorem Le.rowsSub {en:α->AV} {es n m b:Nat} {t t0:List (Nat×AV)} {A B T o:aF} {gs:List (ByteArray×List α)} (hm:lk o m=some (gO b gs)) (hr: ∀(i:Nat) (hi:i<gs.length),lk o (b+i)=some (mM en es gs[i].2))
 (hT: ∀p∈T,p∈cS en es b gs) (hT2: ∀i,i<gs.length->(lk T (b+i)).isSome=true) (hA: ∀p∈A++B,lk o p.1=some p.2) (ht: ∀p∈t0,lk t p.1=some p.2)
 (hk: ∀p∈t0,p.2.okIn (A++(m,gO b gs)::(T++B))=true) (hb: ∀p∈A++B,oR (A++(m,gO b gs)::(T++B)) p.2=true):Le ⟨n,t0,A++(m,gO b gs)::(T++B)⟩ ⟨n,t,o⟩:=by
 refine Le.sub rfl ht (fun p hp=>?_) hk fun p hp=>?_
 ·rcases List.mem_append.1 hp with hp|hp
  ·exact hA p (List.mem_append_left _ hp)
  ·rcases List.mem_cons.1 hp with rfl|hp
   ·exact hm
   ·rcases List.mem_append.1 hp with hp|hp
    ·obtain⟨i,hi,rfl⟩:=N4 (hT p hp)
     exact hr i hi
    ·exact hA p (List.mem_append_right _ hp)
 ·rcases List.mem_append.1 hp with hp|hp
  ·exact hb p (List.mem_append_left _ hp)
  ·rcases List.mem_cons.1 hp with rfl|hp
   ·show AV.okInL _ (cZ b gs)=true
    refine aJ8 fun i hi=>?_
    obtain⟨z,hz⟩:=Option.isSome_iff_exists.1 (hT2 i hi)
    simp only[aJr,lk]
    cases lk A (b+i)with
    |some y=>rfl
    |none=>
     split
     ·rfl
     ·rw[hz];rfl
   ·rcases List.mem_append.1 hp with hp|hp
    ·obtain⟨i,hi,rfl⟩:=N4 (hT p hp)
     rfl
    ·exact hb p (List.mem_append_right _ hp)
theorem Le.rowsEnd {en:α->AV} {es n m b:Nat} {t t0:List (Nat×AV)} {A o:aF} {gs:List (ByteArray×List α)} (hmb:m<b) (hm:lk o m=some (gO b gs)) (hr: ∀(i:Nat) (hi:i<gs.length),lk o (b+i)=some (mM en es gs[i].2))
 (hA: ∀p∈A,p.1≠m/\p.1<b/\lk o p.1=some p.2) (ht: ∀p∈t0,lk t p.1=some p.2)
 (hk: ∀p∈t0,p.2.okIn ((m,uI en gs)::A)=true) (hb: ∀p∈A,oR ((m,uI en gs)::A) p.2=true):Le ⟨n,t0,(m,uI en gs)::A⟩ ⟨n,t,o⟩:=by
 obtain⟨o',h1,h2⟩:=Le.frzL (n:=n) (t:=t) ((List.range gs.length).map (b+ ·)) o (fun L hL=>by
  obtain⟨i,hi,rfl⟩:=List.mem_map.1 hL
  exact⟨_,hr i (by simpa using hi),by show(0:Nat)≠1;decide⟩)
 have hlo: ∀L,L<b->lk o' L=lk o L:=fun L hL=>by
  rw[h2]
  have: ¬L∈(List.range gs.length).map (b+ ·):=fun h=>by
   obtain⟨i,_,e⟩:=List.mem_map.1 h
   omega
  simp[this]
 have hro: ∀(i:Nat) (hi:i<gs.length),lk o' (b+i)=some (mM en es gs[i].2).frz:=fun i hi=>by
  rw[h2,hr i hi]
  have:b+i∈(List.range gs.length).map (b+ ·):=List.mem_map.2 ⟨i,by simpa using hi,rfl⟩
  simp[this]
 have hm':lk o' m=some ⟨false,false,false,0,cZ b gs,1⟩:=by rw[hlo m hmb,hm]
 have h3:=Le.mapOf (n:=n) (t:=t) (o:=o') m (E:=cZ b gs) (E':=gs.map (lR en)) hm' (by rw[B5,List.length_map]) fun i y hy=>by
  rw[aJy]at hy
  obtain⟨g,hg,rfl⟩:=Option.map_eq_some_iff.1 hy
  obtain⟨hi,rfl⟩:=List.getElem?_eq_some_iff.1 hg
  refine⟨_,_,_,_,_,rfl,hro i hi,rfl,rfl,?_⟩
  rw[List.getElem?_map,hg]
  simp[cA,AObj.frz]
 refine Le.trans (b:=⟨n,t,dV m (uI en gs) o'⟩) (Le.sub rfl ht (fun p hp=>?_) hk fun p hp=>?_) (h3.trans h1)
 ·show lk (dV m (uI en gs) o') p.1=_
  rw[nT (by rw[hm'];rfl)]
  simp only[bR,lk]
  rcases List.mem_cons.1 hp with rfl|hp
  ·exact if_pos rfl
  ·obtain⟨g1,g2,g3⟩:=hA p hp
   rw[if_neg (Ne.symm g1),hlo _ g2,g3]
 ·rcases List.mem_cons.1 hp with rfl|hp
  ·rfl
  ·exact hb p hp
theorem Le.rowsSub0 {en:α->AV} {es n m b:Nat} {t t0:List (Nat×AV)} {A T o:aF} {gs:List (ByteArray×List α)} (hm:lk o m=some (gO b gs)) (hr: ∀(i:Nat) (hi:i<gs.length),lk o (b+i)=some (mM en es gs[i].2))
 (hT: ∀p∈T,p∈cS en es b gs) (hT2: ∀i,i<gs.length->(lk T (b+i)).isSome=true) (hA: ∀p∈A,lk o p.1=some p.2) (ht: ∀p∈t0,lk t p.1=some p.2)
 (hk: ∀p∈t0,p.2.okIn (A++(m,gO b gs)::T)=true) (hb: ∀p∈A,oR (A++(m,gO b gs)::T) p.2=true):Le ⟨n,t0,A++(m,gO b gs)::T⟩ ⟨n,t,o⟩:=by
 have h:=Le.rowsSub (n:=n) (t:=t) (t0:=t0) (A:=A) (B:= []) (T:=T) hm hr hT hT2
 simp only[List.append_nil]at h
 exact h hA ht hk hb
theorem N5 {en:α->AV} {es b:Nat} {gs:List (ByteArray×List α)}: ∀i,i<gs.length->(lk (cS en es b gs) (b+i)).isSome=true:=fun i hi=>by
 rw[uJ,List.getElem?_eq_getElem hi];rfl
theorem bJs {en:α->AV} {es b:Nat} {gs:List (ByteArray×List α)} {j:Nat} (hj:j<gs.length):(∀p∈(b+j,mM en es gs[j].2)::cK (cS en es b gs) (b+j),p∈cS en es b gs)/\
 ∀i,i<gs.length->(lk ((b+j,mM en es gs[j].2)::cK (cS en es b gs) (b+j)) (b+i)).isSome=true:=by
 refine⟨fun p hp=>?_,fun i hi=>?_⟩
 ·rcases List.mem_cons.1 hp with rfl|hp
  ·refine pX ?_
   rw[uJ,List.getElem?_eq_getElem hj];rfl
  ·unfold cK at hp
   exact(List.mem_filter.1 hp).1
 ·simp only[lk]
  split
  ·rfl
  ·rw[qN]
   split
   ·omega
   ·exact N5 i hi
theorem Le.rowsYes {en:α->AV} {es n m b j:Nat} {t t0:List (Nat×AV)} {A B o:aF} {gs:List (ByteArray×List α)} {k:ByteArray} {x:α} {E3 xs:List AV} (hj:j<gs.length) (h1:gs[j].1=k) (h2: ∀(i:Nat) (hi:i<gs.length),i<j-> ¬gs[i].1=k)
 (hE:E3=(cZ b gs).set j (.tup [.sc (.string k),.ref (b+j) 0 (gs[j].2.length+1)])) (hm:lk o m=some ⟨false,false,false,0,E3,1⟩) (hxs:xs=(gs[j].2++ [x]).map en) (hJ:lk o (b+j)=some ⟨true,false,false,es,xs,0⟩)
 (hr: ∀M,b<=M-> ¬M=b+j->lk o M=lk (cK (cS en es b gs) (b+j)) M) (hA: ∀p∈A++B,lk o p.1=some p.2) (ht: ∀p∈t0,lk t p.1=some p.2)
 (hk: ∀p∈t0,p.2.okIn (A++(m,gO b (dX gs k x))::(cS en es b (dX gs k x)++B))=true) (hb: ∀p∈A++B,oR (A++(m,gO b (dX gs k x))::(cS en es b (dX gs k x)++B)) p.2=true):
 Le ⟨n,t0,A++(m,gO b (dX gs k x))::(cS en es b (dX gs k x)++B)⟩ ⟨n,t,o⟩:=by
 have e:dX gs k x=gs.set j (k,gs[j].2++ [x]):=aJv hj h1 h2
 refine Le.rowsSub ?_ (fun i hi=>?_) (fun p hp=>hp) N5 hA ht hk hb
 ·rw[hm,hE]
  have h3:=aJ5 (b:=b) (gs:=gs) (j:=j) (v:=(k,gs[j].2++ [x])) hj
  rw[List.length_append]at h3
  simp only[List.length_cons,List.length_nil,Nat.zero_add]at h3
  rw[h3,<-e]
 ·have hi':i<gs.length:=by rw[e,List.length_set]at hi;exact hi
  by_cases hij:i=j
  ·subst hij
   rw[hJ,hxs]
   simp[e]
  ·rw[hr (b+i) (by omega) (by omega),qN,if_neg (by omega),uJ,List.getElem?_eq_getElem hi']
   have:(dX gs k x)[i]=gs[i]:=by
    simp only[e]
    rw[List.getElem_set_ne (fun h=>hij h.symm)]
   rw[this];rfl
theorem Le.rowsNo {en:α->AV} {es n m b d:Nat} {t t0:List (Nat×AV)} {A B o:aF} {gs:List (ByteArray×List α)} {k:ByteArray} {x:α} {E3:List AV} (hno: ∀g∈gs,¬g.1=k) (hdb:d<b) (hdm: ¬m=d) (hmb:m<b)
 (hE:E3=cZ b gs++ [.tup [.sc (.string k),.ref d 0 1]]) (hm:lk o m=some ⟨false,false,false,0,E3,1⟩) (hd:lk o d=some ⟨true,false,false,es,[en x],0⟩)
 (hr: ∀M,b<=M->lk o M=lk (cS en es b gs) M) (hp: ∀p∈o,p.2.pin=true-> ¬p.1=d/\p.1<b)
 (hA: ∀p∈A++B,¬p.1=d/\p.1<b/\lk o p.1=some p.2) (hA2: ∀σ:Nat->Nat,(∀L,L<b-> ¬L=d->σ L=L)-> ∀p∈A++B,dI σ p.2=p.2) (ht: ∀p∈t0,lk t p.1=some p.2) (ht2: ∀σ:Nat->Nat,(∀L,L<b-> ¬L=d->σ L=L)-> ∀p∈t0,p.2.ren σ=p.2)
 (hk: ∀p∈t0,p.2.okIn (A++(m,gO b (dX gs k x))::(cS en es b (dX gs k x)++B))=true) (hb: ∀p∈A++B,oR (A++(m,gO b (dX gs k x))::(cS en es b (dX gs k x)++B)) p.2=true):
 Le ⟨n,t0,A++(m,gO b (dX gs k x))::(cS en es b (dX gs k x)++B)⟩ ⟨n,t,o⟩:=by
 have e:dX gs k x=gs++ [(k,[x])]:=aJu hno
 have hσ: ∀L,L<b-> ¬L=d->fV d (b+gs.length) L=L:=fun L h1 h2=>by
  unfold fV
  rw[if_neg h2,if_neg (by omega)]
 have hσ2: ∀i,i<gs.length->fV d (b+gs.length) (b+i)=b+i:=fun i hi=>by
  unfold fV
  rw[if_neg (by omega),if_neg (by omega)]
 have hσ3:fV d (b+gs.length) (b+gs.length)=d:=by
  unfold fV
  rw[if_neg (by omega),if_pos rfl]
 have hσ4:fV d (b+gs.length) d=b+gs.length:=if_pos rfl
 refine Le.trans ?_ (Le.swap d (b+gs.length) fun p h1 h2=>by
  obtain⟨g1,g2⟩:=hp p h1 h2
  exact⟨g1,by omega⟩)
 refine Le.rowsSub (t:=(pZ (fV d (b+gs.length)) ⟨n,t,o⟩).t) (o:=(pZ (fV d (b+gs.length)) ⟨n,t,o⟩).o) ?_ (fun i hi=>?_) (fun p hp=>hp) N5 (fun p h1=>?_) (fun p h1=>?_) hk hb
 ·rw[N2,hσ m hmb hdm,hm,hE]
  simp only[Option.map_some,dI,Bool.false_eq_true,if_false,List.map_append,aJ7 hσ2,List.map_cons,List.map_nil,AV.ren,AV.renL,hσ4]
  rw[e]
  show _=some (⟨false,false,false,0,cZ b (gs++ [(k,[x])]),1⟩:AObj)
  rw[aJ6]
  rfl
 ·by_cases h1:i<gs.length
  ·rw[N2,hσ2 i h1,hr (b+i) (by omega),uJ,List.getElem?_eq_getElem h1]
   simp[dI,e,h1]
  ·have hi':i=gs.length:=by rw[e,List.length_append]at hi;simp at hi;omega
   subst hi'
   rw[N2,hσ3,hd]
   simp[dI,e]
 ·obtain⟨g1,g2,g3⟩:=hA p h1
  rw[N2,hσ p.1 g2 g1,g3,Option.map_some,hA2 _ hσ p h1]
 ·rw[bJn,ht p h1,Option.map_some,ht2 _ hσ p h1]
theorem aJ9 {s:ByteArray} {J:Nat}: ∀{b:Nat} {gs:List (ByteArray×List α)} {j k:Nat} (hj:j<gs.length),gs[j].1=s->(∀(i:Nat) (hi:i<gs.length),i<j-> ¬gs[i].1=s)-> ∃v,cI (.string s) ((cZ b gs).map (kill1 J)) k=some (some (k+j,v))
 |b,g::l,0,k,_,h,_=>by
  have h:g.1=s:=h
  rw[cZ,List.map_cons,vQ]
  simp only[List.map_cons,List.map_nil]
  rw[show kt J (.sc (.string g.1))= .sc (.string g.1)from by simp[kt,AV.has],cI,uK,decide_eq_true h.symm]
  exact⟨_,rfl⟩
 |b,g::l,j+1,k,hj,h,hn=>by
  have h0: ¬g.1=s:=hn 0 (by simp) (by omega)
  rw[cZ,List.map_cons,vQ]
  simp only[List.map_cons,List.map_nil]
  rw[show kt J (.sc (.string g.1))= .sc (.string g.1)from by simp[kt,AV.has],cI,uK,decide_eq_false (fun e=>h0 e.symm)]
  obtain⟨v,hv⟩:=aJ9 (J:=J) (b:=b+1) (gs:=l) (j:=j) (k:=k+1) (by simpa using hj) h (fun i hi hij=>hn (i+1) (by simpa using hi) (by omega))
  refine⟨v,?_⟩
  simp only[hv]
  simp only[Option.some.injEq,Prod.mk.injEq,and_true]
  omega
theorem aKa {v:AV}: ∀{b:Nat} {gs:List (ByteArray×List α)} {j:Nat},j<gs.length->((cZ b gs).map (kill1 (b+j))).set j v=(cZ b gs).set j v
 |b,g::l,0,_=>by
  rw[cZ,List.map_cons,List.set_cons_zero,List.set_cons_zero,Nat.add_zero,aB0 (Nat.lt_succ_self b)]
 |b,g::l,j+1,h=>by
  rw[cZ,List.map_cons,List.set_cons_succ,List.set_cons_succ,show b+(j+1)=(b+1)+j by omega,aKa (by simpa using h),vQ]
  have: ¬b+1+j=b:=by omega
  simp[kt,AV.has,this]
theorem aKb {J:Nat}: ∀{b:Nat} {gs:List (ByteArray×List α)},((cZ b gs).map (kill1 J)).map (kill1 J)=(cZ b gs).map (kill1 J)
 |_,[]=>rfl
 |b,g::l=>by
  rw[cZ,List.map_cons,List.map_cons,aKb,vQ,vQ]
  by_cases h:J=b<;>simp[kt,AV.has,h]
end
end Go.Ab
