import Derived.Test.YtgmibdiofkmmbaaGreatDoorS4
import Derived.Test.YtgmibdiofkmmbaaGreatDoorA18
set_option linter.all false
open Go.Proofs.Tryz
namespace Go.Proofs.YtgmibdiofkmmbaaGreatDoor
open Go.Ab
variable [Glob prog]
set_option maxRecDepth 100000
set_option maxHeartbeats 8000000
theorem dIm (f:FuncId) (cf:Tm->Tm->Int) (hp:Pre cf) (kd:Nat) (S:Tm->Prop) (hc: ∀x y,S x->S y->ACall prog f [eT x,eT y] (fun r=>r=nt .i64 (cf x y))) (l:List Tm) (hS: ∀x∈l,S x) (hl:l.length<=140737488355328) (a m b:Nat) (ham:a<m) (hmb:m<b) (hb:b<=l.length) (hs1:SrtOn cf l a m) (hs2:SrtOn cf l m b) (hc1:m=a+1):
 MCall prog 160 [.ref 1000 0 l.length,nt .i64 a,nt .i64 m,nt .i64 b,.clo f []] [(1000,bP aP 2 kd l)] (fun r o'=> ∃l',(Keep l l' a b/\SrtOn cf l' a b)/\r= .tup []/\o'= [(1000,bP aP 2 kd l')]):=by
 have hcm: ∀(p q:Nat) (h1:p<l.length) (h2:q<l.length),ACall prog f [eT l[p],eT l[q]] (fun r=>r=nt .i64 (cf l[p] l[q])):=fun p q h1 h2=>hc _ _ (hS _ (List.getElem_mem h1)) (hS _ (List.getElem_mem h2))
 have hal:a<l.length:=by omega
 have hml:m<l.length:=by omega
 have ga:l[a]?=some l[a]:=List.getElem?_eq_getElem hal
 have gm:l[m]?=some l[m]:=List.getElem?_eq_getElem hml
 subst hc1
 refine dM func160 call160 rfl (by simp[ntmps160]) ?_;simp only[ntmps160,results160]
 repeat' (first|(refine aE fun _ _=>?_)|refine zHg ?_|(refine zqd ?_ ?_<;>(intro h;first|(exfalso;omega)|(simp only[h,zT])))|simp(disch:=omega) [go_sem])
 try any_goals omega
 refine bZ [0,1,4] [] (fun x:Nat×Nat=> [(10,nt .i64 x.1),(11,nt .i64 x.2)]) (fun x:Nat×Nat=> []) (fun x:Nat×Nat=>x.2 - x.1) (fun x:Nat×Nat=>a+1<=x.1/\x.1<=x.2/\x.2<=b/\LeOn cf l (a+1) x.1 a (a+1)/\LeOn cf l a (a+1) x.2 b) ((a+1,b)) (Le.sub4 rfl (by simp[go_sem])) ⟨?_⟩ ?_
 ·exact⟨Nat.le_refl _,Nat.le_of_lt hmb,Nat.le_refl _,.empty1 (Nat.le_refl _),.empty2 (Nat.le_refl _)⟩
 intro⟨i,j⟩ ⟨hi,hij,hj,c1,c2⟩ AA hAA;simp only[kL,Nat.reduceBEq,Nat.reduceEqDiff]
 dsimp only at*
 by_cases hlt:i<j
 ·obtain⟨mi,hmi⟩: ∃h,h=(i+j) / 2:=⟨_,rfl⟩
  have hm':((i:Int)+j).fdiv 2=(mi:Int):=by rw[Int.fdiv_eq_ediv_of_nonneg _ (by decide)];omega
  have hm2:((i:Int)+j) / 2=(mi:Int):=by omega
  have hhl:mi<l.length:=by omega
  have gh:l[mi]?=some l[mi]:=List.getElem?_eq_getElem hhl
  have hu:=hcm mi a hhl hal
  by_cases hq:cf l[mi] l[a]<0
  ·repeat' (first|(refine aE fun _ _=>?_)|refine zHg ?_|(refine zqd ?_ ?_<;>(intro h;first|(exfalso;omega)|(simp only[h,zT])))|refine bI rfl (hu) rfl (by simp) ?_|(refine(hAA.next ((mi+1,j)) (Le.sub4 rfl (by simp[go_sem])) (by(try dsimp only);omega) ?_))|simp(disch:=omega) [go_sem,hal,hhl,hm',hm2]|refine zDr 11 bA ?_|fail)
   exact⟨⟨by omega,by omega,hj,LeOn.mono hp hs2 hs1 ⟨by omega,by omega⟩ ⟨Nat.le_refl _,Nat.lt_succ_self _⟩ gh ga (by omega),c2⟩⟩
  ·repeat' (first|(refine aE fun _ _=>?_)|refine zHg ?_|(refine zqd ?_ ?_<;>(intro h;first|(exfalso;omega)|(simp only[h,zT])))|refine bI rfl (hu) rfl (by simp) ?_|(refine(hAA.next ((i,mi)) (Le.sub4 rfl (by simp[go_sem])) (by(try dsimp only);omega) ?_))|simp(disch:=omega) [go_sem,hal,hhl,hm',hm2]|refine zDr 11 bA ?_|fail)
   exact⟨⟨hi,by omega,by omega,c1,LeOn.mono hp hs1 hs2 ⟨Nat.le_refl _,Nat.lt_succ_self _⟩ ⟨by omega,by omega⟩ ga gh (hp.sw _ _ hq)⟩⟩
 ·obtain rfl:i=j:=by omega
  have hi1:(i:Int) - 1=((i - 1:Nat):Int):=by omega
  repeat' (first|(refine aE fun _ _=>?_)|refine zHg ?_|simp(disch:=omega) [go_sem,hi1])
  refine bZ [0,10] [1000] (fun x:Nat×List Tm=> [(13,nt .i64 x.1)]) (fun x:Nat×List Tm=> [(1000,bP aP 2 kd x.2)]) (fun x:Nat×List Tm=>i - x.1) (fun x:Nat×List Tm=>a<=x.1/\x.1+1<=i/\Rot l x.2 a (a+1) (x.1+1)) ((a,l)) (Le.sub4 rfl (by simp[go_sem])) ⟨?_⟩ ?_
  ·exact⟨Nat.le_refl _,hi,Rot.right _ _ _⟩
  intro⟨k,l1⟩ ⟨hk,hki,hR⟩ AA hAA;simp only[kL,Nat.reduceBEq,Nat.reduceEqDiff]
  dsimp only at*
  have hl1:=hR.perm.length_eq
  by_cases hlt2:k+1<i
  ·have h1:k<l1.length:=by omega
   have h2:k+1<l1.length:=by omega
   have hsw:=(J3 h1 h2).symm
   repeat' (first|(refine aE fun _ _=>?_)|refine zHg ?_|(refine zqd ?_ ?_<;>(intro h;first|(exfalso;omega)|(simp only[h,zT])))|(refine(hAA.next ((k+1,lR l1 k (k+1))) (Le.sub4 rfl (by simp[go_sem,aAe,hsw,-List.map_set])) (by(try dsimp only);omega) ?_))|simp(disch:=omega) [go_sem,h1,h2,hi1]|refine zAo ?_|refine zDr 14 bA ?_|fail)
   exact⟨⟨by omega,by omega,hR.stepR hk (by omega)⟩⟩
  ·obtain rfl:i=k+1:=by omega
   repeat' (first|(refine aE fun _ _=>?_)|refine zHg ?_|simp(disch:=omega) [go_sem,hi1])
   try any_goals omega
   refine dN ⟨220,[],[(1000,bP aP 2 kd l1)]⟩ [] (Le.renSub [] [] (by simp[go_sem]) (by simp[go_sem]) (Le.sub4 rfl (by simp[go_sem]))) (by simp[go_sem]) ⟨l1,hR.into hp (Nat.le_refl _) (by omega) (by omega) hj hs1 hs2 c1 (.empty1 (Nat.le_refl _)) c2,rfl,rfl⟩
theorem dIn (f:FuncId) (cf:Tm->Tm->Int) (hp:Pre cf) (kd:Nat) (S:Tm->Prop) (hc: ∀x y,S x->S y->ACall prog f [eT x,eT y] (fun r=>r=nt .i64 (cf x y))) (l:List Tm) (hS: ∀x∈l,S x) (hl:l.length<=140737488355328) (a m b:Nat) (ham:a<m) (hmb:m<b) (hb:b<=l.length) (hs1:SrtOn cf l a m) (hs2:SrtOn cf l m b) (hc1: ¬m=a+1) (hc2:b=m+1):
 MCall prog 160 [.ref 1000 0 l.length,nt .i64 a,nt .i64 m,nt .i64 b,.clo f []] [(1000,bP aP 2 kd l)] (fun r o'=> ∃l',(Keep l l' a b/\SrtOn cf l' a b)/\r= .tup []/\o'= [(1000,bP aP 2 kd l')]):=by
 have hcm: ∀(p q:Nat) (h1:p<l.length) (h2:q<l.length),ACall prog f [eT l[p],eT l[q]] (fun r=>r=nt .i64 (cf l[p] l[q])):=fun p q h1 h2=>hc _ _ (hS _ (List.getElem_mem h1)) (hS _ (List.getElem_mem h2))
 have hal:a<l.length:=by omega
 have hml:m<l.length:=by omega
 have ga:l[a]?=some l[a]:=List.getElem?_eq_getElem hal
 have gm:l[m]?=some l[m]:=List.getElem?_eq_getElem hml
 subst hc2
 refine dM func160 call160 rfl (by simp[ntmps160]) ?_;simp only[ntmps160,results160]
 repeat' (first|(refine aE fun _ _=>?_)|refine zHg ?_|(refine zqd ?_ ?_<;>(intro h;first|(exfalso;omega)|(simp only[h,zT])))|simp(disch:=omega) [go_sem])
 try any_goals omega
 refine bZ [0,2,4] [] (fun x:Nat×Nat=> [(14,nt .i64 x.1),(15,nt .i64 x.2)]) (fun x:Nat×Nat=> []) (fun x:Nat×Nat=>x.2 - x.1) (fun x:Nat×Nat=>a<=x.1/\x.1<=x.2/\x.2<=m/\LeOn cf l a x.1 m (m+1)/\LeOn cf l m (m+1) x.2 m) ((a,m)) (Le.sub4 rfl (by simp[go_sem])) ⟨?_⟩ ?_
 ·exact⟨Nat.le_refl _,Nat.le_of_lt ham,Nat.le_refl _,.empty1 (Nat.le_refl _),.empty2 (Nat.le_refl _)⟩
 intro⟨i,j⟩ ⟨hi,hij,hj,c1,c2⟩ AA hAA;simp only[kL,Nat.reduceBEq,Nat.reduceEqDiff]
 dsimp only at*
 by_cases hlt:i<j
 ·obtain⟨mi,hmi⟩: ∃h,h=(i+j) / 2:=⟨_,rfl⟩
  have hm':((i:Int)+j).fdiv 2=(mi:Int):=by rw[Int.fdiv_eq_ediv_of_nonneg _ (by decide)];omega
  have hm2:((i:Int)+j) / 2=(mi:Int):=by omega
  have hhl:mi<l.length:=by omega
  have gh:l[mi]?=some l[mi]:=List.getElem?_eq_getElem hhl
  have hu:=hcm m mi hml hhl
  by_cases hq:cf l[m] l[mi]<0
  ·repeat' (first|(refine aE fun _ _=>?_)|refine zHg ?_|((first|refine zqd ?_ ?_|refine zqn ?_ ?_)<;>(intro h;first|(exfalso;omega)|(simp only[h,zT])))|refine bI rfl (hu) rfl (by simp) ?_|(refine(hAA.next ((i,mi)) (Le.sub4 rfl (by simp[go_sem])) (by(try dsimp only);omega) ?_))|simp(disch:=omega) [go_sem,hml,hhl,hm',hm2]|refine zDr 11 bA ?_|fail)
   exact⟨⟨hi,by omega,by omega,c1,LeOn.mono hp hs2 hs1 ⟨Nat.le_refl _,Nat.lt_succ_self _⟩ ⟨by omega,by omega⟩ gm gh (by omega)⟩⟩
  ·repeat' (first|(refine aE fun _ _=>?_)|refine zHg ?_|((first|refine zqd ?_ ?_|refine zqn ?_ ?_)<;>(intro h;first|(exfalso;omega)|(simp only[h,zT])))|refine bI rfl (hu) rfl (by simp) ?_|(refine(hAA.next ((mi+1,j)) (Le.sub4 rfl (by simp[go_sem])) (by(try dsimp only);omega) ?_))|simp(disch:=omega) [go_sem,hml,hhl,hm',hm2]|refine zDr 11 bA ?_|fail)
   exact⟨⟨by omega,by omega,hj,LeOn.mono hp hs1 hs2 ⟨by omega,by omega⟩ ⟨Nat.le_refl _,Nat.lt_succ_self _⟩ gh gm (hp.sw _ _ hq),c2⟩⟩
 ·obtain rfl:i=j:=by omega
  repeat' (first|(refine aE fun _ _=>?_)|refine zHg ?_|simp(disch:=omega) [go_sem])
  refine bZ [0,14] [1000] (fun x:Nat×List Tm=> [(17,nt .i64 x.1)]) (fun x:Nat×List Tm=> [(1000,bP aP 2 kd x.2)]) (fun x:Nat×List Tm=>x.1) (fun x:Nat×List Tm=>i<=x.1/\x.1<=m/\Rot l x.2 x.1 m (m+1)) ((m,l)) (Le.sub4 rfl (by simp[go_sem])) ⟨?_⟩ ?_
  ·exact⟨hj,Nat.le_refl _,Rot.left _ _ _⟩
  intro⟨k,l1⟩ ⟨hk,hki,hR⟩ AA hAA;simp only[kL,Nat.reduceBEq,Nat.reduceEqDiff]
  dsimp only at*
  have hl1:=hR.perm.length_eq
  by_cases hlt2:i<k
  ·obtain⟨k,rfl⟩: ∃k',k=k'+1:=⟨k - 1,by omega⟩
   have h1:k<l1.length:=by omega
   have h2:k+1<l1.length:=by omega
   have hsw:=(J3 h2 h1).symm
   repeat' (first|(refine aE fun _ _=>?_)|refine zHg ?_|(refine zqd ?_ ?_<;>(intro h;first|(exfalso;omega)|(simp only[h,zT])))|(refine(hAA.next ((k,lR l1 (k+1) k)) (Le.sub4 rfl (by simp[go_sem,aAe,hsw,-List.map_set])) (by(try dsimp only);omega) ?_))|simp(disch:=omega) [go_sem,h1,h2]|refine zAo ?_|refine zDr 14 bA ?_|fail)
   exact⟨⟨by omega,by omega,hR.stepL (by omega) (by omega)⟩⟩
  ·obtain rfl:i=k:=by omega
   repeat' (first|(refine aE fun _ _=>?_)|refine zHg ?_|simp(disch:=omega) [go_sem])
   try any_goals omega
   refine dN ⟨220,[],[(1000,bP aP 2 kd l1)]⟩ [] (Le.renSub [] [] (by simp[go_sem]) (by simp[go_sem]) (Le.sub4 rfl (by simp[go_sem]))) (by simp[go_sem]) ⟨l1,hR.into hp hi (by omega) (by omega) (Nat.le_refl _) hs1 hs2 c2 c1 (.empty2 (Nat.le_refl _)),rfl,rfl⟩
theorem aS6 (f:FuncId) (cf:Tm->Tm->Int) (hp:Pre cf) (kd:Nat) (S:Tm->Prop) (hc: ∀x y,S x->S y->ACall prog f [eT x,eT y] (fun r=>r=nt .i64 (cf x y))): ∀(N:Nat) (l:List Tm),(∀x∈l,S x)->l.length<=140737488355328-> ∀(a m b:Nat),b - a<=N->a<m->m<b->b<=l.length->SrtOn cf l a m->SrtOn cf l m b->
 MCall prog 160 [.ref 1000 0 l.length,nt .i64 a,nt .i64 m,nt .i64 b,.clo f []] [(1000,bP aP 2 kd l)] (fun r o'=> ∃l',(Keep l l' a b/\SrtOn cf l' a b)/\r= .tup []/\o'= [(1000,bP aP 2 kd l')]):=by
 intro N
 induction N with
 |zero=>intro l _ _ a m b h1 h2 h3;omega
 |succ N ih=>
 intro l hS hl a m b hN ham hmb hb hs1 hs2
 have hcm: ∀(p q:Nat) (h1:p<l.length) (h2:q<l.length),ACall prog f [eT l[p],eT l[q]] (fun r=>r=nt .i64 (cf l[p] l[q])):=fun p q h1 h2=>hc _ _ (hS _ (List.getElem_mem h1)) (hS _ (List.getElem_mem h2))
 have hal:a<l.length:=by omega
 have hml:m<l.length:=by omega
 have ga:l[a]?=some l[a]:=List.getElem?_eq_getElem hal
 have gm:l[m]?=some l[m]:=List.getElem?_eq_getElem hml
 by_cases hc1:m=a+1
 ·exact dIm f cf hp kd S hc l hS hl a m b ham hmb hb hs1 hs2 hc1
 by_cases hc2:b=m+1
 ·exact dIn f cf hp kd S hc l hS hl a m b ham hmb hb hs1 hs2 hc1 hc2
 obtain⟨mid,hmid⟩: ∃h,h=(a+b) / 2:=⟨_,rfl⟩
 have hm':((a:Int)+b).fdiv 2=(mid:Int):=by rw[Int.fdiv_eq_ediv_of_nonneg _ (by decide)];omega
 have hm2:((a:Int)+b) / 2=(mid:Int):=by omega
 have hst:=SymS.start (cf:=cf) (l:=l) ham hmb hmid
 obtain⟨s0,hs0⟩: ∃s,s=if mid<m then mid+m - b else a:=⟨_,rfl⟩
 obtain⟨r0,hr0⟩: ∃s,s=if mid<m then mid else m:=⟨_,rfl⟩
 rw[<-hs0,<-hr0]at hst
 refine dM func160 call160 rfl (by simp[ntmps160]) ?_;simp only[ntmps160,results160]
 by_cases hmm:mid<m
 ·rw[if_pos hmm]at hs0 hr0
  have e1:(mid:Int)+m - b=(s0:Int):=by omega
  rw[hr0]at hst
  clear hr0
  repeat' (first|(refine aE fun _ _=>?_)|refine zHg ?_|(refine zqd ?_ ?_<;>(intro h;first|(exfalso;omega)|(simp only[h,zT])))|simp(disch:=omega) [go_sem,hm',hm2,e1])
  try any_goals omega
  refine bZ [0,1,2,3,4,18,19,22] [] (fun x:Nat×Nat=> [(20,nt .i64 x.1),(21,nt .i64 x.2)]) (fun x:Nat×Nat=> []) (fun x:Nat×Nat=>x.2 - x.1) (fun x:Nat×Nat=>SymS cf l a m b mid x.1 x.2) ((s0,mid)) (Le.sub4 rfl (by simp[go_sem,e1])) ⟨?_⟩ ?_
  ·exact hst
  intro⟨i,j⟩ hv AA hAA;simp only[kL,Nat.reduceBEq,Nat.reduceEqDiff]
  dsimp only at*
  have v1:=hv.ha
  have v2:=hv.hs
  have v3:=hv.hr
  have v4:=hv.hr2
  have v5:=hv.hb
  by_cases hlt:i<j
  ·obtain⟨mi,hmi⟩: ∃h,h=(i+j) / 2:=⟨_,rfl⟩
   have hm':((i:Int)+j).fdiv 2=(mi:Int):=by rw[Int.fdiv_eq_ediv_of_nonneg _ (by decide)];omega
   have hm2:((i:Int)+j) / 2=(mi:Int):=by omega
   have hhl:mi<l.length:=by omega
   have gh:l[mi]?=some l[mi]:=List.getElem?_eq_getElem hhl
   obtain⟨q,hq⟩: ∃q,q=mid+m - 1 - mi:=⟨_,rfl⟩
   have hq1:(mid:Int)+m - 1 - mi=(q:Int):=by omega
   have hql:q<l.length:=by omega
   have gq:l[q]?=some l[q]:=List.getElem?_eq_getElem hql
   have hu:=hcm q mi hql hhl
   by_cases hz:cf l[q] l[mi]<0
   ·repeat' (first|(refine aE fun _ _=>?_)|refine zHg ?_|((first|refine zqd ?_ ?_|refine zqn ?_ ?_)<;>(intro h;first|(exfalso;omega)|(simp only[h,zT])))|refine aI rfl (hu) (by simp) ?_|(refine(hAA.next ((i,mi)) (Le.sub4 rfl (by simp[go_sem])) (by(try dsimp only);omega) ?_))|simp(disch:=omega) [go_sem,hhl,hql,hm',hm2,hq1]|refine zDr 11 bA ?_|fail)
    exact⟨hv.left ⟨by omega,by omega⟩ (by rw[<-hq];exact gq) gh (by omega)⟩
   ·repeat' (first|(refine aE fun _ _=>?_)|refine zHg ?_|((first|refine zqd ?_ ?_|refine zqn ?_ ?_)<;>(intro h;first|(exfalso;omega)|(simp only[h,zT])))|refine aI rfl (hu) (by simp) ?_|(refine(hAA.next ((mi+1,j)) (Le.sub4 rfl (by simp[go_sem])) (by(try dsimp only);omega) ?_))|simp(disch:=omega) [go_sem,hhl,hql,hm',hm2,hq1]|refine zDr 11 bA ?_|fail)
    exact⟨hv.right ⟨by omega,by omega⟩ gh (by rw[<-hq];exact gq) (hp.sw _ _ hz)⟩
  ·obtain rfl:i=j:=by omega
   obtain⟨e,he⟩: ∃e,e=mid+m - i:=⟨_,rfl⟩
   have he1:(mid:Int)+m - i=(e:Int):=by omega
   by_cases g1:i<m/\m<e
   ·obtain⟨g1a,g1b⟩:=g1
    have hcr:=aS5 f kd l hl i m e g1a g1b (by omega)
    repeat' (first|(refine aE fun _ _=>?_)|refine zHg ?_|((first|refine zqd ?_ ?_|refine zgd ?_ ?_)<;>(intro h;first|(exfalso;omega)|(simp only[h,zT])))|simp(disch:=omega) [go_sem,he1])
    try any_goals omega
    refine iE [] [] 10000 _ _ (Fits.mk' (by simp[go_sem]) (by simp[go_sem])) (by simp[go_sem]) (by simp[go_sem]) (hcr) (by simp[go_sem]) (by intros;simp[go_sem]) ?_;intro l1 hR
    have hf:=hv.done hp he hb hs1 hs2 hR
    have hl1:l1.length=l.length:=hf.keep.len
    by_cases g2:a<i/\i<mid
    ·obtain⟨g2a,g2b⟩:=g2
     have hc2:=ih l1 (fun x hx=>hS x (hf.keep.mem.1 hx)) (by omega) a i mid (by omega) (by omega) (by omega) (by omega) hf.r1 hf.r2
     rw[hl1]at hc2
     repeat' (first|(refine aE fun _ _=>?_)|refine zHg ?_|((first|refine zqd ?_ ?_|refine zgd ?_ ?_)<;>(intro h;first|(exfalso;omega)|(simp only[h,zT])))|simp(disch:=omega) [go_sem])
     try any_goals omega
     all_goals
      refine iE [] [] 10000 _ _ (Fits.mk' (by simp[go_sem]) (by simp[go_sem])) (by simp[go_sem]) (by simp[go_sem]) (hc2) (by simp[go_sem]) (by intros;simp[go_sem]) ?_;intro l2 h2
      obtain⟨k2,s2⟩:=h2
      have r3:=hf.r3.keep k2 (.inr (Nat.le_refl _))
      have r4:=hf.r4.keep k2 (.inr (by omega))
      have hl2:l2.length=l.length:=by rw[k2.len,hf.keep.len]
      by_cases g3:mid<e/\e<b
      ·obtain⟨g3a,g3b⟩:=g3
       have hc3:=ih l2 (fun x hx=>hS x (hf.keep.mem.1 (k2.mem.1 hx))) (by omega) mid e b (by omega) (by omega) (by omega) (by omega) r3 r4
       rw[hl2]at hc3
       repeat' (first|(refine aE fun _ _=>?_)|refine zHg ?_|((first|refine zqd ?_ ?_|refine zgd ?_ ?_)<;>(intro h;first|(exfalso;omega)|(simp only[h,zT])))|simp(disch:=omega) [go_sem])
       try any_goals omega
       all_goals
        refine iE [] [] 10000 _ _ (Fits.mk' (by simp[go_sem]) (by simp[go_sem])) (by simp[go_sem]) (by simp[go_sem]) (hc3) (by simp[go_sem]) (by intros;simp[go_sem]) ?_;intro l3 h3
        obtain⟨k3,s3⟩:=h3
        repeat' (first|(refine aE fun _ _=>?_)|refine zHg ?_|simp(disch:=omega) [go_sem])
        try any_goals omega
        all_goals
         refine eW ⟨220,[],[(1000,bP aP 2 kd l3)]⟩ [] (Le.renSub [] [] (by simp[go_sem]) (by simp[go_sem]) (Le.sub4 rfl (by simp[go_sem]))) (by simp[go_sem]) ⟨_,hf.merge (by omega) (by omega) k2 s2 k3 s3,rfl,rfl⟩
      ·have s3:=r3.join_empty r4 (by omega) (by omega)
       repeat' (first|(refine aE fun _ _=>?_)|refine zHg ?_|((first|refine zqd ?_ ?_|refine zgd ?_ ?_)<;>(intro h;first|(exfalso;omega)|(simp only[h,zT])))|simp(disch:=omega) [go_sem])
       try any_goals omega
       all_goals
        refine eW ⟨220,[],[(1000,bP aP 2 kd l2)]⟩ [] (Le.renSub [] [] (by simp[go_sem]) (by simp[go_sem]) (Le.sub4 rfl (by simp[go_sem]))) (by simp[go_sem]) ⟨_,hf.merge (by omega) (by omega) k2 s2 (Keep.refl _ _ _) s3,rfl,rfl⟩
    ·have s2:=hf.r1.join_empty hf.r2 (by omega) (by omega)
     have k2:=Keep.refl l1 a mid
     have r3:=hf.r3.keep k2 (.inr (Nat.le_refl _))
     have r4:=hf.r4.keep k2 (.inr (by omega))
     have hl2:l1.length=l.length:=by rw[k2.len,hf.keep.len]
     by_cases g3:mid<e/\e<b
     ·obtain⟨g3a,g3b⟩:=g3
      have hc3:=ih l1 (fun x hx=>hS x (hf.keep.mem.1 (k2.mem.1 hx))) (by omega) mid e b (by omega) (by omega) (by omega) (by omega) r3 r4
      rw[hl2]at hc3
      repeat' (first|(refine aE fun _ _=>?_)|refine zHg ?_|(refine zgd ?_ ?_<;>(intro h;(exfalso;omega)))|simp(disch:=omega) [go_sem])
      try any_goals omega
      all_goals
       refine iE [] [] 10000 _ _ (Fits.mk' (by simp[go_sem]) (by simp[go_sem])) (by simp[go_sem]) (by simp[go_sem]) (hc3) (by simp[go_sem]) (by intros;simp[go_sem]) ?_;intro l3 h3
       obtain⟨k3,s3⟩:=h3
       repeat' (first|(refine aE fun _ _=>?_)|refine zHg ?_|fail)
       try any_goals omega
       all_goals
        refine eW ⟨220,[],[(1000,bP aP 2 kd l3)]⟩ [] (Le.renSub [] [] (by simp[go_sem]) (by simp[go_sem]) (Le.sub4 rfl (by simp[go_sem]))) (by simp[go_sem]) ⟨_,hf.merge (by omega) (by omega) k2 s2 k3 s3,rfl,rfl⟩
     ·have s3:=r3.join_empty r4 (by omega) (by omega)
      repeat' (first|(refine aE fun _ _=>?_)|refine zHg ?_|((first|refine zqd ?_ ?_|refine zgd ?_ ?_)<;>(intro h;first|(exfalso;omega)|(simp only[h,zT])))|simp(disch:=omega) [go_sem])
      try any_goals omega
      all_goals
       refine eW ⟨220,[],[(1000,bP aP 2 kd l1)]⟩ [] (Le.renSub [] [] (by simp[go_sem]) (by simp[go_sem]) (Le.sub4 rfl (by simp[go_sem]))) (by simp[go_sem]) ⟨_,hf.merge (by omega) (by omega) k2 s2 (Keep.refl _ _ _) s3,rfl,rfl⟩
   ·have hR:Rot l l i m e:=by
     by_cases g:i<m
     ·obtain rfl:e=m:=by omega
      exact Rot.right _ _ _
     ·obtain rfl:i=m:=by omega
      exact Rot.left _ _ _
    have hf:=hv.done hp he hb hs1 hs2 hR
    repeat' (first|(refine aE fun _ _=>?_)|refine zHg ?_|((first|refine zqd ?_ ?_|refine zgd ?_ ?_)<;>(intro h;first|(exfalso;omega)|(simp only[h,zT])))|simp(disch:=omega) [go_sem,he1])
    try any_goals omega
    all_goals
     have hl1:l.length=l.length:=hf.keep.len
     by_cases g2:a<i/\i<mid
     ·obtain⟨g2a,g2b⟩:=g2
      have hc2:=ih l (fun x hx=>hS x (hf.keep.mem.1 hx)) (by omega) a i mid (by omega) (by omega) (by omega) (by omega) hf.r1 hf.r2
      rw[hl1]at hc2
      repeat' (first|(refine aE fun _ _=>?_)|refine zHg ?_|simp(disch:=omega) [go_sem]|refine zAo ?_|fail)
      try any_goals omega
      all_goals
       refine iE [] [] 10000 _ _ (Fits.mk' (by simp[go_sem]) (by simp[go_sem])) (by simp[go_sem]) (by simp[go_sem]) (hc2) (by simp[go_sem]) (by intros;simp[go_sem]) ?_;intro l2 h2
       obtain⟨k2,s2⟩:=h2
       have r3:=hf.r3.keep k2 (.inr (Nat.le_refl _))
       have r4:=hf.r4.keep k2 (.inr (by omega))
       have hl2:l2.length=l.length:=by rw[k2.len,hf.keep.len]
       by_cases g3:mid<e/\e<b
       ·obtain⟨g3a,g3b⟩:=g3
        have hc3:=ih l2 (fun x hx=>hS x (hf.keep.mem.1 (k2.mem.1 hx))) (by omega) mid e b (by omega) (by omega) (by omega) (by omega) r3 r4
        rw[hl2]at hc3
        repeat' (first|(refine aE fun _ _=>?_)|refine zHg ?_|fail)
        try any_goals omega
        all_goals
         refine iE [] [] 10000 _ _ (Fits.mk' (by simp[go_sem]) (by simp[go_sem])) (by simp[go_sem]) (by simp[go_sem]) (hc3) (by simp[go_sem]) (by intros;simp[go_sem]) ?_;intro l3 h3
         obtain⟨k3,s3⟩:=h3
         repeat' (first|(refine aE fun _ _=>?_)|refine zHg ?_|fail)
         try any_goals omega
         all_goals
          refine eW ⟨220,[],[(1000,bP aP 2 kd l3)]⟩ [] (Le.renSub [] [] (by simp[go_sem]) (by simp[go_sem]) (Le.sub4 rfl (by simp[go_sem]))) (by simp[go_sem]) ⟨_,hf.merge (by omega) (by omega) k2 s2 k3 s3,rfl,rfl⟩
       ·have s3:=r3.join_empty r4 (by omega) (by omega)
        repeat' (first|(refine aE fun _ _=>?_)|refine zHg ?_|fail)
        try any_goals omega
        all_goals
         refine eW ⟨220,[],[(1000,bP aP 2 kd l2)]⟩ [] (Le.renSub [] [] (by simp[go_sem]) (by simp[go_sem]) (Le.sub4 rfl (by simp[go_sem]))) (by simp[go_sem]) ⟨_,hf.merge (by omega) (by omega) k2 s2 (Keep.refl _ _ _) s3,rfl,rfl⟩
     ·have s2:=hf.r1.join_empty hf.r2 (by omega) (by omega)
      have k2:=Keep.refl l a mid
      have r3:=hf.r3.keep k2 (.inr (Nat.le_refl _))
      have r4:=hf.r4.keep k2 (.inr (by omega))
      have hl2:l.length=l.length:=by rw[k2.len,hf.keep.len]
      by_cases g3:mid<e/\e<b
      ·obtain⟨g3a,g3b⟩:=g3
       have hc3:=ih l (fun x hx=>hS x (hf.keep.mem.1 (k2.mem.1 hx))) (by omega) mid e b (by omega) (by omega) (by omega) (by omega) r3 r4
       rw[hl2]at hc3
       repeat' (first|(refine aE fun _ _=>?_)|refine zHg ?_|fail)
       try any_goals omega
       all_goals
        refine iE [] [] 10000 _ _ (Fits.mk' (by simp[go_sem]) (by simp[go_sem])) (by simp[go_sem]) (by simp[go_sem]) (hc3) (by simp[go_sem]) (by intros;simp[go_sem]) ?_;intro l3 h3
        obtain⟨k3,s3⟩:=h3
        repeat' (first|(refine aE fun _ _=>?_)|refine zHg ?_|simp(disch:=omega) [go_sem])
        try any_goals omega
        all_goals
         refine eW ⟨220,[],[(1000,bP aP 2 kd l3)]⟩ [] (Le.renSub [] [] (by simp[go_sem]) (by simp[go_sem]) (Le.sub4 rfl (by simp[go_sem]))) (by simp[go_sem]) ⟨_,hf.merge (by omega) (by omega) k2 s2 k3 s3,rfl,rfl⟩
      ·have s3:=r3.join_empty r4 (by omega) (by omega)
       repeat' (first|(refine aE fun _ _=>?_)|refine zHg ?_|simp(disch:=omega) [go_sem]|refine zAo ?_|fail)
       try any_goals omega
       all_goals
        refine eW ⟨220,[],[(1000,bP aP 2 kd l)]⟩ [] (Le.renSub [] [] (by simp[go_sem]) (by simp[go_sem]) (Le.sub4 rfl (by simp[go_sem]))) (by simp[go_sem]) ⟨_,hf.merge (by omega) (by omega) k2 s2 (Keep.refl _ _ _) s3,rfl,rfl⟩
 ·rw[if_neg hmm]at hs0 hr0
  rw[hs0,hr0]at hst
  clear hs0
  clear hr0
  repeat' (first|(refine aE fun _ _=>?_)|refine zHg ?_|(refine zqd ?_ ?_<;>(intro h;first|(exfalso;omega)|(simp only[h,zT])))|simp(disch:=omega) [go_sem,hm',hm2])
  try any_goals omega
  refine bZ [0,1,2,3,4,18,19,22] [] (fun x:Nat×Nat=> [(20,nt .i64 x.1),(21,nt .i64 x.2)]) (fun x:Nat×Nat=> []) (fun x:Nat×Nat=>x.2 - x.1) (fun x:Nat×Nat=>SymS cf l a m b mid x.1 x.2) ((a,m)) (Le.sub4 rfl (by simp[go_sem])) ⟨?_⟩ ?_
  ·exact hst
  intro⟨i,j⟩ hv AA hAA;simp only[kL,Nat.reduceBEq,Nat.reduceEqDiff]
  dsimp only at*
  have v1:=hv.ha
  have v2:=hv.hs
  have v3:=hv.hr
  have v4:=hv.hr2
  have v5:=hv.hb
  by_cases hlt:i<j
  ·obtain⟨mi,hmi⟩: ∃h,h=(i+j) / 2:=⟨_,rfl⟩
   have hm':((i:Int)+j).fdiv 2=(mi:Int):=by rw[Int.fdiv_eq_ediv_of_nonneg _ (by decide)];omega
   have hm2:((i:Int)+j) / 2=(mi:Int):=by omega
   have hhl:mi<l.length:=by omega
   have gh:l[mi]?=some l[mi]:=List.getElem?_eq_getElem hhl
   obtain⟨q,hq⟩: ∃q,q=mid+m - 1 - mi:=⟨_,rfl⟩
   have hq1:(mid:Int)+m - 1 - mi=(q:Int):=by omega
   have hql:q<l.length:=by omega
   have gq:l[q]?=some l[q]:=List.getElem?_eq_getElem hql
   have hu:=hcm q mi hql hhl
   by_cases hz:cf l[q] l[mi]<0
   ·repeat' (first|(refine aE fun _ _=>?_)|refine zHg ?_|((first|refine zqd ?_ ?_|refine zqn ?_ ?_)<;>(intro h;first|(exfalso;omega)|(simp only[h,zT])))|refine aI rfl (hu) (by simp) ?_|(refine(hAA.next ((i,mi)) (Le.sub4 rfl (by simp[go_sem])) (by(try dsimp only);omega) ?_))|simp(disch:=omega) [go_sem,hhl,hql,hm',hm2,hq1]|refine zDr 11 bA ?_|fail)
    exact⟨hv.left ⟨by omega,by omega⟩ (by rw[<-hq];exact gq) gh (by omega)⟩
   ·repeat' (first|(refine aE fun _ _=>?_)|refine zHg ?_|((first|refine zqd ?_ ?_|refine zqn ?_ ?_)<;>(intro h;first|(exfalso;omega)|(simp only[h,zT])))|refine aI rfl (hu) (by simp) ?_|(refine(hAA.next ((mi+1,j)) (Le.sub4 rfl (by simp[go_sem])) (by(try dsimp only);omega) ?_))|simp(disch:=omega) [go_sem,hhl,hql,hm',hm2,hq1]|refine zDr 11 bA ?_|fail)
    exact⟨hv.right ⟨by omega,by omega⟩ gh (by rw[<-hq];exact gq) (hp.sw _ _ hz)⟩
  ·obtain rfl:i=j:=by omega
   obtain⟨e,he⟩: ∃e,e=mid+m - i:=⟨_,rfl⟩
   have he1:(mid:Int)+m - i=(e:Int):=by omega
   by_cases g1:i<m/\m<e
   ·obtain⟨g1a,g1b⟩:=g1
    have hcr:=aS5 f kd l hl i m e g1a g1b (by omega)
    repeat' (first|(refine aE fun _ _=>?_)|refine zHg ?_|((first|refine zqd ?_ ?_|refine zgd ?_ ?_)<;>(intro h;first|(exfalso;omega)|(simp only[h,zT])))|simp(disch:=omega) [go_sem,he1])
    try any_goals omega
    refine iE [] [] 10000 _ _ (Fits.mk' (by simp[go_sem]) (by simp[go_sem])) (by simp[go_sem]) (by simp[go_sem]) (hcr) (by simp[go_sem]) (by intros;simp[go_sem]) ?_;intro l1 hR
    have hf:=hv.done hp he hb hs1 hs2 hR
    have hl1:l1.length=l.length:=hf.keep.len
    by_cases g2:a<i/\i<mid
    ·obtain⟨g2a,g2b⟩:=g2
     have hc2:=ih l1 (fun x hx=>hS x (hf.keep.mem.1 hx)) (by omega) a i mid (by omega) (by omega) (by omega) (by omega) hf.r1 hf.r2
     rw[hl1]at hc2
     repeat' (first|(refine aE fun _ _=>?_)|refine zHg ?_|((first|refine zqd ?_ ?_|refine zgd ?_ ?_)<;>(intro h;first|(exfalso;omega)|(simp only[h,zT])))|simp(disch:=omega) [go_sem])
     try any_goals omega
     all_goals
      refine iE [] [] 10000 _ _ (Fits.mk' (by simp[go_sem]) (by simp[go_sem])) (by simp[go_sem]) (by simp[go_sem]) (hc2) (by simp[go_sem]) (by intros;simp[go_sem]) ?_;intro l2 h2
      obtain⟨k2,s2⟩:=h2
      have r3:=hf.r3.keep k2 (.inr (Nat.le_refl _))
      have r4:=hf.r4.keep k2 (.inr (by omega))
      have hl2:l2.length=l.length:=by rw[k2.len,hf.keep.len]
      by_cases g3:mid<e/\e<b
      ·obtain⟨g3a,g3b⟩:=g3
       have hc3:=ih l2 (fun x hx=>hS x (hf.keep.mem.1 (k2.mem.1 hx))) (by omega) mid e b (by omega) (by omega) (by omega) (by omega) r3 r4
       rw[hl2]at hc3
       repeat' (first|(refine aE fun _ _=>?_)|refine zHg ?_|((first|refine zqd ?_ ?_|refine zgd ?_ ?_)<;>(intro h;first|(exfalso;omega)|(simp only[h,zT])))|simp(disch:=omega) [go_sem])
       try any_goals omega
       all_goals
        refine iE [] [] 10000 _ _ (Fits.mk' (by simp[go_sem]) (by simp[go_sem])) (by simp[go_sem]) (by simp[go_sem]) (hc3) (by simp[go_sem]) (by intros;simp[go_sem]) ?_;intro l3 h3
        obtain⟨k3,s3⟩:=h3
        repeat' (first|(refine aE fun _ _=>?_)|refine zHg ?_|simp(disch:=omega) [go_sem])
        try any_goals omega
        all_goals
         refine eW ⟨220,[],[(1000,bP aP 2 kd l3)]⟩ [] (Le.renSub [] [] (by simp[go_sem]) (by simp[go_sem]) (Le.sub4 rfl (by simp[go_sem]))) (by simp[go_sem]) ⟨_,hf.merge (by omega) (by omega) k2 s2 k3 s3,rfl,rfl⟩
      ·have s3:=r3.join_empty r4 (by omega) (by omega)
       repeat' (first|(refine aE fun _ _=>?_)|refine zHg ?_|(refine zgd ?_ ?_<;>(intro h;(exfalso;omega)))|simp(disch:=omega) [go_sem])
       try any_goals omega
       all_goals
        refine eW ⟨220,[],[(1000,bP aP 2 kd l2)]⟩ [] (Le.renSub [] [] (by simp[go_sem]) (by simp[go_sem]) (Le.sub4 rfl (by simp[go_sem]))) (by simp[go_sem]) ⟨_,hf.merge (by omega) (by omega) k2 s2 (Keep.refl _ _ _) s3,rfl,rfl⟩
    ·have s2:=hf.r1.join_empty hf.r2 (by omega) (by omega)
     have k2:=Keep.refl l1 a mid
     have r3:=hf.r3.keep k2 (.inr (Nat.le_refl _))
     have r4:=hf.r4.keep k2 (.inr (by omega))
     have hl2:l1.length=l.length:=by rw[k2.len,hf.keep.len]
     by_cases g3:mid<e/\e<b
     ·obtain⟨g3a,g3b⟩:=g3
      have hc3:=ih l1 (fun x hx=>hS x (hf.keep.mem.1 (k2.mem.1 hx))) (by omega) mid e b (by omega) (by omega) (by omega) (by omega) r3 r4
      rw[hl2]at hc3
      repeat' (first|(refine aE fun _ _=>?_)|refine zHg ?_|((first|refine zqd ?_ ?_|refine zgd ?_ ?_)<;>(intro h;first|(exfalso;omega)|(simp only[h,zT])))|simp(disch:=omega) [go_sem])
      try any_goals omega
      all_goals
       refine iE [] [] 10000 _ _ (Fits.mk' (by simp[go_sem]) (by simp[go_sem])) (by simp[go_sem]) (by simp[go_sem]) (hc3) (by simp[go_sem]) (by intros;simp[go_sem]) ?_;intro l3 h3
       obtain⟨k3,s3⟩:=h3
       repeat' (first|(refine aE fun _ _=>?_)|refine zHg ?_|simp(disch:=omega) [go_sem])
       try any_goals omega
       all_goals
        refine eW ⟨220,[],[(1000,bP aP 2 kd l3)]⟩ [] (Le.renSub [] [] (by simp[go_sem]) (by simp[go_sem]) (Le.sub4 rfl (by simp[go_sem]))) (by simp[go_sem]) ⟨_,hf.merge (by omega) (by omega) k2 s2 k3 s3,rfl,rfl⟩
     ·have s3:=r3.join_empty r4 (by omega) (by omega)
      repeat' (first|(refine aE fun _ _=>?_)|refine zHg ?_|((first|refine zqd ?_ ?_|refine zgd ?_ ?_)<;>(intro h;first|(exfalso;omega)|(simp only[h,zT])))|simp(disch:=omega) [go_sem])
      try any_goals omega
      all_goals
       refine eW ⟨220,[],[(1000,bP aP 2 kd l1)]⟩ [] (Le.renSub [] [] (by simp[go_sem]) (by simp[go_sem]) (Le.sub4 rfl (by simp[go_sem]))) (by simp[go_sem]) ⟨_,hf.merge (by omega) (by omega) k2 s2 (Keep.refl _ _ _) s3,rfl,rfl⟩
   ·have hR:Rot l l i m e:=by
     by_cases g:i<m
     ·obtain rfl:e=m:=by omega
      exact Rot.right _ _ _
     ·obtain rfl:i=m:=by omega
      exact Rot.left _ _ _
    have hf:=hv.done hp he hb hs1 hs2 hR
    repeat' (first|(refine aE fun _ _=>?_)|refine zHg ?_|((first|refine zqd ?_ ?_|refine zgd ?_ ?_)<;>(intro h;first|(exfalso;omega)|(simp only[h,zT])))|simp(disch:=omega) [go_sem,he1])
    try any_goals omega
    all_goals
     have hl1:l.length=l.length:=hf.keep.len
     by_cases g2:a<i/\i<mid
     ·obtain⟨g2a,g2b⟩:=g2
      have hc2:=ih l (fun x hx=>hS x (hf.keep.mem.1 hx)) (by omega) a i mid (by omega) (by omega) (by omega) (by omega) hf.r1 hf.r2
      rw[hl1]at hc2
      repeat' (first|(refine aE fun _ _=>?_)|refine zHg ?_|fail)
      try any_goals omega
      all_goals
       refine iE [] [] 10000 _ _ (Fits.mk' (by simp[go_sem]) (by simp[go_sem])) (by simp[go_sem]) (by simp[go_sem]) (hc2) (by simp[go_sem]) (by intros;simp[go_sem]) ?_;intro l2 h2
       obtain⟨k2,s2⟩:=h2
       have r3:=hf.r3.keep k2 (.inr (Nat.le_refl _))
       have r4:=hf.r4.keep k2 (.inr (by omega))
       have hl2:l2.length=l.length:=by rw[k2.len,hf.keep.len]
       by_cases g3:mid<e/\e<b
       ·obtain⟨g3a,g3b⟩:=g3
        have hc3:=ih l2 (fun x hx=>hS x (hf.keep.mem.1 (k2.mem.1 hx))) (by omega) mid e b (by omega) (by omega) (by omega) (by omega) r3 r4
        rw[hl2]at hc3
        repeat' (first|(refine aE fun _ _=>?_)|refine zHg ?_|(refine zgd ?_ ?_<;>(intro h;(exfalso;omega)))|simp(disch:=omega) [go_sem])
        try any_goals omega
        all_goals
         refine iE [] [] 10000 _ _ (Fits.mk' (by simp[go_sem]) (by simp[go_sem])) (by simp[go_sem]) (by simp[go_sem]) (hc3) (by simp[go_sem]) (by intros;simp[go_sem]) ?_;intro l3 h3
         obtain⟨k3,s3⟩:=h3
         repeat' (first|(refine aE fun _ _=>?_)|refine zHg ?_|fail)
         try any_goals omega
         all_goals
          refine eW ⟨220,[],[(1000,bP aP 2 kd l3)]⟩ [] (Le.renSub [] [] (by simp[go_sem]) (by simp[go_sem]) (Le.sub4 rfl (by simp[go_sem]))) (by simp[go_sem]) ⟨_,hf.merge (by omega) (by omega) k2 s2 k3 s3,rfl,rfl⟩
       ·have s3:=r3.join_empty r4 (by omega) (by omega)
        repeat' (first|(refine aE fun _ _=>?_)|refine zHg ?_|(refine zgd ?_ ?_<;>(intro h;first|(exfalso;omega)|(simp only[h,zT])))|simp(disch:=omega) [go_sem])
        try any_goals omega
        all_goals
         refine eW ⟨220,[],[(1000,bP aP 2 kd l2)]⟩ [] (Le.renSub [] [] (by simp[go_sem]) (by simp[go_sem]) (Le.sub4 rfl (by simp[go_sem]))) (by simp[go_sem]) ⟨_,hf.merge (by omega) (by omega) k2 s2 (Keep.refl _ _ _) s3,rfl,rfl⟩
     ·have s2:=hf.r1.join_empty hf.r2 (by omega) (by omega)
      have k2:=Keep.refl l a mid
      have r3:=hf.r3.keep k2 (.inr (Nat.le_refl _))
      have r4:=hf.r4.keep k2 (.inr (by omega))
      have hl2:l.length=l.length:=by rw[k2.len,hf.keep.len]
      by_cases g3:mid<e/\e<b
      ·obtain⟨g3a,g3b⟩:=g3
       have hc3:=ih l (fun x hx=>hS x (hf.keep.mem.1 (k2.mem.1 hx))) (by omega) mid e b (by omega) (by omega) (by omega) (by omega) r3 r4
       rw[hl2]at hc3
       repeat' (first|(refine aE fun _ _=>?_)|refine zHg ?_|simp(disch:=omega) [go_sem]|refine zAo ?_|fail)
       try any_goals omega
       all_goals
        refine iE [] [] 10000 _ _ (Fits.mk' (by simp[go_sem]) (by simp[go_sem])) (by simp[go_sem]) (by simp[go_sem]) (hc3) (by simp[go_sem]) (by intros;simp[go_sem]) ?_;intro l3 h3
        obtain⟨k3,s3⟩:=h3
        repeat' (first|(refine aE fun _ _=>?_)|refine zHg ?_|fail)
        try any_goals omega
        all_goals
         refine eW ⟨220,[],[(1000,bP aP 2 kd l3)]⟩ [] (Le.renSub [] [] (by simp[go_sem]) (by simp[go_sem]) (Le.sub4 rfl (by simp[go_sem]))) (by simp[go_sem]) ⟨_,hf.merge (by omega) (by omega) k2 s2 k3 s3,rfl,rfl⟩
      ·have s3:=r3.join_empty r4 (by omega) (by omega)
       repeat' (first|(refine aE fun _ _=>?_)|refine zHg ?_|simp(disch:=omega) [go_sem]|refine zAo ?_|fail)
       try any_goals omega
       all_goals
        refine eW ⟨220,[],[(1000,bP aP 2 kd l)]⟩ [] (Le.renSub [] [] (by simp[go_sem]) (by simp[go_sem]) (Le.sub4 rfl (by simp[go_sem]))) (by simp[go_sem]) ⟨_,hf.merge (by omega) (by omega) k2 s2 (Keep.refl _ _ _) s3,rfl,rfl⟩
theorem dIo (f:FuncId) (cf:Tm->Tm->Int) (hp:Pre cf) (kd:Nat) (S:Tm->Prop) (hc: ∀x y,S x->S y->ACall prog f [eT x,eT y] (fun r=>r=nt .i64 (cf x y))) (l:List Tm) (hS: ∀x∈l,S x) (hl:l.length<=140737488355328):
 MCall prog 128 [.ref 1000 0 l.length,nt .i64 l.length,.clo f []] [(1000,bP aP 2 kd l)] (fun r o'=> ∃l',(l'.Perm l/\SrtOn cf l' 0 l.length)/\r= .tup []/\o'= [(1000,bP aP 2 kd l')]):=by
 have hS': ∀{l':List Tm},l'.Perm l-> ∀x∈l',S x:=fun hp x hx=>hS x (hp.mem_iff.1 hx)
 refine dM func128 call128 rfl (by simp[ntmps128]) ?_;simp only[ntmps128,results128]
 repeat' (first|(refine aE fun _ _=>?_)|refine zHg ?_|simp(disch:=omega) [go_sem])
 refine bZ [0,1,2,6] [1000] (fun x:Nat×List Tm=> [(7,nt .i64 x.1),(8,nt .i64 (x.1+20:Nat))]) (fun x:Nat×List Tm=> [(1000,bP aP 2 kd x.2)]) (fun x:Nat×List Tm=>l.length - x.1) (fun x:Nat×List Tm=>x.1<=l.length/\x.2.Perm l/\Full cf x.2 20 x.1) ((0,l)) (Le.sub4 rfl (by simp[go_sem])) ⟨?_⟩ ?_
 ·exact⟨Nat.zero_le _,.refl _,.zero⟩
 intro⟨a,l1⟩ ⟨ha,hpm,hf⟩ AA hAA;simp only[kL,Nat.reduceBEq,Nat.reduceEqDiff]
 dsimp only at*
 have hl1:=hpm.length_eq
 by_cases hlt:a+20<=l.length
 ·have hi:=aS4 f cf hp kd l1 (by omega) (fun x hx y hy=>hc x y (hS' hpm x hx) (hS' hpm y hy)) a (a+20) (by omega) (by omega)
  rw[hl1]at hi
  repeat' (first|(refine aE fun _ _=>?_)|refine zHg ?_|(refine zqd ?_ ?_<;>(intro h;first|(exfalso;omega)|(simp only[h,zT])))|simp(disch:=omega) [go_sem])
  try any_goals omega
  refine iE [] [] 10000 _ _ (Fits.mk' (by simp[go_sem]) (by simp[go_sem])) (by simp[go_sem]) (by simp[go_sem]) (hi) (by simp[go_sem]) (by intros;simp[go_sem]) ?_;intro l2 h2
  obtain⟨k2,s2⟩:=h2
  repeat' (first|(refine aE fun _ _=>?_)|refine zHg ?_|(refine(hAA.next ((a+20,l2)) (Le.sub4 rfl (by simp[go_sem])) (by(try dsimp only);omega) ?_))|simp(disch:=omega) [go_sem])
  try any_goals omega
  exact⟨⟨by omega,k2.perm.trans hpm,(hf.keep k2 (Nat.le_refl _)).snoc s2⟩⟩
 ·have hi:=aS4 f cf hp kd l1 (by omega) (fun x hx y hy=>hc x y (hS' hpm x hx) (hS' hpm y hy)) a l.length ha (by omega)
  rw[hl1]at hi
  repeat' (first|(refine aE fun _ _=>?_)|refine zHg ?_|(refine zqd ?_ ?_<;>(intro h;first|(exfalso;omega)|(simp only[h,zT])))|simp(disch:=omega) [go_sem])
  try any_goals omega
  refine iE [] [] 10000 _ _ (Fits.mk' (by simp[go_sem]) (by simp[go_sem])) (by simp[go_sem]) (by simp[go_sem]) (hi) (by simp[go_sem]) (by intros;simp[go_sem]) ?_;intro l2 h2
  obtain⟨k2,s2⟩:=h2
  have hb0:Blk cf l2 20 l.length 0:=(hf.keep k2 (Nat.le_refl _)).append ha (.last (by omega) s2)
  have hp2:=k2.perm.trans hpm
  repeat' (first|(refine aE fun _ _=>?_)|refine zHg ?_|simp(disch:=omega) [go_sem])
  refine bZ [0,1,2] [1000] (fun x:Nat×List Tm=> [(6,nt .i64 x.1)]) (fun x:Nat×List Tm=> [(1000,bP aP 2 kd x.2)]) (fun x:Nat×List Tm=>l.length - x.1) (fun x:Nat×List Tm=>20<=x.1/\x.1<=281474976710656/\x.2.Perm l/\Blk cf x.2 x.1 l.length 0) ((20,l2)) (Le.sub4 rfl (by simp[go_sem])) ⟨?_⟩ ?_
  ·exact⟨Nat.le_refl _,by(try dsimp only);omega,hp2,hb0⟩
  intro⟨bs,l3⟩ ⟨hbs,hbs2,hp3,hb3⟩ AA hAA;simp only[kL,Nat.reduceBEq,Nat.reduceEqDiff]
  dsimp only at*
  have hl3:=hp3.length_eq
  have hcm:(bs:Int)*2=2*bs:=Int.mul_comm _ _
  by_cases hlt2:bs<l.length
  ·have hAB:=hAA
   repeat' (first|(refine aE fun _ _=>?_)|refine zHg ?_|(refine zqd ?_ ?_<;>(intro h;first|(exfalso;omega)|(simp only[h,zT])))|simp(disch:=omega) [go_sem])
   try any_goals omega
   refine bZ [0,1,2,6] [1000] (fun x:Nat×List Tm=> [(7,nt .i64 x.1),(8,nt .i64 (x.1+2*bs:Nat))]) (fun x:Nat×List Tm=> [(1000,bP aP 2 kd x.2)]) (fun x:Nat×List Tm=>l.length - x.1) (fun x:Nat×List Tm=>x.1<=l.length/\x.2.Perm l/\Full cf x.2 (2*bs) x.1/\Blk cf x.2 bs l.length x.1) ((0,l3)) (Le.sub4 rfl (by simp[go_sem])) ⟨?_⟩ ?_
   ·exact⟨Nat.zero_le _,hp3,.zero,hb3⟩
   intro⟨c,l4⟩ ⟨hca,hp4,hf4,hb4⟩ AA hAA;simp only[kL,Nat.reduceBEq,Nat.reduceEqDiff]
   dsimp only at*
   have hl4:=hp4.length_eq
   by_cases hlt3:c+2*bs<=l.length
   ·obtain⟨t1,t2,t3⟩:=hb4.two (by omega) hlt3
    have hi:=aS6 f cf hp kd S hc _ l4 (hS' hp4) (by omega) c (c+bs) (c+2*bs) (Nat.le_refl _) (by omega) (by omega) (by omega) t1 t2
    rw[hl4]at hi
    repeat' (first|(refine aE fun _ _=>?_)|refine zHg ?_|(refine zqd ?_ ?_<;>(intro h;first|(exfalso;omega)|(simp only[h,zT])))|simp(disch:=omega) [go_sem])
    try any_goals omega
    refine iE [] [] 10000 _ _ (Fits.mk' (by simp[go_sem]) (by simp[go_sem])) (by simp[go_sem]) (by simp[go_sem]) (hi) (by simp[go_sem]) (by intros;simp[go_sem]) ?_;intro l5 h5
    obtain⟨k5,s5⟩:=h5
    repeat' (first|(refine aE fun _ _=>?_)|refine zHg ?_|(refine(hAA.next ((c+2*bs,l5)) (Le.sub4 rfl (by simp[go_sem])) (by(try dsimp only);omega) ?_))|simp(disch:=omega) [go_sem])
    try any_goals omega
    exact⟨⟨by omega,k5.perm.trans hp4,(hf4.keep k5 (Nat.le_refl _)).snoc s5,t3.keep k5 (Nat.le_refl _)⟩⟩
   ·by_cases hlt4:c+bs<l.length
    ·obtain⟨t1,t2⟩:=hb4.rest (by omega) (by omega) hlt4
     have hi:=aS6 f cf hp kd S hc _ l4 (hS' hp4) (by omega) c (c+bs) l.length (Nat.le_refl _) (by omega) hlt4 (by omega) t1 t2
     rw[hl4]at hi
     repeat' (first|(refine aE fun _ _=>?_)|refine zHg ?_|(refine zqd ?_ ?_<;>(intro h;first|(exfalso;omega)|(simp only[h,zT])))|simp(disch:=omega) [go_sem])
     try any_goals omega
     refine iE [] [] 10000 _ _ (Fits.mk' (by simp[go_sem]) (by simp[go_sem])) (by simp[go_sem]) (by simp[go_sem]) (hi) (by simp[go_sem]) (by intros;simp[go_sem]) ?_;intro l5 h5
     obtain⟨k5,s5⟩:=h5
     repeat' (first|(refine aE fun _ _=>?_)|refine zHg ?_|(refine(hAB.next ((2*bs,l5)) (Le.sub4 rfl (by simp[go_sem,hcm])) (by(try dsimp only);omega) ?_))|simp(disch:=omega) [go_sem])
     try any_goals omega
     exact⟨⟨by omega,by omega,k5.perm.trans hp4,(hf4.keep k5 (Nat.le_refl _)).append (by omega) (.last (by omega) s5)⟩⟩
    ·repeat' (first|(refine aE fun _ _=>?_)|refine zHg ?_|(refine zqd ?_ ?_<;>(intro h;first|(exfalso;omega)|(simp only[h,zT])))|(refine(hAB.next ((2*bs,l4)) (Le.sub4 rfl (by simp[go_sem,hcm])) (by(try dsimp only);omega) ?_))|simp(disch:=omega) [go_sem])
     try any_goals omega
     exact⟨⟨by omega,by omega,hp4,hf4.append hca (.last (by omega) (hb4.one (by omega)))⟩⟩
  ·repeat' (first|(refine aE fun _ _=>?_)|refine zHg ?_|(refine zqd ?_ ?_<;>(intro h;first|(exfalso;omega)|(simp only[h,zT])))|simp(disch:=omega) [go_sem])
   try any_goals omega
   refine eW ⟨63,[],[(1000,bP aP 2 kd l3)]⟩ [] (Le.renSub [] [] (by simp[go_sem]) (by simp[go_sem]) (Le.sub4 rfl (by simp[go_sem]))) (by simp[go_sem]) ⟨l3,⟨hp3,hb3.one (by omega)⟩,rfl,rfl⟩
theorem dIp (f:FuncId) (cf:Tm->Tm->Int) (hp:Pre cf) (kd:Nat) (S:Tm->Prop) (hc: ∀x y,S x->S y->ACall prog f [eT x,eT y] (fun r=>r=nt .i64 (cf x y))) (l:List Tm) (hS: ∀x∈l,S x) (hl:l.length<=140737488355328):
 MCall prog 78 [.ref 1000 0 l.length,.clo f []] [(1000,bP aP 2 kd l)] (fun r o'=> ∃l',(l'.Perm l/\SrtOn cf l' 0 l.length)/\r= .tup []/\o'= [(1000,bP aP 2 kd l')]):=by
 have hi:=dIo f cf hp kd S hc l hS hl
 refine dM func78 call78 rfl (by simp[ntmps78]) ?_;simp only[ntmps78,results78]
 repeat' (first|(refine aE fun _ _=>?_)|refine zHg ?_|simp(disch:=omega) [go_sem])
 refine iE [] [] 10000 _ _ (Fits.mk' (by simp[go_sem]) (by simp[go_sem])) (by simp[go_sem]) (by simp[go_sem]) (hi) (by simp[go_sem]) (by intros;simp[go_sem]) ?_;intro l2 h2
 repeat' (first|(refine aE fun _ _=>?_)|refine zHg ?_|simp(disch:=omega) [go_sem])
 refine eW ⟨9,[],[(1000,bP aP 2 kd l2)]⟩ [] (Le.renSub [] [] (by simp[go_sem]) (by simp[go_sem]) (Le.sub4 rfl (by simp[go_sem]))) (by simp[go_sem]) ⟨l2,h2,rfl,rfl⟩
theorem aS7 (l:List Tm) (le fu:Bool) (hb:l.length<=1000000):ACall prog 69 [.list le fu (l.map aP)] (fun r=>r= .own 2 (l.map aP)):=by
 cases l with
 |nil=>
  refine ACall.own_nil ?_
  simp only[List.map_nil]
  refine aX func69 call69 rfl (by simp[ntmps69]) ?_;simp only[ntmps69,results69]
  repeat' (first|(refine aE fun _ _=>?_)|refine zHg ?_|(refine aL [] ?_;simp[go_sem])|simp(disch:=omega) [go_sem]|(refine dL fun bq=>?_)|(refine zqs ?_ ?_<;>(intro h;((try simp only[h]);(try simp at h)))))
 |cons x l=>
  simp only[List.map_cons,List.length_cons]at*
  refine aX func69 call69 rfl (by simp[ntmps69]) ?_;simp only[ntmps69,results69]
  repeat' (first|(refine aE fun _ _=>?_)|refine zHg ?_|(refine aL [] ?_;simp[go_sem])|simp(disch:=omega) [go_sem]|refine zAo ?_|fail)
theorem aS8 (l:List Tm) (le fu:Bool) (hb:l.length<=1000000) (hz: ∀t∈l,t.size<=1000000):ACall prog 34 [.list le fu (l.map aP)] (fun r=>r= .own 2 ((dK l).map aP)):=by
 have hcl:=aS7 l le fu hb
 have hso:=dIp 73 cS cZr 0 (fun _=>True) (fun x y _ _=>yC x y) l (fun _ _=>trivial) (by omega)
 generalize hR:dK l=R
 refine aX func34 call34 rfl (by simp[ntmps34]) ?_;simp only[ntmps34,results34]
 repeat' (first|(refine aE fun _ _=>?_)|refine zHg ?_|refine aI rfl (hcl) (by simp) ?_|simp(disch:=omega) [go_sem])
 refine iE [(1000,8)] [(8,1000),(1000,8)] 10000 _ _ (Fits.mk' (by simp[go_sem]) (by simp[go_sem])) (by simp[go_sem]) (by simp[go_sem]) (hso) (by simp[go_sem]) (by intros;simp[go_sem]) ?_;intro m hm
 obtain⟨hp,hs⟩:=hm
 have hln:=hp.length_eq
 have hzm: ∀t∈m,t.size<=1000000:=fun t ht=>hz t (hp.mem_iff.1 ht)
 have hfin:=cZs hp hs
 rw[hR]at hfin
 clear hR
 have hdl: ∀i,(kJ m i).length<=i:=fun i=>by
  induction i with
  |zero=>exact Nat.le_refl _
  |succ i ih=>
   unfold kJ
   split
   ·split
    ·rw[List.length_append];simp;exact ih
    ·omega
   ·omega
 have d0:kJ m 0= []:=rfl
 repeat' (first|(refine aE fun _ _=>?_)|refine zHg ?_|simp(disch:=omega) [go_sem])
 refine bZ [3,11,12] [900] (fun i:Nat=> [(13,nt .i64 i),(4,.ref 900 0 (kJ m i).length)]) (fun i:Nat=> [(900,⟨true,false,false,2,(kJ m i).map aP,0⟩)]) (fun i:Nat=>l.length - i) (fun i:Nat=>i<=l.length) (0) (by refine Le.trans ?_ (Le.nil (i:=4) (T:=900) (es:=2) rfl);exact(Le.sub4 rfl (by simp[go_sem,d0,List.map_nil]))) ⟨?_⟩ ?_
 ·exact Nat.zero_le _
 intro i hi AA hAA;simp only[kL,Nat.reduceBEq,Nat.reduceEqDiff]
 have hdi:=hdl i
 by_cases hlt:i<l.length
 ·have him:i<m.length:=by omega
  have hnx:=aOb him
  have hcc:=dIl m[i] (hzm _ (List.getElem_mem him))
  by_cases h0:i=0
  ·subst h0
   rw[if_pos (.inl rfl)]at hnx
   generalize kJ m 0=A at*
   repeat' (first|(refine aE fun _ _=>?_)|refine zHg ?_|(refine zqd ?_ ?_<;>(intro h;first|(exfalso;omega)|(simp only[h,zT])))|refine aI rfl (hcc) (by simp) ?_|(refine(hAA.next (0+1) (Le.sub4 rfl (by simp[go_sem,hnx])) (by(try dsimp only);omega) ?_))|simp(disch:=omega) [go_sem,him]|refine zAo ?_|refine zDr 12 bA ?_|fail)
   try any_goals omega
   exact⟨hlt⟩
  ·have h1:i - 1<m.length:=by omega
   have e1:((i:Int) - 1).toNat=i - 1:=by omega
   have hd:m.getD (i - 1) m[i]=m[i - 1]:=by rw[List.getD_eq_getElem?_getD,List.getElem?_eq_getElem h1];rfl
   rw[hd]at hnx
   have hu:=yC m[i - 1] m[i]
   have h0': ¬(i:Int)=0:=by omega
   by_cases hq:cS m[i - 1] m[i]=0
   ·rw[if_neg (by simp[h0,hq])]at hnx
    rw[hq]at hu
    generalize kJ m i=A at*
    repeat' (first|(refine aE fun _ _=>?_)|refine zHg ?_|((first|refine zqd ?_ ?_|refine zdd ?_ ?_)<;>(intro h;first|(exfalso;omega)|(simp only[h,zT])))|refine bI rfl (hu) rfl (by simp) ?_|(refine(hAA.next (i+1) (Le.sub4 rfl (by simp[go_sem,hnx])) (by(try dsimp only);omega) ?_))|simp(disch:=omega) [go_sem,him,h1,e1,h0']|refine zAo ?_|refine zDr 12 bA ?_|fail)
    try any_goals omega
    exact⟨hlt⟩
   ·rw[if_pos (.inr hq)]at hnx
    generalize cS m[i - 1] m[i]=c at*
    generalize kJ m i=A at*
    repeat' (first|(refine aE fun _ _=>?_)|refine zHg ?_|((first|refine zqd ?_ ?_|refine zdd ?_ ?_)<;>(intro h;first|(exfalso;omega)|(simp only[h,zT])))|refine bI rfl (hu) rfl (by simp) ?_|refine aI rfl (hcc) (by simp) ?_|(refine(hAA.next (i+1) (Le.sub4 rfl (by simp[go_sem,hnx])) (by(try dsimp only);omega) ?_))|simp(disch:=omega) [go_sem,him,h1,e1,h0',hq]|refine zAo ?_|refine zDr 12 bA ?_|fail)
    try any_goals omega
    exact⟨hlt⟩
 ·obtain rfl:i=l.length:=by omega
  rw[<-hln,hfin]
  repeat' (first|(refine aE fun _ _=>?_)|refine zHg ?_|(refine aL [] ?_;simp[go_sem])|simp(disch:=omega) [go_sem])
theorem aS9 {t:Tm}: ∀{o:List Tm} {k:Nat},k<=o.length->(∀(j:Nat) (h:j<o.length),j<k->cS o[j] t<0)->(∀h:k<o.length,¬cS o[k] t<0)->
 fE t o=if ∃h:k<o.length,cS o[k] t=0 then o else o.take k++t::o.drop k
 | [],k,hk,_,_=>by
  obtain rfl:k=0:=by simpa using hk
  simp[fE]
 |u::r,0,_,_,h2=>by
  have h3:=h2 (by simp)
  simp only[List.getElem_cons_zero]at h3
  unfold fE
  rw[if_neg h3]
  by_cases h4:cS u t=0
  ·rw[if_pos h4,if_pos ⟨by simp,h4⟩]
  ·rw[if_neg h4,if_neg (by rintro⟨_,h⟩;exact h4 h)];simp
 |u::r,k+1,hk,h1,h2=>by
  have h3:=h1 0 (by simp) (by omega)
  simp only[List.getElem_cons_zero]at h3
  unfold fE
  rw[if_pos h3,aS9 (k:=k) (by simpa using hk) (fun j h hj=>by have:=h1 (j+1) (by simpa using h) (by omega);simpa using this) (fun h=>by have:=h2 (by simpa using h);simpa using this)]
  by_cases h4: ∃h:k<r.length,cS r[k] t=0
  ·rw[if_pos h4,if_pos (by obtain⟨h,e⟩:=h4;exact⟨by simpa using h,by simpa using e⟩)]
  ·rw[if_neg h4,if_neg (by rintro⟨h,e⟩;exact h4 ⟨by simpa using h,by simpa using e⟩)];simp
theorem dIq {l:List Tm} {k:Nat} {y:AV} (h:y∈List.take k (l.map aP)):y.cells.length=2:=by
 obtain⟨t,_,rfl⟩:=List.mem_map.1 (List.mem_of_mem_take h)
 rw[jH];rfl
theorem dIr {l:List Tm} {k:Nat} {y:AV} (h:y∈List.drop k (l.map aP)):y.cells.length=2:=by
 obtain⟨t,_,rfl⟩:=List.mem_map.1 (List.mem_of_mem_drop h)
 rw[jH];rfl
theorem dIs (l:List Tm) (le fu:Bool) (t:Tm) (cf:Tm->Int) (hcmp: ∀r∈l,ACall prog 73 [aP r,eT t] (fun x=>x=nt .i64 (cf r))) (c:Nat) (hc:c<=l.length)
 (h1: ∀(k:Nat) (hk:k<l.length),k<c->cf l[k]<0) (h2: ∀(k:Nat) (hk:k<l.length),c<=k->0<=cf l[k]):
 ACall prog 119 [.list le fu (l.map aP),eT t,.clo 73 []] (fun x=>x= .tup [nt .i64 c,bl (match l[c]? with
  |some r=>decide (cf r=0)
  |none=>false)]):=by
 refine ACall.bound (i:=0) rfl call119 fun hb=>?_
 rw[List.length_map]at hb
 have hb:l.length<=140737488355328:=hb
 generalize hR:(match l[c]? with
  |some r=>decide (cf r=0)
  |none=>false)=R
 refine aX func119 call119 rfl (by simp[ntmps119]) ?_;simp only[ntmps119,results119]
 repeat' (first|(refine aE fun _ _=>?_)|refine zHg ?_|simp(disch:=omega) [go_sem])
 refine bZ [0,2,4,8] [] (fun x:Nat×Nat=> [(9,nt .i64 x.1),(10,nt .i64 x.2)]) (fun x:Nat×Nat=> []) (fun x:Nat×Nat=>x.2 - x.1) (fun x:Nat×Nat=>x.1<=c/\c<=x.2/\x.2<=l.length) ((0,l.length)) (Le.sub4 rfl (by simp[go_sem])) ⟨?_⟩ ?_
 ·exact⟨Nat.zero_le _,hc,Nat.le_refl _⟩
 intro⟨i,j⟩ ⟨hi,hj,hl⟩ AA hAA;simp only[kL,Nat.reduceBEq,Nat.reduceEqDiff]
 dsimp only at*
 by_cases hij:i<j
 ·obtain⟨m,hm⟩: ∃m,m=(i+j) / 2:=⟨_,rfl⟩
  have hm':((i:Int)+j).fdiv 2=(m:Int):=by rw[Int.fdiv_eq_ediv_of_nonneg _ (by decide)];omega
  have hm2:((i:Int)+j) / 2=(m:Int):=by omega
  have hml:m<l.length:=by omega
  have hu:=hcmp l[m] (List.getElem_mem hml)
  rw[jH]at hu
  by_cases hq:cf l[m]<0
  ·have hlt:m<c:=Nat.lt_of_not_le fun hh=>by have:=h2 m hml hh;omega
   repeat' (first|(refine aE fun _ _=>?_)|refine zHg ?_|(refine zqd ?_ ?_<;>(intro h;first|(exfalso;omega)|(simp only[h,zT])))|refine bI rfl (hu) rfl (by simp) ?_|(refine(hAA.next ((m+1,j)) (Le.sub4 rfl (by simp[go_sem])) (by(try dsimp only);omega) ?_))|simp(disch:=omega) [go_sem,hml,hm',hm2]|refine zDr 8 bA ?_|fail)
   exact⟨⟨by omega,hj,hl⟩⟩
  ·have hge:c<=m:=Nat.le_of_not_lt fun hh=>hq (h1 m hml hh)
   repeat' (first|(refine aE fun _ _=>?_)|refine zHg ?_|(refine zqd ?_ ?_<;>(intro h;first|(exfalso;omega)|(simp only[h,zT])))|refine bI rfl (hu) rfl (by simp) ?_|(refine(hAA.next ((i,m)) (Le.sub4 rfl (by simp[go_sem])) (by(try dsimp only);omega) ?_))|simp(disch:=omega) [go_sem,hml,hm',hm2]|refine zDr 8 bA ?_|fail)
   exact⟨⟨hi,hge,by omega⟩⟩
 ·obtain rfl:i=c:=by omega
  obtain rfl:j=i:=by omega
  by_cases hcl:j<l.length
  ·have hu:=hcmp l[j] (List.getElem_mem hcl)
   rw[jH]at hu
   rw[List.getElem?_eq_getElem hcl]at hR
   dsimp only at hR
   subst hR
   repeat' (first|(refine aE fun _ _=>?_)|refine zHg ?_|(refine aL [] ?_;simp[go_sem,hcl])|refine bI rfl (hu) rfl (by simp) ?_|simp(disch:=omega) [go_sem,hcl]|refine zDr 16 bA ?_|fail)
  ·rw[List.getElem?_eq_none (by omega)]at hR
   dsimp only at hR
   subst hR
   repeat' (first|(refine aE fun _ _=>?_)|refine zHg ?_|(refine aL [] ?_;simp[go_sem,hcl])|simp(disch:=omega) [go_sem,hcl]|refine zDr 16 bA ?_|fail)
def mW (s:List Tm) (t:Tm):Nat:=s.findIdx fun u=> !decide (cS u t<0)
theorem aAf (s:List Tm) (t:Tm):mW s t<=s.length:=List.findIdx_le_length
theorem aGs {s:List Tm} {t:Tm} {k:Nat} (hk:k<s.length) (h:k<mW s t):cS s[k] t<0:=by
 have:=List.not_of_lt_findIdx (xs:=s) (p:=fun u=> !decide (cS u t<0)) h
 simpa using this
theorem aGt {s:List Tm} (ha:gI s) {t:Tm} {k:Nat} (hk:k<s.length) (h:mW s t<=k):0<=cS s[k] t:=by
 have hc:mW s t<s.length:=by omega
 have h1: ¬cS s[mW s t] t<0:=by
  have:=List.findIdx_getElem (xs:=s) (p:=fun u=> !decide (cS u t<0)) (w:=hc)
  exact of_decide_eq_false (Bool.not_eq_true' _▸this)
 rcases Nat.lt_or_eq_of_le h with h|h
 ·have h2:=List.pairwise_iff_getElem.1 ha _ _ hc hk h
  refine Classical.byContradiction fun h3=>?_
  exact h1 (aN9 h2 (by omega))
 ·simp only[h]at h1;omega
theorem dIt (args:Array Value) (w:World):(callFunc 155 args).run prog w=((Extern.SlicesOverlaps.overlaps #[23,23] #[4] args).run prog w).andThen fun v w'=> .ok (.value v) w':=
 run_callFunc_extern func155 (by kernel_rfl) (by kernel_rfl) (by kernel_rfl) (e:=Extern.SlicesOverlaps.overlaps #[23,23] #[4]) (by kernel_rfl) args w
abbrev qA (l:List Tm) (x:Tm):aK:= [(1000,⟨true,false,true,2,l.map aP,0⟩),(1001,⟨true,false,true,2,[aP x],0⟩)]
abbrev tJ (l:List Tm):aK:= [(1002,⟨true,false,false,2,l.map aP,0⟩)]
theorem aAg {α:Type} {p r ys:List α} {n:Nat} (h:n=p.length):splice (p++r) ys n=p++(ys++r.drop ys.length):=by
 subst h
 rw[splice,List.take_append_of_le_length (Nat.le_refl _),List.take_length,List.append_assoc]
 congr 2
 rw[List.drop_append,List.drop_eq_nil_of_le (by omega),List.nil_append]
 congr 1;omega
theorem dIu {α:Type} {p r:List α} {n:Nat} (h:n=p.length):dC (p++r) 0 n=p:=by
 subst h
 rw[I3]
 split
 ·rename_i hh
  have:=hh.2
  simp at this
  subst this;simp
 ·simp
theorem dIv {α:Type} {p r:List α} {n k:Nat} (h:n=p.length) (hk:k=r.length):dC (p++r) n k=r:=by
 subst h;subst hk
 rw[I3]
 split
 ·rename_i hh
  obtain rfl:p= []:=List.length_eq_zero_iff.1 hh.1
  rfl
 ·simp
abbrev zTm:AV:= .agg [.sc (.string ⟨#[]⟩),.list false true []]
theorem aAh:aEn prog 3=true:=by kernel_rfl
theorem dIw (A B:List Tm) (x:Tm) (hb:(A++B).length<=10000000):
 MCall prog 120 [.ref 1000 0 (A++B).length,nt .i64 A.length,.ref 1001 0 1] (qA (A++B) x) (fun r o'=>r= .ref 1002 0 ((A++B).length+1)/\o'=tJ (A++x::B)):=by
 cases B with
 |nil=>
  rw[List.append_nil]at*
  refine dM func120 call120 rfl (by simp[ntmps120]) ?_;simp only[ntmps120,results120]
  repeat' (first|(refine aE fun _ _=>?_)|refine zHg ?_|simp(disch:=omega) [go_sem,qA]|refine zAo ?_|fail)
  try any_goals omega
  refine dN ⟨95,[(6,.ref 1002 0 (A.length+1))],tJ (A++ [x])⟩ [.ref 1002 0 (A.length+1)] (by refine Le.trans ?_ (Le.move (i:=6) (T:=25) (T':=1002) rfl (by show(0:Nat)≠1;decide) rfl rfl rfl);exact(Le.sub4 rfl (by simp[go_sem,tJ]))) (by simp[go_sem,tJ]) ⟨rfl,rfl⟩
 |cons y B=>
  refine bQn func120 call120 rfl (by simp[ntmps120]) rfl (by simp) fun c hc=>?_
  skip
  have hle:(A++y::B).length=A.length+(B.length+1):=by simp
  generalize(A++y::B).length=n at*
  have hk:((n:Int)+1 - A.length).toNat=B.length+2:=by omega
  have hna:n - A.length=B.length+1:=by omega
  have hn1:n+1 - A.length=B.length+2:=by omega
  have hn2:n+1 - (A.length+1)=B.length+1:=by omega
  simp only[ntmps120,results120]
  have hsum:A.length+(B.length+2)=n+1:=by omega
  have hs1:dC (A.map aP++eT y::B.map aP) 0 A.length=A.map aP:=dIu (by simp)
  have hs2:dC (A.map aP++eT y::B.map aP) A.length (B.length+1)=eT y::B.map aP:=dIv (by simp) (by simp)
  have hp1:splice (A.map aP++List.replicate (B.length+2) zTm) [eT x] A.length=A.map aP++eT x::List.replicate (B.length+1) zTm:=by
   rw[aAg (by simp)];simp
  have hp2:splice (A.map aP++eT x::List.replicate (B.length+1) zTm) (eT y::B.map aP) (A.length+1)=A.map aP++eT x::eT y::B.map aP:=by
   rw[List.append_cons,aAg (by simp)];simp
  have hp3:splice (A.map aP++eT y::B.map aP) (eT y::B.map aP) (A.length+1)=A.map aP++eT y::eT y::B.map aP:=by
   rw[List.append_cons,aAg (by simp)];simp
  have hp4:splice (A.map aP++eT y::eT y::B.map aP) [eT x] A.length=A.map aP++eT x::eT y::B.map aP:=by
   rw[aAg (by simp)];simp
  repeat' (first|(refine aE fun _ _=>?_)|refine zHg ?_|(refine zqd ?_ ?_<;>(intro h;first|(exfalso;omega)|(simp only[h,zT])))|simp(disch:=omega) [go_sem,qA,aAh,hk,hna,hn1,hn2,hs1,hs2,hp1,hp2,hp3,hp4]|refine zAo ?_|refine zDr 8 bA ?_|fail)
  ·refine dN ⟨95,[(6,.ref 1002 0 (n+1))],tJ (A++x::y::B)⟩ [.ref 1002 0 (n+1)] (by refine Le.trans ?_ (Le.move (i:=6) (T:=40) (T':=1002) rfl (by show(0:Nat)≠1;decide) rfl rfl rfl);exact(Le.sub4 rfl (by simp[go_sem,tJ,hsum]))) (by simp[go_sem,tJ,hsum]) ⟨rfl,rfl⟩
  ·refine aZp (XCall.apart dIt aM9 rfl rfl (by decide) (by decide) (by omega) (by show(2:Nat)≠0;decide)) (by simp) ?_
   repeat' (first|(refine aE fun _ _=>?_)|refine zHg ?_|simp(disch:=omega) [go_sem,qA,aAh,hk,hna,hn1,hn2,hs1,hs2,hp1,hp2,hp3,hp4]|refine zAo ?_|refine zDr 8 bA ?_|fail)
   refine dN ⟨95,[(6,.ref 1002 0 (n+1))],tJ (A++x::y::B)⟩ [.ref 1002 0 (n+1)] (by refine Le.trans ?_ (Le.unrc 6 rfl rfl (by(try simp);omega));refine Le.trans ?_ (Le.move (i:=6) (T:=1000) (T':=1002) rfl (by show(0:Nat)≠1;decide) rfl rfl rfl);exact(Le.sub4 rfl (by simp[go_sem,tJ,hsum]))) (by simp[go_sem,tJ,hsum]) ⟨rfl,rfl⟩
abbrev eA (p:Bool) (O:List Tm):aK:= [(1000,⟨true,false,p,2,O.map aP,0⟩)]
theorem aTa {O:List Tm} (hO:gI O) (t:Tm):fE t O=if ∃h:mW O t<O.length,cS O[mW O t] t=0 then O else O.take (mW O t)++t::O.drop (mW O t):=
 aS9 (aAf O t) (fun j h hj=>aGs h hj) (fun h hn=>by have:=aGt hO h (Nat.le_refl _);omega)
theorem dIx (O:List Tm) (t:Tm) (hO:gI O) (hb:O.length<=10000000):
 MCall prog 72 [.ref 1000 0 O.length,eT t,.clo 73 []] (eA true O) (fun r o'=>r= .ref 1000 0 (fE t O).length/\o'=eA false (fE t O)):=by
 have h:=dIs O true false t (fun r=>cS r t) (fun r _=>by rw[jH];exact yC r t) (mW O t) (aAf O t) (fun k hk hc=>aGs hk hc) (fun k hk hc=>aGt hO hk hc)
 have hcl:=aAf O t
 have hlenT:True:=trivial
 rw[aTa hO t]
 generalize mW O t=c at*
 by_cases hq: ∃h:c<O.length,cS O[c] t=0
 ·rw[if_pos hq]
  obtain⟨h1,h2⟩:=hq
  rw[List.getElem?_eq_getElem h1]at h
  dsimp only at h
  rw[decide_eq_true h2]at h
  refine dM func72 call72 rfl (by simp[ntmps72]) ?_;simp only[ntmps72,results72]
  repeat' (first|(refine aE fun _ _=>?_)|refine zHg ?_|(refine aI ?hl (h) (by simp) ?_;(case hl=>(simp[go_sem,eA,hlenT];done)))|simp(disch:=omega) [go_sem,eA,hlenT])
  refine dN ⟨23,[(6,.ref 1000 0 O.length)],eA false O⟩ [.ref 1000 0 O.length] (by refine Le.trans ?_ (Le.unpin 1000 rfl);exact(Le.sub4 rfl (by simp[go_sem,eA]))) (by simp[go_sem,eA]) ⟨rfl,rfl⟩
 ·rw[if_neg hq]
  have h':ACall prog 119 [.list true false (O.map aP),eT t,.clo 73 []] (fun x=>x= .tup [nt .i64 c,bl false]):=by
   by_cases h1:c<O.length
   ·rw[List.getElem?_eq_getElem h1]at h
    dsimp only at h
    rw[decide_eq_false (fun e=>hq ⟨h1,e⟩)]at h
    exact h
   ·rw[List.getElem?_eq_none (by omega)]at h
    exact h
  have hi:=dIw (O.take c) (O.drop c) t (by rw[List.take_append_drop];exact hb)
  rw[List.take_append_drop]at hi
  have hlen:(O.take c++t::O.drop c).length=O.length+1:=by
   rw[List.length_append,List.length_cons,List.length_take,List.length_drop];omega
  have hct:(O.take c).length=c:=by rw[List.length_take];omega
  rw[hct]at hi
  rw[hlen]
  generalize O.take c++t::O.drop c=W at*
  clear h hq hct
  refine dM func72 call72 rfl (by simp[ntmps72]) ?_;simp only[ntmps72,results72]
  repeat' (first|(refine aE fun _ _=>?_)|refine zHg ?_|(refine aI ?hl (h') (by simp) ?_;(case hl=>(simp[go_sem,eA,hlenT];done)))|simp(disch:=omega) [go_sem,eA,hlenT])
  refine bO [(1001,21)] [(21,1001)] 10000 _ _ (Fits.mk' (by simp[go_sem,qA]) (by simp[go_sem,qA])) (by simp[go_sem,qA]) (by simp[go_sem,qA]) (hi) (by simp[go_sem,qA]) (by simp[go_sem,qA]) ?_
  repeat' (first|(refine aE fun _ _=>?_)|refine zHg ?_|simp(disch:=omega) [go_sem])
  refine dN ⟨23,[(6,.ref 1000 0 (O.length+1))],eA false W⟩ [.ref 1000 0 (O.length+1)] (Le.renSub [(11002,1000),(1000,11002)] [(1000,11002),(11002,1000)] (by simp[go_sem,eA]) (by simp[go_sem,eA]) (Le.sub4 rfl (by simp[go_sem,eA]))) (by simp[go_sem,eA]) ⟨rfl,rfl⟩
abbrev uY:Type:=List (ByteArray×List Tm)
abbrev cZ:Nat:=1000000000
def gL (es:List Tm):uY:=es.foldl (fun gs e=>dZ gs e.name e) []
theorem dIy {es:List Tm} {i:Nat} (h:i<es.length):gL (es.take (i+1))=dZ (gL (es.take i)) es[i].name es[i]:=by
 unfold gL
 rw[List.take_succ_eq_append_getElem h,List.foldl_append]
 rfl
theorem aGu (es:List Tm) (s:ByteArray):gP (gL es) s=es.filter fun a=>decide (a.name=s):=by
 have h: ∀(l:List Tm) (gs:uY),gP (l.foldl (fun gs e=>dZ gs e.name e) gs) s=gP gs s++l.filter fun a=>decide (a.name=s):=by
  intro l
  induction l with
  |nil=>intro gs;simp
  |cons e l ih=>
   intro gs
   rw[List.foldl_cons,ih,aEs]
   by_cases h:e.name=s
   ·simp[h]
   ·simp[h]
 have:=h es []
 simpa[gP,gL]using this
theorem dIz (es:List Tm) (le fu:Bool) (hb:es.length<=1000000):MCall prog 68 [.list le fu (es.map aP)] [] (fun r o'=>r= .mp 1000/\o'= [(1000,rP aP (gL es))]):=by
 refine dM func68 call68 rfl (by simp[ntmps68]) ?_;simp only[ntmps68,results68]
 repeat' (first|(refine aE fun _ _=>?_)|refine zHg ?_|simp(disch:=omega) [go_sem])
 refine bZ [3,7,8] [6] (fun y:Nat×uY=> [(9,nt .i64 y.1)]) (fun y:Nat×uY=> [(6,gB cZ y.2)]++cQ aP 2 cZ y.2) (fun y:Nat×uY=>es.length - y.1) (fun y:Nat×uY=>y.1<=es.length/\y.2=gL (es.take y.1)/\y.2.length<=y.1/\ ∀g∈y.2,g.2.length<=y.1) ((0,[])) (by refine Le.trans ?_ (Le.rmap 6 rfl);exact(Le.sub4 rfl (by simp[go_sem,gB,cQ,dG]))) ⟨?_⟩ ?_
 ·exact⟨Nat.zero_le _,rfl,Nat.le_refl _,fun g hg=>by cases hg⟩
 intro⟨i,gs⟩ ⟨hi,hgs,hlg,hrl⟩ AA hAA;simp only[kL,Nat.reduceBEq,Nat.reduceEqDiff]
 try dsimp only at*
 by_cases hlt:i<es.length
 ·have hnx:=dIy hlt
  rw[<-hgs]at hnx
  have hnl:=aEu (k:=es[i].name) (x:=es[i]) (gs:=gs)
  have hnr:=aEv (k:=es[i].name) (x:=es[i]) hrl
  generalize hbi:es[i]=e at*
  obtain⟨fr,ts⟩:=e
  rw[jI]at hnx hnl hnr
  have hk0: ∀L,L<1000->killO L (cQ aP 2 cZ gs)=cQ aP 2 cZ gs:=fun L _=>V8
  have hk1: ∀L,L<1000->(dG cZ gs).map (kill1 L)=dG cZ gs:=fun L h=>W1 (Nat.lt_trans h (by decide))
  repeat' (first|((fail_if_success (refine aLo ?_));refine aD9 (fun K hK=>?_))|refine zHg ?_|simp(disch:=omega) [go_sem,hlt,hbi,hk0,hk1])
  rcases aEt gs fr with hno|⟨j,hj,h1,h2⟩
  ·have hg:=aEw (b:=cZ) (k:=0) hno
   have hp: ∀v,fK (.string fr) v (dG cZ gs)=some (dG cZ gs++ [.tup [.sc (.string fr),v]]):=fun v=>by
    unfold fK
    rw[hg]
   have hrl:(dG cZ gs).length<=140737488355327:=by rw[wI];omega
   have t1: ∀L,L<1000->lk (cQ aP 2 cZ gs) L=none:=fun L h=>V9 (Nat.lt_trans h (by decide))
   have t3: ∀L,L<1000->cW (cQ aP 2 cZ gs) L=cQ aP 2 cZ gs:=fun L h=>W0 (Nat.lt_trans h (by decide))
   have t7: ∀p∈cQ aP 2 cZ gs,p.2.pin=false:=fun p hp=>by
    obtain⟨i,hi,rfl⟩:=J8 hp
    rfl
   have t5:=J9 (en:=aP) (es:=2) (b:=cZ) (gs:=gs)
   have t6: ∀i (hi:i<gs.length),lk (cQ aP 2 cZ gs) (cZ+i)=some (kQ aP 2 gs[i].2):=fun i hi=>by rw[rQ,List.getElem?_eq_getElem hi];rfl
   generalize hT:cQ aP 2 cZ gs=T at*
   refine S3 (s0:=⟨25,[(5,.ptr 5 0 0),(9,nt .i64 i),(8,nt .i64 es.length),(7,.list le fu (es.map aP)),(3,.mp 6)],[(5,⟨false,true,false,2,[eT (.mk fr ts)],0⟩)]++(6,gB cZ gs)::T⟩) ?_ ?_
   ·refine Le.trans ?_ (Le.frzP 5 rfl (by intro h;cases h))
    refine Le.rowsSub0 (en:=aP) (es:=2) rfl (fun i hi=>?_) (by rw[hT];exact fun p h=>h) t5 ?_ ?_ ?_ ?_
    ·have e1: ¬5=cZ+i:=by simp only[cZ];omega
     have e2: ¬6=cZ+i:=by simp only[cZ];omega
     simp[go_sem,e1,e2,t6 i hi,A6]
    all_goals simp[go_sem]
   simp only[List.cons_append,List.nil_append]
   repeat' (first|(refine aE fun _ _=>?_)|refine zHg ?_|(with_reducible refine eO ?_;first|(exact eL)|(refine zSkip ?_)|(refine eM rfl ?_ ?_))|(with_reducible refine eN ?_;first|(refine zDone ?_)|(refine zQu 0 rfl rfl rfl rfl ?_)|(refine zQu 1 rfl rfl rfl rfl ?_)|(refine zQu 2 rfl rfl rfl rfl ?_)|(refine zQu 3 rfl rfl rfl rfl ?_)|(refine zQu 4 rfl rfl rfl rfl ?_)|(refine zQu 5 rfl rfl rfl rfl ?_)|(refine zQu 7 rfl rfl rfl rfl ?_)|(refine zAll ?_;show dR _ _ _ _ _ _ _))|with_reducible refine eJ ?_|simp(disch:=omega) [go_sem,hg,hp,hk0,hk1,t1,t3,hrl,gB]|refine zAny bA ?_|fail)
   all_goals(
    refine hAA.next (i+1,dZ gs fr (.mk fr ts)) ?_ (by(try dsimp only);omega) ⟨⟨hlt,hnx.symm,by(try dsimp only);omega,hnr⟩⟩
    show Le ⟨25,[(9,nt .i64 ((i+1:Nat):Int)),(8,nt .i64 es.length),(7,.list le fu (es.map aP)),(3,.mp 6)],[]++(6,gB cZ (dZ gs fr (.mk fr ts)))::(cQ aP 2 cZ (dZ gs fr (.mk fr ts))++ [])⟩ _
    refine Le.rowsNo (d:=22) hno (by decide) (by decide) (by decide) rfl rfl (by simp[lk,jH,jI,cM]) (fun M hM=>?_) (fun p h1 h2=>?_) (by simp) (by simp) (by simp[go_sem]) (fun σ hσ=>?_) (by simp[go_sem]) (by simp)
    ·have e1: ¬6=M:=by simp only[cZ]at hM;omega
     have e2: ¬22=M:=by simp only[cZ]at hM;omega
     have e3: ¬21=M:=by simp only[cZ]at hM;omega
     have e4: ¬5=M:=by simp only[cZ]at hM;omega
     simp[lk,e1,e2,e3,e4,hT]
    ·exfalso
     have h3:p.2.pin=false:=by
      clear h2
      revert p
      repeat' (first|exact t7|(refine List.forall_mem_cons.2 ⟨rfl,?_⟩))
     rw[h3]at h2
     cases h2
    ·have h6:=hσ 6 (by decide) (by decide)
     simp[AV.ren,h6,aDb])
  ·have hg0:=aEx (b:=cZ) (k:=0) hj h1 h2
   have hop:=aM5 (en:=aP) (es:=2) (b:=cZ) hj
   obtain⟨vK,hgK⟩:=aEy (J:=cZ+j) (b:=cZ) (k:=0) hj h1 h2
   have hsK:=fun v=>aEz (v:=v) (b:=cZ) hj
   have hkK:=aE0 (J:=cZ+j) (b:=cZ) (gs:=gs)
   have hp: ∀v,fK (.string fr) v ((dG cZ gs).map (kill1 (cZ+j)))=some ((dG cZ gs).set j (.tup [.sc (.string fr),v])):=fun v=>by
    unfold fK
    rw[hgK,Nat.zero_add]
    simp only[hsK]
   obtain⟨t1,t2,t3,t4⟩:=aM3 (en:=aP) (es:=2) (gs:=gs) (b:=cZ) (J:=cZ+j)
   have t6: ∀i (hi:i<gs.length),lk (cQ aP 2 cZ gs) (cZ+i)=some (kQ aP 2 gs[i].2):=fun i hi=>by rw[rQ,List.getElem?_eq_getElem hi];rfl
   have hrj:=hrl gs[j] (List.getElem_mem hj)
   have hrl:(dG cZ gs).length<=140737488355328:=by rw[wI];omega
   have hrl2: ∀v,((dG cZ gs).set j v).length<=140737488355328:=fun v=>by rw[List.length_set,wI];omega
   generalize hJ:cZ+j=J at*
   have hJ1: ∀L,L<1000-> ¬L=J:=fun L h e=>by subst hJ;simp only[cZ]at e;omega
   have hJ2: ∀L,L<1000-> ¬J=L:=fun L h e=>hJ1 L h e.symm
   have t1': ∀L,L<1000->lk (cW (cQ aP 2 cZ gs) J) L=none:=fun L h=>t1 L (Nat.lt_trans h (by decide))
   have t3': ∀L,L<1000->cW (cW (cQ aP 2 cZ gs) J) L=cW (cQ aP 2 cZ gs) J:=fun L h=>t3 L (Nat.lt_trans h (by decide))
   refine S3 (s0:=⟨25,[(5,.ptr 5 0 0),(9,nt .i64 i),(8,nt .i64 es.length),(7,.list le fu (es.map aP)),(3,.mp 6)],[(5,⟨false,true,false,2,[eT (.mk fr ts)],0⟩)]++(6,gB cZ gs)::(J,kQ aP 2 gs[j].2)::cW (cQ aP 2 cZ gs) J⟩) ?_ ?_
   ·refine Le.trans ?_ (Le.frzP 5 rfl (by intro h;cases h))
    refine Le.rowsSub0 (en:=aP) (es:=2) rfl (fun i hi=>?_) hop.1 hop.2 ?_ ?_ ?_ ?_
    ·have e1: ¬5=cZ+i:=by simp only[cZ];omega
     have e2: ¬6=cZ+i:=by simp only[cZ];omega
     simp[go_sem,e1,e2,t6 i hi,A6]
    all_goals simp[go_sem]
   generalize hr:gs[j].2=r at*
   generalize hT:cW (cQ aP 2 cZ gs) J=T at*
   simp only[List.cons_append,List.nil_append]
   repeat' (first|(refine aE fun _ _=>?_)|refine zHg ?_|(with_reducible refine eO ?_;first|(exact eL)|(refine zSkip ?_)|(refine eM rfl ?_ ?_))|(with_reducible refine eN ?_;first|(refine zDone ?_)|(refine zQu 0 rfl rfl rfl rfl ?_)|(refine zQu 1 rfl rfl rfl rfl ?_)|(refine zQu 2 rfl rfl rfl rfl ?_)|(refine zQu 3 rfl rfl rfl rfl ?_)|(refine zQu 4 rfl rfl rfl rfl ?_)|(refine zQu 5 rfl rfl rfl rfl ?_)|(refine zQu 7 rfl rfl rfl rfl ?_)|(refine zAll ?_;show dR _ _ _ _ _ _ _))|with_reducible refine eJ ?_|simp(disch:=omega) [go_sem,hg0,hp,hJ1,hJ2,hk1,hkK,t2,t4,hrl,hrl2,t1',t3',gB,kQ,Nat.zero_add]|refine zAo ?_|refine zAny bA ?_|fail)
   all_goals(
    refine hAA.next (i+1,dZ gs fr (.mk fr ts)) ?_ (by(try dsimp only);omega) ⟨⟨hlt,hnx.symm,by(try dsimp only);omega,hnr⟩⟩
    show Le ⟨25,[(9,nt .i64 ((i+1:Nat):Int)),(8,nt .i64 es.length),(7,.list le fu (es.map aP)),(3,.mp 6)],[]++(6,gB cZ (dZ gs fr (.mk fr ts)))::(cQ aP 2 cZ (dZ gs fr (.mk fr ts))++ [])⟩ _
    refine Le.rowsYes hj h1 h2 (by rw[hJ,hr]) rfl (by rw[hr]) (by rw[hJ];simp[lk,hJ1,jH,jI,cM]) (fun M hM hM2=>?_) (by simp) (by simp[go_sem]) (by simp[go_sem]) (by simp)
    rw[hJ]at hM2 ⊢
    rw[hT]
    have e0: ¬J=M:=fun e=>hM2 e.symm
    have e1: ¬6=M:=by simp only[cZ]at hM;omega
    have e2: ¬22=M:=by simp only[cZ]at hM;omega
    have e3: ¬21=M:=by simp only[cZ]at hM;omega
    have e4: ¬5=M:=by simp only[cZ]at hM;omega
    simp[lk,e0,e1,e2,e3,e4])
 ·obtain rfl:i=es.length:=by omega
  rw[List.take_length]at hgs
  subst hgs
  have t6: ∀i (hi:i<(gL es).length),lk (cQ aP 2 cZ (gL es)) (cZ+i)=some (kQ aP 2 (gL es)[i].2):=fun i hi=>by rw[rQ,List.getElem?_eq_getElem hi];rfl
  repeat' (first|(refine aE fun _ _=>?_)|refine zHg ?_|simp(disch:=omega) [go_sem])
  refine dN ⟨25,[(2,.mp 1000)],[(1000,rP aP (gL es))]⟩ [.mp 1000] ?_ (by simp[go_sem]) ⟨rfl,rfl⟩
  refine Le.trans (b:=⟨25,[(2,.mp 6)],[(6,rP aP (gL es))]⟩) (Le.renSub [(6,1000),(1000,6)] [(1000,6),(6,1000)] (by simp[go_sem]) (by simp[go_sem]) (Le.sub4 rfl (by simp[go_sem]))) ?_
  refine Le.rowsEnd (en:=aP) (es:=2) (b:=cZ) (A:= []) (by decide) rfl (fun i hi=>?_) (by simp) (by simp[go_sem]) (by simp[go_sem]) (by simp)
  have e1: ¬6=cZ+i:=by simp only[cZ];omega
  simp[lk,e1,t6 i hi]
abbrev bE (d:Bool):AObj:=⟨false,false,true,1,[bl d],0⟩
abbrev bF (n:Nat):AObj:=⟨false,false,true,1,[.ref 1002 0 n],0⟩
abbrev bD (p:Bool) (O:List Tm):AObj:=⟨true,false,p,2,O.map aP,0⟩
abbrev bC (p:Bool) (d:Bool) (O:List Tm):aK:= [(1000,bE d),(1001,bF O.length),(1002,bD p O)]
abbrev tK (d:Bool) (t:Tm):Bool:=d||decide (4<t.depth)
theorem aTb (O:List Tm) (d:Bool) (t:Tm) (hO:gI O) (hb:O.length<=10000000) (hz:t.size<=1000000):
 MCall prog 70 [eT t,.ptr 1000 0 0,.ptr 1001 0 0] (bC true d O) (fun r o'=>r= .tup []/\o'=bC false (tK d t) (fE t O)):=by
 have h1:=aNe t hz
 have h2:=dIx O t hO hb
 have hdl:=K0 t
 generalize fE t O=W at*
 unfold tK
 generalize t.depth=n at*
 cases d
 ·by_cases hq:4<n
  ·rw[decide_eq_true hq]
   have hq':(4:Int)<n:=by omega
   refine dM func70 call70 rfl (by simp[ntmps70]) ?_;simp only[ntmps70,results70]
   repeat' (first|(refine aE fun _ _=>?_)|refine zHg ?_|refine aI rfl (h1) (by simp) ?_|simp(disch:=omega) [go_sem,bC,bE,bF,bD,hq'])
   refine aEd [1002] [(1000,1002)] [(1002,1000)] 10000 _ _ (Fits.mk' (by simp[go_sem,eA,bC,bE,bF,bD]) (by simp[go_sem,eA,bC,bE,bF,bD])) (by simp[go_sem,eA,bC,bE,bF,bD]) (by simp[go_sem,eA,bC,bE,bF,bD]) (h2) (by simp[go_sem,eA,bC,bE,bF,bD]) (by simp[go_sem,eA,bC,bE,bF,bD]) ?_
   repeat' (first|(refine aE fun _ _=>?_)|refine zHg ?_|simp(disch:=omega) [go_sem,bC,bE,bF,bD])
   refine eW ⟨13,[],bC false true W⟩ [] (Le.renSub [(11000,1002),(1002,11000)] [(1002,11000),(11000,1002)] (by simp[go_sem,bC,bE,bF,bD]) (by simp[go_sem,bC,bE,bF,bD]) (Le.sub4 rfl (by simp[go_sem,bC,bE,bF,bD]))) (by simp[go_sem,bC,bE,bF,bD]) ⟨rfl,rfl⟩
  ·rw[decide_eq_false hq]
   have hq': ¬(4:Int)<n:=by omega
   refine dM func70 call70 rfl (by simp[ntmps70]) ?_;simp only[ntmps70,results70]
   repeat' (first|(refine aE fun _ _=>?_)|refine zHg ?_|refine aI rfl (h1) (by simp) ?_|simp(disch:=omega) [go_sem,bC,bE,bF,bD,hq'])
   refine aEd [1002] [(1000,1002)] [(1002,1000)] 10000 _ _ (Fits.mk' (by simp[go_sem,eA,bC,bE,bF,bD]) (by simp[go_sem,eA,bC,bE,bF,bD])) (by simp[go_sem,eA,bC,bE,bF,bD]) (by simp[go_sem,eA,bC,bE,bF,bD]) (h2) (by simp[go_sem,eA,bC,bE,bF,bD]) (by simp[go_sem,eA,bC,bE,bF,bD]) ?_
   repeat' (first|(refine aE fun _ _=>?_)|refine zHg ?_|simp(disch:=omega) [go_sem,bC,bE,bF,bD])
   refine eW ⟨13,[],bC false false W⟩ [] (Le.renSub [(11000,1002),(1002,11000)] [(1002,11000),(11000,1002)] (by simp[go_sem,bC,bE,bF,bD]) (by simp[go_sem,bC,bE,bF,bD]) (Le.sub4 rfl (by simp[go_sem,bC,bE,bF,bD]))) (by simp[go_sem,bC,bE,bF,bD]) ⟨rfl,rfl⟩
 ·rw[Bool.true_or]
  refine dM func70 call70 rfl (by simp[ntmps70]) ?_;simp only[ntmps70,results70]
  repeat' (first|(refine aE fun _ _=>?_)|refine zHg ?_|simp(disch:=omega) [go_sem,bC,bE,bF,bD])
  refine aEd [1002] [(1000,1002)] [(1002,1000)] 10000 _ _ (Fits.mk' (by simp[go_sem,eA,bC,bE,bF,bD]) (by simp[go_sem,eA,bC,bE,bF,bD])) (by simp[go_sem,eA,bC,bE,bF,bD]) (by simp[go_sem,eA,bC,bE,bF,bD]) (h2) (by simp[go_sem,eA,bC,bE,bF,bD]) (by simp[go_sem,eA,bC,bE,bF,bD]) ?_
  repeat' (first|(refine aE fun _ _=>?_)|refine zHg ?_|simp(disch:=omega) [go_sem,bC,bE,bF,bD])
  refine eW ⟨13,[],bC false true W⟩ [] (Le.renSub [(11000,1002),(1002,11000)] [(1002,11000),(11000,1002)] (by simp[go_sem,bC,bE,bF,bD]) (by simp[go_sem,bC,bE,bF,bD]) (Le.sub4 rfl (by simp[go_sem,bC,bE,bF,bD]))) (by simp[go_sem,bC,bE,bF,bD]) ⟨rfl,rfl⟩
abbrev bU:AV:= .clo 70 [.ptr 1000 0 0,.ptr 1001 0 0]
abbrev bM (es:Nat) (x:AV):AObj:=⟨false,false,true,es,[x],0⟩
abbrev bN (p:Bool) (r:Rl) (d:Bool) (O:List Tm):aK:=(1003,bM 1 bU)::(1004,bM 3 (fP r))::bC p d O
theorem dI0 (r:Rl) (O:List Tm) (d:Bool) (s:List Bd) (fu:Bool) (hO:gI O) (hb:O.length<=10000000) (hs:mB 1000000 s) (hz:r.head.size<=1000000) (hz2:(eU s r.head).size<=1000000):
 MCall prog 75 [.list false fu (s.map jK),.ptr 1003 0 0,.ptr 1004 0 0] (bN true r d O) (fun v o'=>v= .tup []/\o'=bN false r (tK d (eU s r.head)) (fE (eU s r.head) O)):=by
 have h1:=aS2 s false fu hs r.head hz
 have h2:=aTb O d (eU s r.head) hO hb hz2
 generalize fE (eU s r.head) O=W at*
 generalize tK d (eU s r.head)=d2 at*
 generalize eU s r.head=t at*
 refine dM func75 call75 rfl (by simp[ntmps75]) ?_;simp only[ntmps75,results75]
 skip
 repeat' (first|(refine aE fun _ _=>?_)|refine zHg ?_|refine bI rfl (h1) rfl (by simp) ?_|simp(disch:=omega) [go_sem,bN,bC,bE,bF,bD,bM,bU]|refine zDn 5 6 bA ?_|fail)
 refine bO [] [] 10000 _ _ (Fits.mk' (by simp[go_sem,bN,bC,bE,bF,bD,bM]) (by simp[go_sem,bN,bC,bE,bF,bD,bM])) (by simp[go_sem,bN,bC,bE,bF,bD,bM]) (by simp[go_sem,bN,bC,bE,bF,bD,bM]) (h2) (by simp[go_sem,bN,bC,bE,bF,bD,bM]) (by simp[go_sem,bN,bC,bE,bF,bD,bM]) ?_
 repeat' (first|(refine aE fun _ _=>?_)|refine zHg ?_|simp(disch:=omega) [go_sem,bN,bC,bE,bF,bD,bM])
 refine eW ⟨10,[],bN false r d2 W⟩ [] (Le.renSub [(11002,1002),(1002,11002)] [(1002,11002),(11002,1002)] (by simp[go_sem,bN,bC,bE,bF,bD,bM]) (by simp[go_sem,bN,bC,bE,bF,bD,bM]) (Le.sub4 rfl (by simp[go_sem,bN,bC,bE,bF,bD,bM]))) (by simp[go_sem,bN,bC,bE,bF,bD,bM]) ⟨rfl,rfl⟩
end Go.Proofs.YtgmibdiofkmmbaaGreatDoor
