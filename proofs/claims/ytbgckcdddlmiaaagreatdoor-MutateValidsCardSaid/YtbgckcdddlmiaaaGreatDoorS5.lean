import Derived.Test.YtbgckcdddlmiaaaGreatDoorS4
import Derived.ChangeMaps5
import Derived.Test.YtbgckcdddlmiaaaGreatDoorS3
import Derived.SevenTiedAt
import Derived.LaidMore
import Derived.LaidLaws
import Derived.Handed
set_option linter.all false
open Go.Proofs.Tryz
namespace Go.Proofs.YtbgckcdddlmiaaaGreatDoor
open Go.Ab
variable [Glob prog]
set_option maxRecDepth 100000
set_option maxHeartbeats 16000000
theorem aMe {A:List Tm} {t:Tm} (h:nY A t=true):gR A t=A:=by
 unfold gR
 rw[if_neg]
 intro⟨h1,_⟩
 unfold nY at h
 rw[h]at h1;cases h1
theorem aMf {A:List Tm} {t:Tm} (h: ¬t.depth<=4):gR A t=A:=by
 unfold gR
 rw[if_neg fun h'=>h h'.2]
theorem aMg {A:List Tm} {t:Tm} (h:nY A t=false) (h':t.depth<=4):gR A t=A++ [t]:=by
 unfold gR
 rw[if_pos ⟨h,h'⟩]
theorem bNy {α β:Type} {f:β->α->β} {b:β} {l:List α} {i:Nat} (h:i<l.length):(l.take (i+1)).foldl f b=f ((l.take i).foldl f b) l[i]:=by
 rw[eZ h,List.foldl_append];rfl
def jE (A X:List Tm) (i:Nat):List Tm:=(X.take i).foldl gR A
theorem aMh {A X:List Tm}:jE A X 0=A:=rfl
theorem aMi {A X:List Tm} {i:Nat} (h:i<X.length):jE A X (i+1)=gR (jE A X i) X[i]:=bNy h
theorem aMj {A X:List Tm}:jE A X X.length=X.foldl gR A:=by unfold jE;rw[List.take_length]
theorem Q1 {A X:List Tm} {i:Nat} (h:i<=X.length):(jE A X i).length<=A.length+i:=by
 have:=(aL0 (X:=X.take i) (A:=A)).2
 rw[List.length_take,Nat.min_eq_left h]at this
 exact this
theorem bNz {h:Tm} {W:List (List Bd)} {k:Nat} (hk:k<W.length):qD h (W.take (k+1))=qD h (W.take k)++(if(gQ h W[k]).2=true then[(gQ h W[k]).1]else[]):=by
 unfold qD
 rw[eZ hk,List.filterMap_append]
 congr 1
 rw[List.filterMap_cons,List.filterMap_nil]
 split<;>rename_i he
 ·split at he
  ·cases he
  ·rename_i hn;rw[if_neg hn]
 ·split at he
  ·rename_i hy;rw[if_pos hy];obtain rfl:=Option.some.inj he;rfl
  ·cases he
theorem bN0 {A:List Tm} {j:Nat} (h:j<A.length):pB (A.take (j+1))=pB (A.take j)++kG A[j]:=by
 unfold pB
 rw[eZ h,List.flatMap_append]
 simp
theorem bN1 {A:List Tm} {m:List Tm} {lf:Int}:rE A [] m lf=(some m,lf):=rfl
theorem bN2 {A:List Tm} {r:Rl} {rs:List Rl} {m:List Tm} {lf:Int}:rE A (r::rs) m lf=match gZ A r.body [[]] lf with
 |(some W,lf')=>rE A rs (m++qD r.head W) lf'
 |(none,lf')=>(none,lf'):=by rw[rE];rfl
def aC8 (l:List Rl) (f:Nat) (A:List Tm):Option (List Tm)×Int->Bool
 |(some m,lf')=>sK l f A.length ((m++pB A).foldl gR A) lf'
 |(none,_)=>false
theorem bN3 {l:List Rl} {f:Nat} {n:Int} {A:List Tm} {lf:Int} (h:n<A.length/\A.length<=1000):sK l (f+1) n A lf=aC8 l f A (rE A l [] lf):=by
 rw[sK,if_pos h]
 generalize rE A l [] lf=R
 obtain⟨x,y⟩:=R
 cases x<;>rfl
theorem aMk {l:List Rl} {f:Nat} {n:Int} {A:List Tm} {lf:Int} (h: ¬(n<A.length/\A.length<=1000)):sK l (f+1) n A lf=decide (A.length<=1000):=by
 rw[sK,if_neg h]
theorem bN4 {q M:Nat} (hq:q<=1000000) (hM:5<=M) (hBG:BG q M<=2305843009213693952) (l:List Rl) (G:List Tm) (fl lg fg:Bool) (hl: ∀r∈l,okR q M r) (hll:l.length<=100) (hG:P9 q M G) (hGl:G.length<=1000):
 ACall prog 22 [.list false fl (l.map bH),.list lg fg (G.map aO)] (fun r=>r=bl (P8 l G)):=by
 generalize hV:P8 l G=V
 unfold P8 at hV
 have hGb: ∀t∈G,fX t<=2305843009213693952:=fun t h=>Nat.le_trans (hG t h).2.1 hBG
 replace hG: ∀t∈G,eH q M t/\fX t<=2305843009213693952/\t.depth<=1000:=fun t h=>⟨(hG t h).1,hGb t h,(hG t h).2.2⟩
 clear hGb
 refine aQ func22 call22 rfl (by simp[ntmps22]) ?_;simp only[ntmps22,results22]
 repeat' (first|(refine aA fun _ _=>?_)|refine zHg ?_|simp(disch:=omega) [go_sem])
 refine bL [0,1,5,7,8,26] [7,23,900,6] (fun i:Nat=> [(27,nt .i64 i)]) (fun i:Nat=> [(7,aV false 900 (jE [] G i).length),(23,aU false (jE [] G i)),(900,aN false (jE [] G i)),(6,aW false 23)]) (fun i:Nat=>G.length - i) (fun i:Nat=>i<=G.length) (0) (by refine Le.trans ?_ (Le.nilBox 7 900 2 rfl (by decide) (by decide));exact(Le.sub4 rfl (by simp[go_sem,aV,aU,aN,aW,aMh,List.map_nil,List.length_nil]))) ⟨?_⟩ ?_
 ·exact Nat.zero_le _
 intro i hi AA hAA;simp only[kL,Nat.reduceBEq,Nat.reduceEqDiff]
 by_cases hlt:i<G.length
 ·skip
  have hnx:=aMi (A:= []) hlt
  have hAl:(jE [] G i).length<=0+i:=Q1 (A:= []) (Nat.le_of_lt hlt)
  have hAo:mS q M (jE [] G i):=D5 (fun u hu=>by simp at hu) fun u hu=>(hG u (List.mem_of_mem_take hu)).1
  have ht:=hG _ (List.getElem_mem hlt)
  generalize jE [] G i=Z at*
  generalize hte:G[i]=t at*
  cases hh:nY Z t
  ·by_cases h4:t.depth<=4
   ·have hu:=aMd hq Z t ht.1 (by omega) (by omega) (by omega) hh h4
    rw[aMg hh h4]at hnx
    repeat' (first|(refine aA fun _ _=>?_)|refine zHg ?_|simp(disch:=omega) [go_sem,hlt,hte,aV,aU,aN,aW])
    refine aX [(1000,6),(1001,7),(1002,23),(1003,900)] [(6,1000),(7,1001),(23,1002),(900,1003)] 10000 _ _ (Fits.mk' (by simp[go_sem,cC,dG,aV,aU,aN,aW]) (by simp[go_sem,cC,dG,aV,aU,aN,aW])) (by simp[go_sem,cC,dG,aV,aU,aN,aW]) (by simp[go_sem,cC,dG,aV,aU,aN,aW]) (hu) (by simp[go_sem,cC,dG,aV,aU,aN,aW]) (by simp[go_sem,cC,dG,aV,aU,aN,aW]) ?_
    repeat' (first|(refine aA fun _ _=>?_)|refine zHg ?_|(refine(hAA.next (i+1) (Le.renSub [(11004,900),(900,11004)] [(900,11004),(11004,900)] (by simp[go_sem,hnx,aV,aU,aN,aW,dG]) (by simp[go_sem,hnx,aV,aU,aN,aW,dG]) (Le.sub4 rfl (by simp[go_sem,hnx,aV,aU,aN,aW,dG]))) (by(try dsimp only);omega) ?_))|simp(disch:=omega) [go_sem,hlt,hte,aV,aU,aN,aW,dG])
    try any_goals omega
    exact⟨hlt⟩
   ·have hu:=aMc hq Z t ht.1 (by omega) (by omega) (by omega) hh h4
    rw[aMf h4]at hnx
    repeat' (first|(refine aA fun _ _=>?_)|refine zHg ?_|simp(disch:=omega) [go_sem,hlt,hte,aV,aU,aN,aW])
    refine aX [(1000,6),(1001,7),(1002,23),(1003,900)] [(6,1000),(7,1001),(23,1002),(900,1003)] 10000 _ _ (Fits.mk' (by simp[go_sem,cC,dG,aV,aU,aN,aW]) (by simp[go_sem,cC,dG,aV,aU,aN,aW])) (by simp[go_sem,cC,dG,aV,aU,aN,aW]) (by simp[go_sem,cC,dG,aV,aU,aN,aW]) (hu) (by simp[go_sem,cC,dG,aV,aU,aN,aW]) (by simp[go_sem,cC,dG,aV,aU,aN,aW]) ?_
    repeat' (first|(refine aA fun _ _=>?_)|refine zHg ?_|(refine(hAA.next (i+1) (Le.sub4 rfl (by simp[go_sem,hnx,aV,aU,aN,aW,cC])) (by(try dsimp only);omega) ?_))|simp(disch:=omega) [go_sem,hlt,hte,aV,aU,aN,aW,cC])
    try any_goals omega
    exact⟨hlt⟩
  ·have hu:=aMb hq Z t ht.1 (by omega) (by omega) (by omega) hh
   rw[aMe hh]at hnx
   repeat' (first|(refine aA fun _ _=>?_)|refine zHg ?_|simp(disch:=omega) [go_sem,hlt,hte,aV,aU,aN,aW])
   refine aX [(1000,6),(1001,7),(1002,23),(1003,900)] [(6,1000),(7,1001),(23,1002),(900,1003)] 10000 _ _ (Fits.mk' (by simp[go_sem,cC,dG,aV,aU,aN,aW]) (by simp[go_sem,cC,dG,aV,aU,aN,aW])) (by simp[go_sem,cC,dG,aV,aU,aN,aW]) (by simp[go_sem,cC,dG,aV,aU,aN,aW]) (hu) (by simp[go_sem,cC,dG,aV,aU,aN,aW]) (by simp[go_sem,cC,dG,aV,aU,aN,aW]) ?_
   repeat' (first|(refine aA fun _ _=>?_)|refine zHg ?_|(refine(hAA.next (i+1) (Le.sub4 rfl (by simp[go_sem,hnx,aV,aU,aN,aW,cC])) (by(try dsimp only);omega) ?_))|simp(disch:=omega) [go_sem,hlt,hte,aV,aU,aN,aW,cC])
   try any_goals omega
   exact⟨hlt⟩
 ·obtain rfl:i=G.length:=by omega
  rw[<-aMj]at hV
  have hAl:=Q1 (A:= []) (X:=G) (Nat.le_refl _)
  have hAo:mS q M (jE [] G G.length):=D5 (fun u hu=>by simp at hu) fun u hu=>(hG u (List.mem_of_mem_take hu)).1
  simp only[List.length_nil,Nat.zero_add]at hAl
  generalize jE [] G G.length=Z at*
  clear hlt hi
  repeat' (first|(refine aA fun _ _=>?_)|refine zHg ?_|simp(disch:=omega) [go_sem,aV,aU,aN,aW])
  refine bL [0,5,7,8] [7,23,900,22] (fun y:Nat×Int×List Tm×Int=> [(10,nt .i64 y.2.1)]) (fun y:Nat×Int×List Tm×Int=> [(7,aV false 900 y.2.2.1.length),(23,aU false y.2.2.1),(900,aN false y.2.2.1),(22,aY false y.2.2.2)]) (fun y:Nat×Int×List Tm×Int=>(1002 - y.2.1).toNat) (fun y:Nat×Int×List Tm×Int=> -1<=y.2.1/\y.2.1<=1000/\1001<=y.1+y.2.1/\mS q M y.2.2.1/\y.2.2.1.length<=1000000/\0<=y.2.2.2/\y.2.2.2<=1000000/\sK l (y.1+1) y.2.1 y.2.2.1 y.2.2.2=V) ((1002,-1,Z,1000000)) (Le.sub4 rfl (by simp[go_sem,aV,aU,aN,aW,aY])) ⟨?_⟩ ?_
  ·exact⟨by(try dsimp only);omega,by(try dsimp only);omega,by(try dsimp only);omega,hAo,by(try dsimp only);omega,by(try dsimp only);omega,by(try dsimp only);omega,hV⟩
  clear hV hAo hAl hG
  intro⟨f,n,A,lf⟩ ⟨hn1,hn2,hf,hA,hAl,h0,h1,hV⟩ AA hAA;simp only[kL,Nat.reduceBEq,Nat.reduceEqDiff]
  dsimp only at*
  by_cases c1:n<A.length
  ·by_cases c2:(A.length:Int)<=1000
   ·rw[bN3 ⟨c1,by omega⟩]at hV
    have hAB:=hAA
    repeat' (first|(refine aA fun _ _=>?_)|refine zHg ?_|simp(disch:=omega) [go_sem,c1,c2,aV,aU,aN,aW,aY])
    refine bL [0,5,7,8,11,52] [901,22] (fun x:Nat×List Tm×Int=> [(10,nt .i64 A.length),(53,nt .i64 x.1),(12,.ref 901 0 x.2.1.length)]) (fun x:Nat×List Tm×Int=> [(901,aN false x.2.1),(22,aY false x.2.2)]) (fun x:Nat×List Tm×Int=>l.length - x.1) (fun x:Nat×List Tm×Int=>x.1<=l.length/\P9 q M x.2.1/\x.2.1.length<=x.1*5000/\0<=x.2.2/\x.2.2<=1000000/\aC8 l f A (rE A (l.drop x.1) x.2.1 x.2.2)=V) ((0,[],lf)) (by refine Le.trans ?_ (Le.nil (i:=12) (T:=901) (es:=2) rfl);exact(Le.sub4 rfl (by simp[go_sem,aV,aU,aN,aW,aY,List.map_nil,List.length_nil]))) ⟨?_⟩ ?_
    ·exact⟨Nat.zero_le _,fun t ht=>by simp at ht,by simp,h0,h1,hV⟩
    clear hV h0 h1
    intro⟨i,m,lf⟩ ⟨hi,hm,hml,h0,h1,hV⟩ AA hAA;simp only[kL,Nat.reduceBEq,Nat.reduceEqDiff]
    dsimp only at*
    by_cases hil:i<l.length
    ·have hr:=hl _ (List.getElem_mem hil)
     rw[List.drop_eq_getElem_cons hil]at hV
     generalize hre:l[i]=r at*
     rw[bN2]at hV
     have hw:=bNw A r.body false lf hA hAl hr.2.2.1 (fun b hb=>(hr.2.2.2 b hb).2) h0 h1
     have hwk:=aC6 (M:=M) (B:=r.body) (k:=0) (W:= [[]]) hA (fun s hs=>by
      obtain rfl:=List.mem_singleton.1 hs
      exact⟨fun b hb=>by simp at hb,by simp⟩) (by simp) h0
     generalize gZ A r.body [[]] lf=R at*
     obtain⟨W,l1⟩:=R
     dsimp only at*
     cases W with
     |none=>
      have hV:false=V:=hV
      subst hV
      have hw2:MCall prog 52 [.ptr 1000 0 0,.list false false (r.body.map cF),.ref 1001 0 A.length] [(1000,aY true lf),(1001,aN true A)] (fun r o'=>r= .tup [.list false true [],bl false]/\o'= [(1000,aY true l1),(1001,aN true A)]):=hw
      repeat' (first|(refine aA fun _ _=>?_)|refine zHg ?_|simp(disch:=omega) [go_sem,hil,hre,aV,aU,aN,aW,aY])
      refine aX [(1000,22),(1001,900)] [(22,1000),(900,1001)] 20000 _ _ (Fits.mk' (by simp[go_sem,aV,aU,aN,aW,aY]) (by simp[go_sem,aV,aU,aN,aW,aY])) (by simp[go_sem,aV,aU,aN,aW,aY]) (by simp[go_sem,aV,aU,aN,aW,aY]) (hw2) (by simp[go_sem,aV,aU,aN,aW,aY]) (by simp[go_sem,aV,aU,aN,aW,aY]) ?_
      repeat' (first|(refine aA fun _ _=>?_)|refine zHg ?_|(refine aM [] ?_;simp[go_sem,hil,hre,aV,aU,aN,aW,aY])|simp(disch:=omega) [go_sem,hil,hre,aV,aU,aN,aW,aY])
     |some W=>
      obtain⟨w1,w2,w3⟩:=hwk
      obtain⟨w3,w4,w5⟩:=w3 W rfl
      have hV:aC8 l f A (rE A (l.drop (i+1)) (m++qD r.head W) l1)=V:=hV
      have hw2:MCall prog 52 [.ptr 1000 0 0,.list false false (r.body.map cF),.ref 1001 0 A.length] [(1000,aY true lf),(1001,aN true A)] (fun r o'=>r= .tup [.ref 1002 0 W.length,bl true]/\o'= [(1002,iA W),(1000,aY true l1),(1001,aN true A)]):=hw
      have hAC:=hAA
      repeat' (first|(refine aA fun _ _=>?_)|refine zHg ?_|simp(disch:=omega) [go_sem,hil,hre,aV,aU,aN,aW,aY])
      refine aX [(1000,22),(1001,900)] [(22,1000),(900,1001)] 20000 _ _ (Fits.mk' (by simp[go_sem,aV,aU,aN,aW,aY,iA]) (by simp[go_sem,aV,aU,aN,aW,aY,iA])) (by simp[go_sem,aV,aU,aN,aW,aY,iA]) (by simp[go_sem,aV,aU,aN,aW,aY,iA]) (hw2) (by simp[go_sem,aV,aU,aN,aW,aY,iA]) (by simp[go_sem,aV,aU,aN,aW,aY,iA]) ?_
      repeat' (first|(refine aA fun _ _=>?_)|refine zHg ?_|simp(disch:=omega) [go_sem,hil,hre,aV,aU,aN,aW,aY,iA])
      refine bL [0,5,7,8,10,11,13,14,52,53,70] [901] (fun z:Nat×List Tm=> [(71,nt .i64 z.1),(12,.ref 901 0 z.2.length)]) (fun z:Nat×List Tm=> [(901,aN false z.2)]) (fun z:Nat×List Tm=>W.length - z.1) (fun z:Nat×List Tm=>z.1<=W.length/\z.2=m++qD r.head (W.take z.1)) ((0,m)) (Le.sub4 rfl (by simp[go_sem,aV,aU,aN,aW,aY,iA])) ⟨?_⟩ ?_
      ·exact⟨Nat.zero_le _,by simp[qD]⟩
      intro⟨k,m'⟩ ⟨hk,hm'⟩ AA hAA;simp only[kL,Nat.reduceBEq,Nat.reduceEqDiff]
      dsimp only at*
      have hln:m'.length<=m.length+k:=by
       have h2:=bNc (h:=r.head) (W:=W.take k)
       rw[hm',List.length_append]
       rw[List.length_take]at h2
       omega
      by_cases hkl:k<W.length
      ·have hu:=bNi W[k] false false hq r.head hr.1
       have hmn:=bNz (h:=r.head) hkl
       generalize hs:W[k]=s at*
       generalize gQ r.head s=y at*
       obtain⟨u,c⟩:=y
       dsimp only at*
       cases c
       ·repeat' (first|(refine aA fun _ _=>?_)|refine zHg ?_|refine dP rfl (hu) rfl (by simp) ?_|(refine(hAA.next ((k+1,m')) (Le.sub4 rfl (by simp[go_sem,aV,aU,aN,aW,aY,iA])) (by(try dsimp only);omega) ?_))|simp(disch:=omega) [go_sem,hil,hre,hkl,hs,aV,aU,aN,aW,aY,iA]|refine zDr 14 aS ?_|fail)
        try any_goals omega
        exact⟨hkl,by rw[hm',hmn];simp⟩
       ·repeat' (first|(refine aA fun _ _=>?_)|refine zHg ?_|refine dP rfl (hu) rfl (by simp) ?_|(refine(hAA.next ((k+1,m'++ [u])) (Le.sub4 rfl (by simp[go_sem,aV,aU,aN,aW,aY,iA])) (by(try dsimp only);omega) ?_))|simp(disch:=omega) [go_sem,hil,hre,hkl,hs,aV,aU,aN,aW,aY,iA]|refine zAo ?_|refine zDr 14 aS ?_|fail)
        try any_goals omega
        exact⟨hkl,by rw[hm',hmn];simp⟩
      ·obtain rfl:k=W.length:=by omega
       rw[List.take_length]at hm'
       repeat' (first|(refine aA fun _ _=>?_)|refine zHg ?_|(refine(hAC.next ((i+1,m',l1)) (Le.sub4 rfl (by simp[go_sem,aV,aU,aN,aW,aY,iA])) (by(try dsimp only);omega) ?_))|simp(disch:=omega) [go_sem,aV,aU,aN,aW,aY,iA])
       try any_goals omega
       refine⟨hil,fun u hu=>?_,by(try dsimp only);omega,w5,by(try dsimp only);omega,by rw[hm'];exact hV⟩
       rw[hm']at hu
       exact(List.mem_append.1 hu).elim (hm u) (bNb hr.1 hr.2.1 w3 u)
    ·obtain rfl:i=l.length:=by omega
     rw[List.drop_length,bN1]at hV
     have hV:sK l f A.length ((m++pB A).foldl gR A) lf=V:=hV
     repeat' (first|(refine aA fun _ _=>?_)|refine zHg ?_|simp(disch:=omega) [go_sem,aV,aU,aN,aW,aY])
     refine bL [0,5,7,8,10,11,95] [901] (fun z:Nat×List Tm=> [(96,nt .i64 z.1),(12,.ref 901 0 z.2.length)]) (fun z:Nat×List Tm=> [(901,aN false z.2)]) (fun z:Nat×List Tm=>A.length - z.1) (fun z:Nat×List Tm=>z.1<=A.length/\z.2=m++pB (A.take z.1)) ((0,m)) (Le.sub4 rfl (by simp[go_sem,aV,aU,aN,aW,aY])) ⟨?_⟩ ?_
     ·exact⟨Nat.zero_le _,by simp[pB]⟩
     intro⟨j,m'⟩ ⟨hj,hm'⟩ AA hAA;simp only[kL,Nat.reduceBEq,Nat.reduceEqDiff]
     dsimp only at*
     have hln:m'.length<=m.length+j:=by
      have h2:=aLz (A.take j)
      rw[hm',List.length_append]
      rw[List.length_take]at h2
      omega
     by_cases hjl:j<A.length
     ·have hen:=bN0 hjl
      generalize hta:A[j]=t at*
      by_cases e1:t.args.length=1
      ·have e1': ¬t.args.length=2:=by omega
       by_cases e2:t.name=aLu
       ·have hx:kG t= [.mk D4 t.args]:=by unfold kG;rw[if_pos ⟨e1,.inl e2⟩]
        repeat' (first|(refine aA fun _ _=>?_)|refine zHg ?_|(refine(hAA.next ((j+1,m'++ [.mk D4 t.args])) (Le.sub4 rfl (by simp[go_sem,aV,aU,aN,aW,aY])) (by(try dsimp only);omega) ?_))|simp(disch:=omega) [go_sem,hjl,hta,e1,e2,aV,aU,aN,aW,aY]|refine zAo ?_|fail)
        try any_goals omega
        exact⟨hjl,by rw[hm',hen,hx];simp⟩
       ·by_cases e3:t.name=aLv
        ·have hx:kG t= [.mk D4 t.args]:=by unfold kG;rw[if_pos ⟨e1,.inr e3⟩]
         repeat' (first|(refine aA fun _ _=>?_)|refine zHg ?_|(refine(hAA.next ((j+1,m'++ [.mk D4 t.args])) (Le.sub4 rfl (by simp[go_sem,aV,aU,aN,aW,aY])) (by(try dsimp only);omega) ?_))|simp(disch:=omega) [go_sem,hjl,hta,e1,e2,e3,aV,aU,aN,aW,aY]|refine zAo ?_|fail)
         try any_goals omega
         exact⟨hjl,by rw[hm',hen,hx];simp⟩
        ·have hx:kG t= []:=by unfold kG;rw[if_neg (fun h=>h.2.elim e2 e3),if_neg (fun h=>e1' h.1)]
         repeat' (first|(refine aA fun _ _=>?_)|refine zHg ?_|(refine(hAA.next ((j+1,m')) (Le.sub4 rfl (by simp[go_sem,aV,aU,aN,aW,aY])) (by(try dsimp only);omega) ?_))|simp(disch:=omega) [go_sem,hjl,hta,e1,e1',e2,e3,aV,aU,aN,aW,aY])
         try any_goals omega
         exact⟨hjl,by rw[hm',hen,hx];simp⟩
      ·by_cases e2:t.args.length=2
       ·by_cases e3:t.name=aLw
        ·have hx:kG t= [.mk aC4 t.args]:=by unfold kG;rw[if_neg (fun h=>e1 h.1),if_pos ⟨e2,e3⟩]
         repeat' (first|(refine aA fun _ _=>?_)|refine zHg ?_|(refine(hAA.next ((j+1,m'++ [.mk aC4 t.args])) (Le.sub4 rfl (by simp[go_sem,aV,aU,aN,aW,aY])) (by(try dsimp only);omega) ?_))|simp(disch:=omega) [go_sem,hjl,hta,e1,e2,e3,aV,aU,aN,aW,aY]|refine zAo ?_|fail)
         try any_goals omega
         exact⟨hjl,by rw[hm',hen,hx];simp⟩
        ·have hx:kG t= []:=by unfold kG;rw[if_neg (fun h=>e1 h.1),if_neg (fun h=>e3 h.2)]
         repeat' (first|(refine aA fun _ _=>?_)|refine zHg ?_|(refine(hAA.next ((j+1,m')) (Le.sub4 rfl (by simp[go_sem,aV,aU,aN,aW,aY])) (by(try dsimp only);omega) ?_))|simp(disch:=omega) [go_sem,hjl,hta,e1,e2,e3,aV,aU,aN,aW,aY])
         try any_goals omega
         exact⟨hjl,by rw[hm',hen,hx];simp⟩
       ·have hx:kG t= []:=by unfold kG;rw[if_neg (fun h=>e1 h.1),if_neg (fun h=>e2 h.1)]
        repeat' (first|(refine aA fun _ _=>?_)|refine zHg ?_|(refine zgd ?_ ?_<;>(intro h;first|(exfalso;omega)|(simp only[h,zT])))|(refine(hAA.next ((j+1,m')) (Le.sub4 rfl (by simp[go_sem,aV,aU,aN,aW,aY])) (by(try dsimp only);omega) ?_))|simp(disch:=omega) [go_sem,hjl,hta,e1,e2,aV,aU,aN,aW,aY])
        try any_goals omega
        exact⟨hjl,by rw[hm',hen,hx];simp⟩
     ·obtain rfl:j=A.length:=by omega
      rw[List.take_length]at hm'
      rw[<-hm']at hV
      have hX: ∀t∈m',eH q M t/\fX t<=2305843009213693952/\t.depth<=1000:=fun t h=>by
       rw[hm']at h
       have:=(List.mem_append.1 h).elim (hm t) (bNf hM hA t)
       exact⟨this.1,Nat.le_trans this.2.1 hBG,this.2.2⟩
      obtain⟨g,rfl⟩: ∃g,f=g+1:=⟨f - 1,by omega⟩
      generalize m'=X at*
      clear hm' hm
      repeat' (first|(refine aA fun _ _=>?_)|refine zHg ?_|simp(disch:=omega) [go_sem,aV,aU,aN,aW,aY])
      refine bL [0,5,7,8,10,12,159] [7,23,900] (fun z:Nat=> [(160,nt .i64 z)]) (fun z:Nat=> [(7,aV false 900 (jE A X z).length),(23,aU false (jE A X z)),(900,aN false (jE A X z))]) (fun z:Nat=>X.length - z) (fun z:Nat=>z<=X.length) (0) (Le.sub4 rfl (by simp[go_sem,aV,aU,aN,aW,aY,aMh])) ⟨?_⟩ ?_
      ·exact Nat.zero_le _
      intro z hz AA hAA;simp only[kL,Nat.reduceBEq,Nat.reduceEqDiff]
      by_cases hlt:z<X.length
      ·skip
       have hnx:=aMi (A:=A) hlt
       have hAl:=Q1 (A:=A) (Nat.le_of_lt hlt)
       have hAo:mS q M (jE A X z):=D5 hA fun u hu=>(hX u (List.mem_of_mem_take hu)).1
       have ht:=hX _ (List.getElem_mem hlt)
       generalize jE A X z=Z at*
       generalize hte:X[z]=t at*
       cases hh:nY Z t
       ·by_cases h4:t.depth<=4
        ·have hu:=aMd hq Z t ht.1 (by omega) (by omega) (by omega) hh h4
         rw[aMg hh h4]at hnx
         repeat' (first|(refine aA fun _ _=>?_)|refine zHg ?_|simp(disch:=omega) [go_sem,hlt,hte,aV,aU,aN,aW])
         refine aX [(1000,6),(1001,7),(1002,23),(1003,900)] [(6,1000),(7,1001),(23,1002),(900,1003)] 40000 _ _ (Fits.mk' (by simp[go_sem,cC,dG,aV,aU,aN,aW]) (by simp[go_sem,cC,dG,aV,aU,aN,aW])) (by simp[go_sem,cC,dG,aV,aU,aN,aW]) (by simp[go_sem,cC,dG,aV,aU,aN,aW]) (hu) (by simp[go_sem,cC,dG,aV,aU,aN,aW]) (by simp[go_sem,cC,dG,aV,aU,aN,aW]) ?_
         repeat' (first|(refine aA fun _ _=>?_)|refine zHg ?_|(refine(hAA.next (z+1) (Le.renSub [(41004,900),(900,41004)] [(900,41004),(41004,900)] (by simp[go_sem,hnx,aV,aU,aN,aW,dG]) (by simp[go_sem,hnx,aV,aU,aN,aW,dG]) (Le.sub4 rfl (by simp[go_sem,hnx,aV,aU,aN,aW,dG]))) (by(try dsimp only);omega) ?_))|simp(disch:=omega) [go_sem,hlt,hte,aV,aU,aN,aW,dG])
         try any_goals omega
         exact⟨hlt⟩
        ·have hu:=aMc hq Z t ht.1 (by omega) (by omega) (by omega) hh h4
         rw[aMf h4]at hnx
         repeat' (first|(refine aA fun _ _=>?_)|refine zHg ?_|simp(disch:=omega) [go_sem,hlt,hte,aV,aU,aN,aW])
         refine aX [(1000,6),(1001,7),(1002,23),(1003,900)] [(6,1000),(7,1001),(23,1002),(900,1003)] 40000 _ _ (Fits.mk' (by simp[go_sem,cC,dG,aV,aU,aN,aW]) (by simp[go_sem,cC,dG,aV,aU,aN,aW])) (by simp[go_sem,cC,dG,aV,aU,aN,aW]) (by simp[go_sem,cC,dG,aV,aU,aN,aW]) (hu) (by simp[go_sem,cC,dG,aV,aU,aN,aW]) (by simp[go_sem,cC,dG,aV,aU,aN,aW]) ?_
         repeat' (first|(refine aA fun _ _=>?_)|refine zHg ?_|(refine(hAA.next (z+1) (Le.sub4 rfl (by simp[go_sem,hnx,aV,aU,aN,aW,cC])) (by(try dsimp only);omega) ?_))|simp(disch:=omega) [go_sem,hlt,hte,aV,aU,aN,aW,cC])
         try any_goals omega
         exact⟨hlt⟩
       ·have hu:=aMb hq Z t ht.1 (by omega) (by omega) (by omega) hh
        rw[aMe hh]at hnx
        repeat' (first|(refine aA fun _ _=>?_)|refine zHg ?_|simp(disch:=omega) [go_sem,hlt,hte,aV,aU,aN,aW])
        refine aX [(1000,6),(1001,7),(1002,23),(1003,900)] [(6,1000),(7,1001),(23,1002),(900,1003)] 40000 _ _ (Fits.mk' (by simp[go_sem,cC,dG,aV,aU,aN,aW]) (by simp[go_sem,cC,dG,aV,aU,aN,aW])) (by simp[go_sem,cC,dG,aV,aU,aN,aW]) (by simp[go_sem,cC,dG,aV,aU,aN,aW]) (hu) (by simp[go_sem,cC,dG,aV,aU,aN,aW]) (by simp[go_sem,cC,dG,aV,aU,aN,aW]) ?_
        repeat' (first|(refine aA fun _ _=>?_)|refine zHg ?_|(refine(hAA.next (z+1) (Le.sub4 rfl (by simp[go_sem,hnx,aV,aU,aN,aW,cC])) (by(try dsimp only);omega) ?_))|simp(disch:=omega) [go_sem,hlt,hte,aV,aU,aN,aW,cC])
        try any_goals omega
        exact⟨hlt⟩
      ·obtain rfl:z=X.length:=by omega
       have hAl2:=Q1 (A:=A) (X:=X) (Nat.le_refl _)
       have hAo:=D5 hA fun u hu=>(hX u hu).1
       rw[aMj]at*
       repeat' (first|(refine aA fun _ _=>?_)|refine zHg ?_|(refine(hAB.next ((g,A.length,X.foldl gR A,lf)) (Le.sub4 rfl (by simp[go_sem,aV,aU,aN,aW,aY])) (by(try dsimp only);omega) ?_))|simp(disch:=omega) [go_sem,aV,aU,aN,aW,aY])
       try any_goals omega
       exact⟨by(try dsimp only);omega,by(try dsimp only);omega,by(try dsimp only);omega,hAo,by(try dsimp only);omega,h0,h1,hV⟩
   ·rw[aMk (fun h=>c2 (by omega)),decide_eq_false (fun h=>c2 (by omega))]at hV
    subst hV
    repeat' (first|(refine aA fun _ _=>?_)|refine zHg ?_|(refine aM [] ?_;simp[go_sem,c1,c2,aV,aU,aN,aW,aY])|simp(disch:=omega) [go_sem,c1,c2,aV,aU,aN,aW,aY])
  ·rw[aMk (fun h=>c1 h.1)]at hV
   by_cases c2:A.length<=1000
   ·rw[decide_eq_true c2]at hV
    subst hV
    have c3:(A.length:Int)<=1000:=by omega
    repeat' (first|(refine aA fun _ _=>?_)|refine zHg ?_|(refine aM [] ?_;simp[go_sem,c1,c3,aV,aU,aN,aW,aY])|simp(disch:=omega) [go_sem,c1,c3,aV,aU,aN,aW,aY])
   ·rw[decide_eq_false c2]at hV
    subst hV
    have c3: ¬(A.length:Int)<=1000:=by omega
    repeat' (first|(refine aA fun _ _=>?_)|refine zHg ?_|(refine aM [] ?_;simp[go_sem,c1,c3,aV,aU,aN,aW,aY])|simp(disch:=omega) [go_sem,c1,c3,aV,aU,aN,aW,aY])
set_option maxHeartbeats 8000000
mutual
def sN (M:Nat):Tm->Prop
 | .mk n ts=>n.size<=M/\yJ M ts
def yJ (M:Nat):List Tm->Prop
 | []=>True
 |t::ts=>sN M t/\yJ M ts
end
theorem aC9 {M:Nat}: ∀{l:List Tm},yJ M l↔ ∀t∈l,sN M t
 | []=>by simp[yJ]
 |t::r=>by rw[yJ,aC9];simp
theorem aMl {M:Nat}: ∀t:Tm,sN M t->t.size<=20->eH 19 M t:=by
 refine fL fun t ih h hz=>?_
 obtain⟨n,ts⟩:=t
 simp only[bX]at ih
 rw[sN]at h
 rw[eU,bX]at hz
 have:=qZ ts
 refine rC.2 ⟨h.1,by omega,wE.2 fun u hu=>ih u hu (aC9.1 h.2 u hu) ?_⟩
 have:=B6 hu
 omega
def nmR (M:Nat) (r:Rl):Prop:=sN M r.head/\ ∀b∈r.body,sN M b.atom
def rF (r:Rl):Bool:=sE 20 r.head&&(decide (r.body.length<=8)&&r.body.all fun b=>sE 20 b.atom)
def sO (m:Int) (l:List Rl):Bool:=decide ((l.length:Int)<=m)&&(l.all rF&&P8 l [])
theorem bN5 {M:Nat} {r:Rl} (hn:nmR M r) (h:rF r=true):okR 19 M r:=by
 unfold rF at h
 rw[Bool.and_eq_true,Bool.and_eq_true,decide_eq_true_eq,List.all_eq_true]at h
 obtain⟨h1,h2,h3⟩:=h
 have z1:r.head.size<=20:=by have:=N7 (by decide) h1;omega
 refine⟨aMl _ hn.1 z1,z1,h2,fun b hb=>?_⟩
 have z2:b.atom.size<=20:=by have:=N7 (by decide) (h3 b hb);omega
 exact⟨aMl _ (hn.2 b hb) z2,z2⟩
theorem bN6 {M:Nat} (hM:5<=M) (hBG:BG 19 M<=2305843009213693952) (l:List Rl) (fu:Bool) (m:Int) (hm:0<=m/\m<=100) (hn: ∀r∈l,nmR M r) (hbl:l.length<=140737488355328) (hbb: ∀r∈l,r.body.length<=140737488355328):
 ACall prog 6 [.list false fu (l.map bH),nt .i64 m] (fun r=>r=bl (sO m l)):=by
 by_cases hlm:m<(l.length:Int)
 ·have e:sO m l=false:=by unfold sO;rw[decide_eq_false (by omega),Bool.false_and]
  rw[e]
  refine aQ func6 call6 rfl (by simp[ntmps6]) ?_;simp only[ntmps6,results6]
  repeat' (first|(refine aA fun _ _=>?_)|refine zHg ?_|(refine aM [] ?_;simp[go_sem,hlm])|simp(disch:=omega) [go_sem,hlm])
 ·generalize hV:sO m l=V
  unfold sO at hV
  rw[decide_eq_true (by omega),Bool.true_and]at hV
  refine aQ func6 call6 rfl (by simp[ntmps6]) ?_;simp only[ntmps6,results6]
  repeat' (first|(refine aA fun _ _=>?_)|refine zHg ?_|simp(disch:=omega) [go_sem,hlm])
  refine bL [0,12] [] (fun i:Nat=> [(13,nt .i64 i)]) (fun i:Nat=> []) (fun i:Nat=>l.length - i) (fun i:Nat=>i<=l.length/\ ∀(k:Nat) (hk:k<l.length),k<i->rF l[k]=true) (0) (Le.sub4 rfl (by simp[go_sem])) ⟨?_⟩ ?_
  ·exact⟨Nat.zero_le _,fun k _ hk=>absurd hk (Nat.not_lt_zero _)⟩
  intro i ⟨hi,hs⟩ AA hAA;simp only[kL,Nat.reduceBEq,Nat.reduceEqDiff]
  by_cases hlt:i<l.length
  ·have hb8:=hbb _ (List.getElem_mem hlt)
   have hbad:rF l[i]=false->V=false:=fun h=>by
    rw[<-hV,Bool.and_eq_false_iff]
    refine .inl ?_
    rw[List.all_eq_false]
    exact⟨l[i],List.getElem_mem hlt,by rw[h];simp⟩
   have hgo:rF l[i]=true-> ∀(k:Nat) (hk:k<l.length),k<i+1->rF l[k]=true:=fun h k hk hki=>by
    rcases Nat.lt_or_eq_of_le (Nat.le_of_lt_succ hki)with h'|rfl
    ·exact hs k hk h'
    ·exact h
   have h1:=aKk l[i].head 20 (by decide)
   have hAB:=hAA
   clear hV hs
   generalize hre:l[i]=r at*
   unfold rF at hbad hgo
   cases q1:sE 20 r.head
   ·rw[q1]at h1 hbad
    obtain rfl:=hbad rfl
    repeat' (first|(refine aA fun _ _=>?_)|refine zHg ?_|(refine aM [] ?_;simp[go_sem,hlt,hre])|refine aH rfl (h1) (by simp) ?_|simp(disch:=omega) [go_sem,hlt,hre])
   ·rw[q1]at h1 hbad hgo
    by_cases q2:r.body.length<=8
    ·rw[decide_eq_true q2,Bool.true_and,Bool.true_and]at hbad hgo
     have q2': ¬(8:Int)<r.body.length:=by omega
     repeat' (first|(refine aA fun _ _=>?_)|refine zHg ?_|refine aH rfl (h1) (by simp) ?_|simp(disch:=omega) [go_sem,hlt,hre,q2'])
     refine bL [0,5,12,13,37] [] (fun k:Nat=> [(38,nt .i64 k)]) (fun k:Nat=> []) (fun k:Nat=>r.body.length - k) (fun k:Nat=>k<=r.body.length/\ ∀(j:Nat) (hj:j<r.body.length),j<k->sE 20 r.body[j].atom=true) (0) (Le.sub4 rfl (by simp[go_sem])) ⟨?_⟩ ?_
     ·exact⟨Nat.zero_le _,fun k _ hk=>absurd hk (Nat.not_lt_zero _)⟩
     intro k ⟨hk,hs⟩ AA hAA;simp only[kL,Nat.reduceBEq,Nat.reduceEqDiff]
     by_cases hkl:k<r.body.length
     ·have h2:=aKk r.body[k].atom 20 (by decide)
      cases q3:sE 20 r.body[k].atom
      ·rw[q3]at h2
       obtain rfl:=hbad (List.all_eq_false.2 ⟨_,List.getElem_mem hkl,by rw[q3];simp⟩)
       generalize hbe:r.body[k]=b at*
       repeat' (first|(refine aA fun _ _=>?_)|refine zHg ?_|(refine aM [] ?_;simp[go_sem,hlt,hre,hkl,hbe])|refine aH rfl (h2) (by simp) ?_|simp(disch:=omega) [go_sem,hlt,hre,hkl,hbe])
      ·rw[q3]at h2
       have hs': ∀(j:Nat) (hj:j<r.body.length),j<k+1->sE 20 r.body[j].atom=true:=fun j hj hjk=>by
        rcases Nat.lt_or_eq_of_le (Nat.le_of_lt_succ hjk)with h'|rfl
        ·exact hs j hj h'
        ·exact q3
       clear hs
       generalize hbe:r.body[k]=b at*
       repeat' (first|(refine aA fun _ _=>?_)|refine zHg ?_|refine aH rfl (h2) (by simp) ?_|(refine(hAA.next (k+1) (Le.sub4 rfl (by simp[go_sem])) (by(try dsimp only);omega) ?_))|simp(disch:=omega) [go_sem,hlt,hre,hkl,hbe])
       try any_goals omega
       exact⟨hkl,hs'⟩
     ·obtain rfl:k=r.body.length:=by omega
      have hall:=hgo (List.all_eq_true.2 fun b hb=>by
       obtain⟨j,hj,rfl⟩:=List.mem_iff_getElem.1 hb
       exact hs j hj hj)
      repeat' (first|(refine aA fun _ _=>?_)|refine zHg ?_|(refine(hAB.next (i+1) (Le.sub4 rfl (by simp[go_sem])) (by(try dsimp only);omega) ?_))|simp(disch:=omega) [go_sem,hlt,hre])
      try any_goals omega
      exact⟨hlt,hall⟩
    ·rw[decide_eq_false q2,Bool.false_and,Bool.true_and]at hbad
     obtain rfl:=hbad rfl
     have q2':(8:Int)<r.body.length:=by omega
     repeat' (first|(refine aA fun _ _=>?_)|refine zHg ?_|(refine aM [] ?_;simp[go_sem,hlt,hre,q2'])|refine aH rfl (h1) (by simp) ?_|simp(disch:=omega) [go_sem,hlt,hre,q2'])
  ·obtain rfl:i=l.length:=by omega
   have hall:l.all rF=true:=List.all_eq_true.2 fun r hr=>by
    obtain⟨k,hk,rfl⟩:=List.mem_iff_getElem.1 hr
    exact hs k hk hk
   rw[hall,Bool.true_and]at hV
   have hL:=bN4 (q:=19) (by decide) hM hBG l [] fu false true (fun r hr=>bN5 (hn r hr) (List.all_eq_true.1 hall r hr)) (by omega) (fun t ht=>by simp at ht) (by simp)
   rw[hV]at hL
   simp only[List.map_nil]at hL
   clear hV hs hall
   repeat' (first|(refine aA fun _ _=>?_)|refine zHg ?_|(refine aM [] ?_;simp[go_sem])|refine aH rfl (hL) (by simp) ?_|simp(disch:=omega) [go_sem])
open Go.Ab Go.ChangeShapes Go.WideShapes Go.ChangeAt Go.RowKit
theorem own:ownKnob prog.godebug=none:=by kernel_rfl
theorem bUu:Kids prog (· <prog.types.size):=kids_rows (by kernel_rfl) (by kernel_rfl)
theorem kH: ∀t e,t<prog.types.size->prog.underlying t=some (.slice e)->0<prog.cellsOf e:=slices_full_of prog (by kernel_rfl)
def Q2 (r:Rl):Prop:=nmR reachBytes r/\r.body.length<=dD
section
variable {H : Type} {enc : TypeId × Value -> H} {W : World}
theorem aDb: ∀n:Nat,Came enc prog W n 47 eT (sN reachBytes)/\Came enc prog W n 45 (fun l:List Tm=> .list false false (l.map aO)) (yJ reachBytes)
 |0=>⟨Came.zero,Came.zero⟩
 |n+1=>by
  obtain⟨h1,h2⟩:=aDb n
  refine⟨(Came.struct underlying47 rfl (by kernel_rfl) (CameF.cons 1 rfl (by kernel_rfl) (Came.string underlying9) (CameF.cons 1 rfl (by kernel_rfl) h2 CameF.nil))).map (fun x=>Tm.mk x.1 x.2.1) (fun x h=>⟨⟨h.1,h.2.1⟩,rfl⟩),?_⟩
  refine(Came.slice underlying45 (by decide+kernel) (by decide+kernel) h1).map (fun x=>x) (fun x h=>⟨aC9.2 h.1,?_⟩)
  congr 1
  exact List.map_congr_left fun t _=>oS t
theorem bN7: ∀n:Nat,Came enc prog W n 52 cF (fun b=>sN reachBytes b.atom)
 |0=>Came.zero
 |n+1=>(Came.struct underlying52 rfl (by kernel_rfl) (CameF.cons 1 rfl (by kernel_rfl) (Came.bool underlying4) (CameF.cons 2 rfl (by kernel_rfl) (aDb n).1 CameF.nil))).map (fun x=>(⟨x.1,x.2.1⟩:Lt)) (fun x h=>⟨h.2.1,rfl⟩)
theorem bN8: ∀n:Nat,Came enc prog W n 48 (fun l:List Lt=> .list false false (l.map cF)) (fun l=>(∀b∈l,sN reachBytes b.atom)/\l.length<=dD)
 |0=>Came.zero
 |n+1=>((Came.slice underlying48 (by decide+kernel) (by decide+kernel) (bN7 n)).len).map (fun x=>x) (fun x h=>⟨⟨h.1.1,h.2⟩,rfl⟩)
theorem bN9: ∀n:Nat,Came enc prog W n 50 bH Q2
 |0=>Came.zero
 |n+1=>(Came.struct underlying50 rfl (by kernel_rfl) (CameF.cons 2 rfl (by kernel_rfl) (aDb n).1 (CameF.cons 1 rfl (by kernel_rfl) (bN8 n) CameF.nil))).map (fun x=>(⟨x.1,x.2.1⟩:Rl)) (fun x h=>⟨⟨⟨h.1,h.2.1.1⟩,h.2.1.2⟩,rfl⟩)
theorem bUv: ∀n:Nat,Came enc prog W n 22 (fun l:List Rl=> .list false false (l.map bH)) (fun l=>(∀r∈l,Q2 r)/\l.length<=dD)
 |0=>Came.zero
 |n+1=>((Came.slice underlying22 (by decide+kernel) (by decide+kernel) (bN9 n)).len).map (fun x=>x) (fun x h=>⟨⟨h.1.1,h.2⟩,rfl⟩)
end
open Go.Ab
structure Tot {α:Type} (c:α->α->Int):Prop where
 rng: ∀a b,c a b= -1\/c a b=0\/c a b=1
 neg: ∀a b,c b a= -c a b
 tr: ∀a b d,TR (c a b) (c b d) (c a d)
 zero: ∀a b,c a b=0↔a=b
theorem Tot.two {α β γ:Type} {c:β->β->Int} {d:γ->γ->Int} (hc:Tot c) (hd:Tot d) (f:α->β) (g:α->γ) (hi: ∀x y,f x=f y->g x=g y->x=y):
 Tot (fun x y=>eV (c (f x) (f y)) (d (g x) (g y))):=
 ⟨fun a b=>bL4 (hc.rng _ _) (hd.rng _ _),fun a b=>yE (hc.neg _ _) (hd.neg _ _),fun a b e=>yC (hc.tr _ _ _) (hd.tr _ _ _),
  fun a b=>by
   rw[aCg,hc.zero,hd.zero]
   exact⟨fun h=>hi _ _ h.1 h.2,fun h=>by rw[h];exact⟨rfl,rfl⟩⟩⟩
section
variable {α : Type} {c : α -> α -> Int}
theorem Tot.self (h:Tot c) (a:α):c a a=0:=(h.zero a a).2 rfl
theorem Tot.lt_le (h:Tot c) {a b d:α} (h1:c a b<0) (h2:c b d<=0):c a d<0:=by
 obtain⟨p,q⟩:=h.tr a b d (by omega) h2
 rcases Int.lt_or_eq_of_le p with p|p
 ·exact p
 ·have:=(q p).1;omega
def rG (c:α->α->Int) (l:List α):Prop:=l.Pairwise fun a b=>c a b<0
theorem aDc (h:Tot c): ∀{a b:List α},rG c a->rG c b->(∀t,t∈a↔t∈b)->a=b
 | [],[],_,_,_=>rfl
 | [],y::q,_,_,hm=>absurd ((hm y).2 (by simp)) (by simp)
 |x::r,[],_,_,hm=>absurd ((hm x).1 (by simp)) (by simp)
 |x::r,y::q,ha,hb,hm=>by
  obtain⟨a1,a2⟩:=List.pairwise_cons.1 ha
  obtain⟨b1,b2⟩:=List.pairwise_cons.1 hb
  have e:x=y:=by
   rcases List.mem_cons.1 ((hm x).1 (by simp))with e|hx
   ·exact e
   ·rcases List.mem_cons.1 ((hm y).2 (by simp))with e|hy
    ·exact e.symm
    ·have u:=a1 y hy
     have v:=b1 x hx
     rw[h.neg x y]at v
     omega
  subst e
  congr 1
  refine aDc h a2 b2 fun t=>⟨fun ht=>?_,fun ht=>?_⟩
  ·rcases List.mem_cons.1 ((hm t).1 (by simp[ht]))with rfl|k
   ·have:=a1 t ht;rw[h.self]at this;omega
   ·exact k
  ·rcases List.mem_cons.1 ((hm t).2 (by simp[ht]))with rfl|k
   ·have:=b1 t ht;rw[h.self]at this;omega
   ·exact k
def mT (c:α->α->Int) (t:α):List α->List α
 | []=> [t]
 |x::r=>if c x t<0 then x::mT c t r else if c x t=0 then x::r else t::x::r
def fM (c:α->α->Int) (l:List α):List α:=l.foldl (fun o t=>mT c t o) []
theorem aDd (h:Tot c) {t x:α}: ∀{o:List α},x∈mT c t o↔x=t\/x∈o
 | []=>by simp[mT]
 |y::r=>by
  rw[mT]
  split
  ·rw[List.mem_cons,aDd h,List.mem_cons]
   constructor
   ·rintro(e|e|e)<;>simp[e]
   ·rintro(e|e|e)<;>simp[e]
  ·split
   ·rename_i h0
    have:=(h.zero _ _).1 h0
    subst this
    simp
   ·simp
theorem aMm (h:Tot c) {t:α}: ∀{o:List α},rG c o->rG c (mT c t o)
 | [],_=>List.pairwise_singleton _ _
 |y::r,ho=>by
  obtain⟨a1,a2⟩:=List.pairwise_cons.1 ho
  rw[mT]
  split
  ·rename_i hlt
   refine List.pairwise_cons.2 ⟨fun x hx=>?_,aMm h a2⟩
   rcases(aDd h).1 hx with rfl|hx
   ·exact hlt
   ·exact a1 x hx
  ·split
   ·exact ho
   ·rename_i h1 h2
    have hty:c t y<0:=by rw[h.neg y t];omega
    refine List.pairwise_cons.2 ⟨fun x hx=>?_,ho⟩
    rcases List.mem_cons.1 hx with rfl|hx
    ·exact hty
    ·exact h.lt_le hty (Int.le_of_lt (a1 x hx))
theorem aDe (h:Tot c): ∀(l o:List α),rG c o->rG c (l.foldl (fun o t=>mT c t o) o)/\ ∀x,x∈l.foldl (fun o t=>mT c t o) o↔x∈l\/x∈o
 | [],o,ho=>⟨ho,fun x=>by simp⟩
 |t::r,o,ho=>by
  obtain⟨h1,h2⟩:=aDe h r (mT c t o) (aMm h ho)
  refine⟨h1,fun x=>?_⟩
  rw[List.foldl_cons,h2 x,aDd h,List.mem_cons]
  constructor
  ·rintro(e|e|e)<;>simp[e]
  ·rintro((e|e)|e)<;>simp[e]
theorem aDf (h:Tot c) (l:List α):rG c (fM c l):=(aDe h l [] List.Pairwise.nil).1
theorem D6 (h:Tot c) (l:List α) (x:α):x∈fM c l↔x∈l:=by
 unfold fM
 rw[(aDe h l [] List.Pairwise.nil).2 x]
 simp
theorem yK (h:Tot c) {a b:List α} (hm: ∀x,x∈a↔x∈b):fM c a=fM c b:=
 aDc h (aDf h a) (aDf h b) fun x=>by rw[D6 h,D6 h,hm x]
theorem aMn (h:Tot c) {a:List α} (ha:rG c a):fM c a=a:=
 aDc h (aDf h a) ha (D6 h a)
theorem aMo {t:α}: ∀{o:List α},(mT c t o).length<=o.length+1
 | []=>Nat.le_refl _
 |y::r=>by
  rw[mT]
  have:=aMo (t:=t) (o:=r)
  split
  ·simp;omega
  ·split<;>simp
theorem aMp: ∀(l:List α),(fM c l).length<=l.length:=by
 have key: ∀(l o:List α),(l.foldl (fun o t=>mT c t o) o).length<=l.length+o.length:=by
  intro l
  induction l with
  |nil=>intro o;simp
  |cons t r ih=>
   intro o
   have h1:=ih (mT c t o)
   have h2:=aMo (c:=c) (t:=t) (o:=o)
   simp only[List.foldl_cons,List.length_cons]
   omega
 intro l
 have:=key l []
 simpa[fM]using this
end
open Go.Ab
set_option maxRecDepth 100000
def nb (b:Bool):Int:=if b=true then 1 else 0
theorem bOa:Tot (fun a b:Bool=>dR (nb a) (nb b)):=
 ⟨fun a b=>bL3 _ _,fun a b=>O2 _ _,fun a b d=>O3 _ _ _,fun a b=>by rw[uN];cases a<;>cases b<;>decide⟩
def cU (r:Rl):List Tm:=r.head::r.body.map Lt.atom
def bOb (r:Rl):List ByteArray:=iI (cU r)
mutual
def W3 (f:ByteArray->ByteArray):Tm->Tm
 | .mk n ts=>if ts.length=0 then .mk (if qB n=true then f n else n) []else .mk n (renL f ts)
def renL (f:ByteArray->ByteArray):List Tm->List Tm
 | []=> []
 |t::r=>W3 f t::renL f r
end
theorem tV {f:ByteArray->ByteArray}: ∀{l:List Tm},renL f l=l.map (W3 f)
 | []=>rfl
 |t::r=>by rw[renL,tV];rfl
open Go.Ab
set_option maxRecDepth 100000
theorem rH:Tot cT:=⟨N9,aCc,aKz,fun _ _=>B9⟩
structure Kw where
 nm:ByteArray
 ar:Nat
 hd:Bool
 bd:Bool
abbrev qE (k:Kw):AV:= .agg [.sc (.string k.nm),nt .i64 k.ar,bl k.hd,bl k.bd]
abbrev sP:ByteArray:=⟨#[114,111,108,101]⟩
abbrev wL:ByteArray:=⟨#[105,110,105,116]⟩
abbrev Q3:ByteArray:=⟨#[116,114,117,101]⟩
abbrev nZ:ByteArray:=⟨#[100,111,101,115]⟩
abbrev Q4:ByteArray:=⟨#[108,101,103,97,108]⟩
abbrev bOc:ByteArray:=⟨#[110,101,120,116]⟩
abbrev Q5:ByteArray:=⟨#[116,101,114,109,105,110,97,108]⟩
abbrev Q6:ByteArray:=⟨#[103,111,97,108]⟩
abbrev bOd:ByteArray:=⟨#[115,101,101,115]⟩
abbrev lX:ByteArray:=⟨#[100,105,115,116,105,110,99,116]⟩
abbrev aDg:ByteArray:=⟨#[99,104,97,110,99,101]⟩
def mU:List Kw:= [⟨sP,1,true,true⟩,⟨wL,1,true,false⟩,⟨Q3,1,false,true⟩,⟨nZ,2,false,true⟩,⟨Q4,2,true,false⟩,⟨bOc,1,true,false⟩,⟨Q5,0,true,false⟩,⟨Q6,2,true,false⟩,⟨bOd,2,true,false⟩,⟨lX,2,false,true⟩]
def wM (s:ByteArray):Option Kw:=mU.find? fun k=>decide (k.nm=s)
def jF:Option Kw->AV
 |some k=> .tup [qE k,bl true]
 |none=> .tup [qE ⟨⟨#[]⟩,0,false,false⟩,bl false]
mutual
def sQ:Tm->Bool
 | .mk n ts=>if ts.length=0 then !(gP n).2&&(!lS n&& !qB n)else !lS n||D7 ts
def D7:List Tm->Bool
 | []=>false
 |t::r=>sQ t||D7 r
end
theorem bOe {n:ByteArray} {ts:List Tm}:sQ (.mk n ts)=if ts.length=0 then !(gP n).2&&(!lS n&& !qB n)else !lS n||D7 ts:=by rw[sQ]
theorem aMq: ∀l:List Tm,D7 l=l.any sQ
 | []=>rfl
 |t::r=>by rw[D7,aMq r,List.any_cons]
mutual
def sR:Tm->Bool
 | .mk _ ts=>decide (4<ts.length)||D8 ts
def D8:List Tm->Bool
 | []=>false
 |t::r=>sR t||D8 r
end
theorem bOf {n:ByteArray} {ts:List Tm}:sR (.mk n ts)=(decide (4<ts.length)||D8 ts):=by rw[sR]
theorem aMr: ∀l:List Tm,D8 l=l.any sR
 | []=>rfl
 |t::r=>by rw[D8,aMr r,List.any_cons]
def Q7 (hd:Bool) (n:Nat) (d:Nat) (wd:Bool):Option Kw->Int
 |none=>if wd=true then 5 else if 4<d then 3 else 0
 |some k=>if wd=true\/n≠k.ar then 5 else if 4<d then 3 else if(hd=true/\k.hd=false)\/(hd=false/\k.bd=false)then 6 else 0
def iJ (hd:Bool) (t:Tm):Int:=if lS t.name=false\/sQ t=true then 4 else Q7 hd t.args.length t.depth (sR t) (wM t.name)
def uQ:List Tm->Int
 | []=>0
 |t::r=>if iJ false t≠0 then iJ false t else uQ r
def oA (b:Lt):Bool:= !b.neg&& !decide (b.atom.name=lX)
def sS (r:Rl):List Tm:=r.head::(r.body.filter fun b=> !oA b).map Lt.atom
def uR (r:Rl):List Tm:=(r.body.filter oA).map Lt.atom
def D9 (r:Rl):Bool:=(iI (sS r)).all fun v=>fS (iI (uR r)) v
def yL:Tm:= .mk ⟨#[]⟩ []
def wN (r:Rl):Bool:=decide (r.head.name=sP)&&(decide (r.body.length≠0)||(decide ((r.head.args.headD yL).args.length≠0)|| !lS (r.head.args.headD yL).name))
def lC (r:Rl):Int:=
 if 8<r.body.length then 2 else if iJ true r.head≠0 then iJ true r.head else if uQ (r.body.map Lt.atom)≠0 then uQ (r.body.map Lt.atom)
 else if 5<(bOb r).length then 11 else if D9 r=false then 7 else if wN r=true then 8 else 0
def uS:List Rl->Nat->Option (Nat×Int)
 | [],_=>none
 |r::q,i=>if lC r≠0 then some (i,lC r)else uS q (i+1)
def yM (met:List Tm) (t:Tm):Bool:=met.all fun u=> !decide (u.name=t.name)||decide (u.args.length=t.args.length)
def E0:List Tm->List Tm->Bool
 |_,[]=>true
 |met,t::r=>yM met t&&E0 (met++ [t]) r
def sU:List Tm->List Rl->Nat->Option Nat
 |_,[],_=>none
 |met,r::q,i=>if E0 met (cU r)=true then sU (met++cU r) q (i+1)else some i
def E1 (r:Rl):Bool:=decide (r.head.name=sP)&&(decide (r.head.args.length=1)&&decide (r.body.length=0))
def yN (acc:List Tm) (t:Tm):List Tm:=if acc.any (fun u=>decide (dJ u t=0))=true then acc else acc++ [t]
def oB (l:List Rl):List Tm:=((l.filter E1).map fun r=>r.head.args.headD yL).foldl yN []
def yO (t:Tm):Bool:=decide (t.name=aDg)&&decide (t.args.length=0)
def E2 (l:List Rl):Int:=if(oB l).findIdx yO<(oB l).length then(oB l).findIdx yO else -1
structure Ed where
 fr:ByteArray
 to:ByteArray
 neg:Bool
 deriving DecidableEq
abbrev bP (e:Ed):AV:= .agg [.sc (.string e.fr),.sc (.string e.to),bl e.neg]
def iW (a b:Ed):Int:=eV (eV (cT a.fr b.fr) (cT a.to b.to)) (dR (nb a.neg) (nb b.neg))
theorem wO:Tot iW:=
 ((rH.two rH (α:=ByteArray×ByteArray) Prod.fst Prod.snd fun x y h k=>Prod.ext h k).two bOa (α:=Ed) (fun e=>(e.fr,e.to)) Ed.neg fun x y h k=>by
  cases x;cases y;simp only[Prod.mk.injEq]at h;obtain⟨rfl,rfl⟩:=h;dsimp only at k;subst k;rfl)
def E4 (l:List Rl):List ByteArray:=(l.flatMap fun r=>(cU r).map Tm.name).filter fun s=> !decide (s=lX)
def rI (l:List Rl):List ByteArray:=fM cT (E4 l)
def wP (r:Rl):List Ed:=if r.head.name=lX then[]else(r.body.filter fun b=> !decide (b.atom.name=lX)).map fun b=>⟨r.head.name,b.atom.name,b.neg⟩
def iB (l:List Rl):List Ed:=fM iW (l.flatMap wP)
inductive Rch (es:List Ed) (s:ByteArray):ByteArray->Prop
 |one {e:Ed}:e∈es->e.fr=s->Rch es s e.to
 |more {e:Ed}:Rch es s e.fr->e∈es->Rch es s e.to
def oC (s:ByteArray) (a:List ByteArray) (e:Ed):List ByteArray:=if(e.fr=s\/fS a e.fr=true)/\fS a e.to=false then a++ [e.to]else a
theorem wQ {l:List ByteArray} {s:ByteArray}:fS l s=false↔s∉l:=by
 rw[<-D3];simp
def jG (es:List Ed) (s:ByteArray):Nat->List ByteArray
 |0=> []
 |n+1=>es.foldl (oC s) (jG es s n)
def Q8 (es:List Ed) (s:ByteArray):List ByteArray:=jG es s (es.length+1)
theorem aMs {s:ByteArray} {a:List ByteArray} {e:Ed}: ∃b,oC s a e=a++b:=by
 unfold oC;split
 ·exact⟨_,rfl⟩
 ·exact⟨[],by simp⟩
theorem aDh {s:ByteArray}: ∀{es:List Ed} {a:List ByteArray},∃b,es.foldl (oC s) a=a++b
 | [],a=>⟨[],by simp⟩
 |e::es,a=>by
  obtain⟨b,hb⟩:=aMs (s:=s) (a:=a) (e:=e)
  obtain⟨c,hc⟩:=aDh (s:=s) (es:=es) (a:=a++b)
  exact⟨b++c,by rw[List.foldl_cons,hb,hc,List.append_assoc]⟩
theorem aMt {s:ByteArray}: ∀{es:List Ed} {a:List ByteArray},es.foldl (oC s) a=a-> ∀e∈es,(e.fr=s\/e.fr∈a)->e.to∈a
 | [],_,_,e,he,_=>by simp at he
 |x::es,a,h,e,he,hc=>by
  rw[List.foldl_cons]at h
  obtain⟨b,hb⟩:=aMs (s:=s) (a:=a) (e:=x)
  obtain⟨c,hcc⟩:=aDh (s:=s) (es:=es) (a:=oC s a x)
  have hl:b= []:=by
   have:=congrArg List.length (hcc.symm.trans h)
   rw[hb]at this
   simp only[List.length_append]at this
   exact List.eq_nil_of_length_eq_zero (by omega)
  rw[hl,List.append_nil]at hb
  rw[hb]at h
  rcases List.mem_cons.1 he with rfl|he
  ·unfold oC at hb
   split at hb
   ·have:=congrArg List.length hb;simp at this
   ·rename_i hn
    refine D3.1 ?_
    cases hh:fS a e.to with
    |true=>rfl
    |false=>exact absurd ⟨hc.imp_right D3.2,hh⟩ hn
  ·exact aMt h e he hc
theorem aMu {es0:List Ed} {s:ByteArray}: ∀{es:List Ed} {a:List ByteArray},(∀e∈es,e∈es0)->a.Nodup->(∀x∈a,Rch es0 s x)->(es.foldl (oC s) a).Nodup/\ ∀x∈es.foldl (oC s) a,Rch es0 s x
 | [],a,_,h1,h2=>⟨h1,h2⟩
 |e::es,a,h0,h1,h2=>by
  rw[List.foldl_cons]
  refine aMu (fun x hx=>h0 x (by simp[hx])) ?_ ?_
  ·unfold oC;split
   ·rename_i hc
    exact List.nodup_append.2 ⟨h1,by simp,fun x hx y hy=>by simp at hy;subst hy;rintro rfl;exact wQ.1 hc.2 hx⟩
   ·exact h1
  ·unfold oC;split
   ·rename_i hc
    intro x hx
    rcases List.mem_append.1 hx with hx|hx
    ·exact h2 x hx
    ·simp at hx
     subst hx
     rcases hc.1 with hs|hs
     ·exact .one (h0 e (by simp)) hs
     ·exact .more (h2 _ (D3.1 hs)) (h0 e (by simp))
   ·exact h2
theorem aDi {es:List Ed} {s:ByteArray}: ∀n,(jG es s n).Nodup/\ ∀x∈jG es s n,Rch es s x
 |0=>⟨List.nodup_nil,by simp[jG]⟩
 |n+1=>by
  obtain⟨h1,h2⟩:=aDi (es:=es) (s:=s) n
  exact aMu (fun _ h=>h) h1 h2
theorem Q9 {α:Type} [DecidableEq α]: ∀{a b:List α},a.Nodup->(∀x∈a,x∈b)->a.length<=b.length
 | [],_,_,_=>Nat.zero_le _
 |x::a,b,hn,hs=>by
  obtain⟨h1,h2⟩:=List.nodup_cons.1 hn
  have hx:=hs x (by simp)
  have:=Q9 (a:=a) (b:=b.erase x) h2 fun y hy=>(List.mem_erase_of_ne (fun(e:y=x)=>h1 (e▸hy))).2 (hs y (by simp[hy]))
  rw[List.length_erase_of_mem hx]at this
  have:=List.length_pos_of_mem hx
  simp only[List.length_cons];omega
theorem aMv {es:List Ed} {s x:ByteArray} (h:Rch es s x):x∈es.map Ed.to:=by
 cases h with
 |one h _=>exact List.mem_map.2 ⟨_,h,rfl⟩
 |more _ h=>exact List.mem_map.2 ⟨_,h,rfl⟩
theorem bOg {es:List Ed} {s:ByteArray} (n:Nat):(jG es s n).length<=es.length:=by
 obtain⟨h1,h2⟩:=aDi (es:=es) (s:=s) n
 have:=Q9 h1 fun x hx=>aMv (h2 x hx)
 simpa using this
theorem aMw {es:List Ed} {s:ByteArray}: ∀n,(∃m,m<n/\jG es s (m+1)=jG es s m)\/n<=(jG es s n).length
 |0=> .inr (Nat.zero_le _)
 |n+1=>by
  rcases aMw (es:=es) (s:=s) n with⟨m,h1,h2⟩|h
  ·exact .inl ⟨m,by omega,h2⟩
  ·obtain⟨b,hb⟩:=aDh (s:=s) (es:=es) (a:=jG es s n)
   have hb':jG es s (n+1)=jG es s n++b:=hb
   cases b with
   |nil=>exact .inl ⟨n,by omega,by rw[hb',List.append_nil]⟩
   |cons x r=>right;rw[hb',List.length_append,List.length_cons];omega
theorem aDj {es:List Ed} {s:ByteArray} {m:Nat} (h:jG es s (m+1)=jG es s m): ∀k,jG es s (m+k)=jG es s m
 |0=>rfl
 |k+1=>by
  show es.foldl (oC s) (jG es s (m+k))=_
  rw[aDj h k];exact h
theorem bOh {es:List Ed} {s x:ByteArray}:x∈Q8 es s↔Rch es s x:=by
 refine⟨(aDi _).2 x,fun h=>?_⟩
 have hfix:es.foldl (oC s) (Q8 es s)=Q8 es s:=by
  rcases aMw (es:=es) (s:=s) (es.length+1)with⟨m,h1,h2⟩|h'
  ·have e1:=aDj h2 (es.length+1 - m)
   have e2:=aDj h2 (es.length+1 - m+1)
   rw[show m+(es.length+1 - m)=es.length+1 by omega]at e1
   rw[show m+(es.length+1 - m+1)=es.length+1+1 by omega]at e2
   show jG es s (es.length+1+1)=jG es s (es.length+1)
   rw[e1,e2]
  ·have:=bOg (es:=es) (s:=s) (es.length+1);omega
 have hcl:=aMt hfix
 induction h with
 |one h1 h2=>exact hcl _ h1 (.inl h2)
 |more _ h1 ih=>exact hcl _ h1 (.inr ih)
def kI (es:List Ed) (s:ByteArray):List ByteArray:=fM cT (Q8 es s)
def R0 (l:List Rl):Bool:=
 fS (kI (iB l) wL) Q3||(fS (kI (iB l) wL) nZ||(fS (kI (iB l) Q4) nZ||(fS (kI (iB l) Q6) nZ||fS (kI (iB l) Q5) nZ)))
def eC (e:Ed):Nat:=if e.neg=true then 1 else 0
def sV (es:List Ed) (L:ByteArray->Nat):Prop:= ∀e∈es,L e.to+eC e<=L e.fr
open Classical in
noncomputable def pD (es:List Ed):Int:=if ∃L,sV es L then 0 else 10
def R1 (nms:List ByteArray) (L:ByteArray->Nat) (x:ByteArray):Nat:=((List.range (L x)).filter fun v=>nms.any fun y=>decide (L y=v)).length
theorem aMx {p:Nat->Bool} {a b:Nat} (h:a<=b):((List.range a).filter p).length<=((List.range b).filter p).length:=by
 obtain⟨c,rfl⟩:=Nat.le.dest h
 rw[List.range_add,List.filter_append,List.length_append]
 exact Nat.le_add_right _ _
theorem aMy {p:Nat->Bool} {a b:Nat} (h:a<b) (hp:p a=true):((List.range a).filter p).length<((List.range b).filter p).length:=by
 have h1:=aMx (p:=p) (a:=a+1) (b:=b) h
 rw[List.range_succ,List.filter_append,List.length_append]at h1
 simp only[List.filter_cons,hp,if_true,List.filter_nil,List.length_cons,List.length_nil]at h1
 omega
theorem bOi {es:List Ed} {nms:List ByteArray} (hin: ∀e∈es,e.fr∈nms/\e.to∈nms) {L:ByteArray->Nat} (h:sV es L):sV es (R1 nms L)/\ ∀x∈nms,R1 nms L x<nms.length:=by
 refine⟨fun e he=>?_,fun x hx=>?_⟩
 ·have h1:=h e he
  unfold eC at h1 ⊢
  unfold R1
  split
  ·rename_i hn
   rw[if_pos hn]at h1
   exact aMy (by omega) (List.any_eq_true.2 ⟨e.to,(hin e he).2,by simp⟩)
  ·rename_i hn
   rw[if_neg hn]at h1
   exact aMx (by omega)
 ·have h1:=aMy (p:=fun v=>nms.any fun y=>decide (L y=v)) (Nat.lt_succ_self (L x)) (List.any_eq_true.2 ⟨x,hx,by simp⟩)
  have h2:((List.range (L x).succ).filter fun v=>nms.any fun y=>decide (L y=v)).length<=(nms.map L).length:=by
   refine Q9 (List.nodup_range.filter _) fun v hv=>?_
   obtain⟨_,hv⟩:=List.mem_filter.1 hv
   obtain⟨y,hy,e⟩:=List.any_eq_true.1 hv
   exact List.mem_map.2 ⟨y,hy,of_decide_eq_true e⟩
  rw[List.length_map]at h2
  unfold R1;omega
theorem R2 {es:List Ed} {nms:List ByteArray} (hin: ∀e∈es,e.fr∈nms/\e.to∈nms) {M:ByteArray->Nat} (hlow: ∀L,sV es L-> ∀x,M x<=L x) {e:Ed} (he:e∈es) (hbig:nms.length<=M e.to+eC e):pD es=10:=by
 unfold pD
 rw[if_neg]
 rintro⟨L,hL⟩
 obtain⟨h1,h2⟩:=bOi hin hL
 have:=hlow _ h1 e.to
 have:=h1 e he
 have:=h2 e.fr (hin e he).1
 omega
theorem bOj {es:List Ed} {M:ByteArray->Nat} (h:sV es M):pD es=0:=if_pos ⟨M,h⟩
theorem bOk {es:List Ed} {M:ByteArray->Nat} (hlow: ∀L,sV es L-> ∀x,M x<=L x) {e:Ed} (he:e∈es): ∀L,sV es L-> ∀x,(if x=e.fr then M e.to+eC e else M x)<=L x:=fun L hL x=>by
 split
 ·rename_i hx
  subst hx
  have:=hlow L hL e.to
  have:=hL e he
  omega
 ·exact hlow L hL x
theorem bOl {l:List Rl}: ∀e∈iB l,e.fr∈rI l/\e.to∈rI l:=fun e he=>by
 unfold iB at he
 rw[D6 wO,List.mem_flatMap]at he
 obtain⟨r,hr,he⟩:=he
 unfold wP at he
 split at he
 ·simp at he
 ·rename_i hd
  rw[List.mem_map]at he
  obtain⟨b,hb,rfl⟩:=he
  obtain⟨hb,hn⟩:=List.mem_filter.1 hb
  have hin: ∀s,s∈(cU r).map Tm.name-> ¬s=lX->s∈rI l:=fun s hs hne=>by
   unfold rI E4
   rw[D6 rH]
   exact List.mem_filter.2 ⟨List.mem_flatMap.2 ⟨r,hr,hs⟩,by simpa using hne⟩
  refine⟨hin _ (List.mem_map.2 ⟨r.head,by simp[cU],rfl⟩) hd,hin _ (List.mem_map.2 ⟨b.atom,?_,rfl⟩) (by simpa using hn)⟩
  simp only[cU,List.mem_cons,List.mem_map]
  exact .inr ⟨b,hb,rfl⟩
noncomputable def gS (l:List Rl):Int×Int:=
 if 128<l.length then(128,2)else match uS l 0 with
 |some (i,e)=>(i,e)
 |none=>match sU [] l 0 with
  |some i=>(i,5)
  |none=>if(oB l).length=0\/4<(oB l).length\/((oB l).length=1/\E2 l=0)then(0,8)else if R0 l=true then(0,9)else(0,pD (iB l))
open Go.Ab
set_option maxRecDepth 100000
set_option maxHeartbeats 8000000
def jU (es:List Ed) (s:ByteArray):List ByteArray:=(es.filter fun e=>decide (e.fr=s)).map Ed.to
theorem R3 {es:List Ed} {s x:ByteArray}:x∈jU es s↔ ∃e∈es,e.fr=s/\e.to=x:=by
 unfold jU
 rw[List.mem_map]
 constructor
 ·rintro⟨e,he,rfl⟩
  obtain⟨h1,h2⟩:=List.mem_filter.1 he
  exact⟨e,h1,of_decide_eq_true h2,rfl⟩
 ·rintro⟨e,h1,h2,rfl⟩
  exact⟨e,List.mem_filter.2 ⟨h1,decide_eq_true h2⟩,rfl⟩
theorem E5 (es:List Ed) (s:ByteArray):(jU es s).length<=es.length:=by
 unfold jU
 rw[List.length_map]
 exact List.length_filter_le _ _
def sW (es:List Ed) (s:ByteArray) (R S:List ByteArray):Prop:=R.Nodup/\(∀x∈R,Rch es s x)/\(∀x∈S,Rch es s x)/\ ∀e∈es,(e.fr=s\/e.fr∈R)->e.to∈R\/e.to∈S
theorem bOm (es:List Ed) (s:ByteArray):sW es s [] (jU es s):=by
 refine⟨List.nodup_nil,by simp,fun x hx=>?_,fun e he h=> .inr (R3.2 ⟨e,he,?_,rfl⟩)⟩
 ·obtain⟨e,he,h1,rfl⟩:=R3.1 hx
  exact .one he h1
 ·rcases h with h|h
  ·exact h
  ·simp at h
theorem aMz {es:List Ed} {s:ByteArray} {R S:List ByteArray} {x:ByteArray} (h:sW es s R (S++ [x])) (hx:x∈R):sW es s R S:=by
 obtain⟨h1,h2,h3,h4⟩:=h
 refine⟨h1,h2,fun y hy=>h3 y (List.mem_append_left _ hy),fun e he hf=>?_⟩
 rcases h4 e he hf with g|g
 ·exact .inl g
 ·rcases List.mem_append.1 g with g|g
  ·exact .inr g
  ·rw[List.mem_singleton.1 g];exact .inl hx
theorem aM0 {es:List Ed} {s:ByteArray} {R S:List ByteArray} {x:ByteArray} (h:sW es s R (S++ [x])) (hx:x∉R):sW es s (R++ [x]) (S++jU es x):=by
 obtain⟨h1,h2,h3,h4⟩:=h
 have hr:Rch es s x:=h3 x (by simp)
 refine⟨List.nodup_append.2 ⟨h1,by simp,fun a ha b hb e=>hx (by rw[<-List.mem_singleton.1 hb,<-e];exact ha)⟩,fun y hy=>?_,fun y hy=>?_,fun e he hf=>?_⟩
 ·rcases List.mem_append.1 hy with hy|hy
  ·exact h2 y hy
  ·rw[List.mem_singleton.1 hy];exact hr
 ·rcases List.mem_append.1 hy with hy|hy
  ·exact h3 y (List.mem_append_left _ hy)
  ·obtain⟨e,he,g1,rfl⟩:=R3.1 hy
   exact .more (g1▸hr) he
 ·by_cases hfx:e.fr=x
  ·exact .inr (List.mem_append_right _ (R3.2 ⟨e,he,hfx,rfl⟩))
  ·have hf':e.fr=s\/e.fr∈R:=by
    rcases hf with hf|hf
    ·exact .inl hf
    ·rcases List.mem_append.1 hf with hf|hf
     ·exact .inr hf
     ·exact absurd (List.mem_singleton.1 hf) hfx
   rcases h4 e he hf' with g|g
   ·exact .inl (List.mem_append_left _ g)
   ·rcases List.mem_append.1 g with g|g
    ·exact .inr (List.mem_append_left _ g)
    ·exact .inl (List.mem_append_right _ g)
theorem aM1 {es:List Ed} {s:ByteArray} {R:List ByteArray} (h:sW es s R []) (x:ByteArray):x∈R↔Rch es s x:=by
 obtain⟨h1,h2,_,h4⟩:=h
 have hc: ∀e∈es,(e.fr=s\/e.fr∈R)->e.to∈R:=fun e he hf=>by
  rcases h4 e he hf with g|g
  ·exact g
  ·simp at g
 refine⟨h2 x,fun hx=>?_⟩
 induction hx with
 |one he hf=>exact hc _ he (.inl hf)
 |more _ he ih=>exact hc _ he (.inr ih)
theorem E6 {es:List Ed} {s:ByteArray} {R S:List ByteArray} (h:sW es s R S):R.length<=es.length:=by
 have:=Q9 (b:=es.map Ed.to) h.1 fun x hx=>aMv (h.2.1 x hx)
 rwa [List.length_map]at this
def wR (es:List Ed) (R S:List ByteArray):Nat:=(es.length - R.length)*(es.length+1)+S.length
theorem aM2 (es:List Ed) (R S:List ByteArray) (x:ByteArray):wR es R S<wR es R (S++ [x]):=by
 unfold wR
 simp
theorem aM3 {es:List Ed} {s:ByteArray} {R S:List ByteArray} {x:ByteArray} (h:sW es s (R++ [x]) (S++jU es x)):wR es (R++ [x]) (S++jU es x)<wR es R (S++ [x]):=by
 have h1:=E6 h
 have h2:=E5 es x
 unfold wR
 simp only[List.length_append,List.length_cons,List.length_nil,Nat.zero_add]at*
 have e:es.length - R.length=(es.length - (R.length+1))+1:=by omega
 rw[e,Nat.add_mul]
 omega
open Go.ChangeShapes Go.WideShapes Go.ChangeAt Go.RowKit
theorem bUw (os:Os) (args:Array Value):laidMetH prog Rows.mutateValidsRow.laid ((World.doorLaid prog 400 os).forCall (fun _ _=>0) ⟨#[],args,[]⟩).memory:=
 laidMetH_of_parts3 (fuel:=8) (laidMet_of_run' 8 (by kernel_rfl) (by kernel_rfl)) (by kernel_rfl) (by kernel_rfl)
end Go.Proofs.YtbgckcdddlmiaaaGreatDoor
