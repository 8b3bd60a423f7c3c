import Derived.Test.YtbgckcdddlmiaaaGreatDoorS3
set_option linter.unusedSectionVars false
set_option linter.unusedSimpArgs false
set_option linter.unusedVariables false
open Go.Proofs.Tryz
namespace Go.Proofs.YtbgckcdddlmiaaaGreatDoor
open Go.Ab
variable [Glob prog]
set_option maxRecDepth 100000
set_option maxHeartbeats 16000000
theorem aGs {A:List Tm} {t:Tm} (h:mN A t=true):fV A t=A:=by
 unfold fV
 rw[if_neg]
 intro⟨h1,_⟩
 unfold mN at h
 rw[h]at h1;cases h1
theorem aGt {A:List Tm} {t:Tm} (h: ¬t.depth<=4):fV A t=A:=by
 unfold fV
 rw[if_neg fun h'=>h h'.2]
theorem aGu {A:List Tm} {t:Tm} (h:mN A t=false) (h':t.depth<=4):fV A t=A++ [t]:=by
 unfold fV
 rw[if_pos ⟨h,h'⟩]
theorem bI2 {α β:Type} {f:β->α->β} {b:β} {l:List α} {i:Nat} (h:i<l.length):(l.take (i+1)).foldl f b=f ((l.take i).foldl f b) l[i]:=by
 rw[fC h,List.foldl_append];rfl
def iK (A X:List Tm) (i:Nat):List Tm:=(X.take i).foldl fV A
theorem aGv {A X:List Tm}:iK A X 0=A:=rfl
theorem aGw {A X:List Tm} {i:Nat} (h:i<X.length):iK A X (i+1)=fV (iK A X i) X[i]:=bI2 h
theorem aGx {A X:List Tm}:iK A X X.length=X.foldl fV A:=by unfold iK;rw[List.take_length]
theorem E6 {A X:List Tm} {i:Nat} (h:i<=X.length):(iK A X i).length<=A.length+i:=by
 have:=(aGe (X:=X.take i) (A:=A)).2
 rw[List.length_take,Nat.min_eq_left h]at this
 exact this
theorem bI3 {h:Tm} {W:List (List Bd)} {k:Nat} (hk:k<W.length):oB h (W.take (k+1))=oB h (W.take k)++(if(fU h W[k]).2=true then[(fU h W[k]).1]else[]):=by
 unfold oB
 rw[fC hk,List.filterMap_append]
 congr 1
 rw[List.filterMap_cons,List.filterMap_nil]
 split<;>rename_i he
 ·split at he
  ·cases he
  ·rename_i hn;rw[if_neg hn]
 ·split at he
  ·rename_i hy;rw[if_pos hy];obtain rfl:=Option.some.inj he;rfl
  ·cases he
theorem bI4 {A:List Tm} {j:Nat} (h:j<A.length):nI (A.take (j+1))=nI (A.take j)++jJ A[j]:=by
 unfold nI
 rw[fC h,List.flatMap_append]
 simp
theorem bI5 {A:List Tm} {m:List Tm} {lf:Int}:pB A [] m lf=(some m,lf):=rfl
theorem bI6 {A:List Tm} {r:Rl} {rs:List Rl} {m:List Tm} {lf:Int}:pB A (r::rs) m lf=match gD A r.body [[]] lf with
 |(some W,lf')=>pB A rs (m++oB r.head W) lf'
 |(none,lf')=>(none,lf'):=by rw[pB];rfl
def U9 (l:List Rl) (f:Nat) (A:List Tm):Option (List Tm)×Int->Bool
 |(some m,lf')=>qH l f A.length ((m++nI A).foldl fV A) lf'
 |(none,_)=>false
theorem bI7 {l:List Rl} {f:Nat} {n:Int} {A:List Tm} {lf:Int} (h:n<A.length/\A.length<=1000):qH l (f+1) n A lf=U9 l f A (pB A l [] lf):=by
 rw[qH,if_pos h]
 generalize pB A l [] lf=R
 obtain⟨x,y⟩:=R
 cases x<;>rfl
theorem aGy {l:List Rl} {f:Nat} {n:Int} {A:List Tm} {lf:Int} (h: ¬(n<A.length/\A.length<=1000)):qH l (f+1) n A lf=decide (A.length<=1000):=by
 rw[qH,if_neg h]
theorem bI8 {q M:Nat} (hq:q<=1000000) (hM:5<=M) (hBG:BG q M<=2305843009213693952) (l:List Rl) (G:List Tm) (fl lg fg:Bool) (hl: ∀r∈l,okR q M r) (hll:l.length<=100) (hG:E4 q M G) (hGl:G.length<=1000):
 ACall prog 22 [.list false fl (l.map bX),.list lg fg (G.map aI)] (fun r=>r=bl (E3 l G)):=by
 generalize hV:E3 l G=V
 unfold E3 at hV
 have hGb: ∀t∈G,fD t<=2305843009213693952:=fun t h=>Nat.le_trans (hG t h).2.1 hBG
 replace hG: ∀t∈G,dQ q M t/\fD t<=2305843009213693952/\t.depth<=1000:=fun t h=>⟨(hG t h).1,hGb t h,(hG t h).2.2⟩
 clear hGb
 refine aU func22 call22 rfl (by simp[ntmps22]) ?_;simp only[ntmps22,results22]
 repeat' (first|(refine aC fun _ _=>?_)|refine zHg ?_|simp(disch:=omega) [go_sem])
 refine bS [0,1,5,7,8,26] [7,23,900,6] (fun i:Nat=> [(27,nt .i64 i)]) (fun i:Nat=> [(7,aT false 900 (iK [] G i).length),(23,aS false (iK [] G i)),(900,aG false (iK [] G i)),(6,aV false 23)]) (fun i:Nat=>G.length - i) (fun i:Nat=>i<=G.length) (0) (by refine Le.trans ?_ (Le.nilBox 7 900 2 rfl (by decide) (by decide));exact(Le.sub4 rfl (by simp[go_sem,aT,aS,aG,aV,aGv,List.map_nil,List.length_nil]))) ⟨?_⟩ ?_
 ·exact Nat.zero_le _
 intro i hi AA hAA;simp only[kL,Nat.reduceBEq,Nat.reduceEqDiff]
 by_cases hlt:i<G.length
 ·skip
  have hnx:=aGw (A:= []) hlt
  have hAl:(iK [] G i).length<=0+i:=E6 (A:= []) (Nat.le_of_lt hlt)
  have hAo:lL q M (iK [] G i):=xU (fun u hu=>by simp at hu) fun u hu=>(hG u (List.mem_of_mem_take hu)).1
  have ht:=hG _ (List.getElem_mem hlt)
  generalize iK [] G i=Z at*
  generalize hte:G[i]=t at*
  cases hh:mN Z t
  ·by_cases h4:t.depth<=4
   ·have hu:=aGr hq Z t ht.1 (by omega) (by omega) (by omega) hh h4
    rw[aGu hh h4]at hnx
    repeat' (first|(refine aC fun _ _=>?_)|refine zHg ?_|simp(disch:=omega) [go_sem,hlt,hte,aT,aS,aG,aV])
    refine bH [(1000,6),(1001,7),(1002,23),(1003,900)] [(6,1000),(7,1001),(23,1002),(900,1003)] 10000 _ _ (Fits.mk' (by simp[go_sem,cA,cP,aT,aS,aG,aV]) (by simp[go_sem,cA,cP,aT,aS,aG,aV])) (by simp[go_sem,cA,cP,aT,aS,aG,aV]) (by simp[go_sem,cA,cP,aT,aS,aG,aV]) (hu) (by simp[go_sem,cA,cP,aT,aS,aG,aV]) (by simp[go_sem,cA,cP,aT,aS,aG,aV]) ?_
    repeat' (first|(refine aC fun _ _=>?_)|refine zHg ?_|(refine(hAA.next (i+1) (Le.renSub [(11004,900),(900,11004)] [(900,11004),(11004,900)] (by simp[go_sem,hnx,aT,aS,aG,aV,cP]) (by simp[go_sem,hnx,aT,aS,aG,aV,cP]) (Le.sub4 rfl (by simp[go_sem,hnx,aT,aS,aG,aV,cP]))) (by(try dsimp only);omega) ?_))|simp(disch:=omega) [go_sem,hlt,hte,aT,aS,aG,aV,cP])
    try any_goals omega
    exact⟨hlt⟩
   ·have hu:=aGq hq Z t ht.1 (by omega) (by omega) (by omega) hh h4
    rw[aGt h4]at hnx
    repeat' (first|(refine aC fun _ _=>?_)|refine zHg ?_|simp(disch:=omega) [go_sem,hlt,hte,aT,aS,aG,aV])
    refine bH [(1000,6),(1001,7),(1002,23),(1003,900)] [(6,1000),(7,1001),(23,1002),(900,1003)] 10000 _ _ (Fits.mk' (by simp[go_sem,cA,cP,aT,aS,aG,aV]) (by simp[go_sem,cA,cP,aT,aS,aG,aV])) (by simp[go_sem,cA,cP,aT,aS,aG,aV]) (by simp[go_sem,cA,cP,aT,aS,aG,aV]) (hu) (by simp[go_sem,cA,cP,aT,aS,aG,aV]) (by simp[go_sem,cA,cP,aT,aS,aG,aV]) ?_
    repeat' (first|(refine aC fun _ _=>?_)|refine zHg ?_|(refine(hAA.next (i+1) (Le.sub4 rfl (by simp[go_sem,hnx,aT,aS,aG,aV,cA])) (by(try dsimp only);omega) ?_))|simp(disch:=omega) [go_sem,hlt,hte,aT,aS,aG,aV,cA])
    try any_goals omega
    exact⟨hlt⟩
  ·have hu:=aGp hq Z t ht.1 (by omega) (by omega) (by omega) hh
   rw[aGs hh]at hnx
   repeat' (first|(refine aC fun _ _=>?_)|refine zHg ?_|simp(disch:=omega) [go_sem,hlt,hte,aT,aS,aG,aV])
   refine bH [(1000,6),(1001,7),(1002,23),(1003,900)] [(6,1000),(7,1001),(23,1002),(900,1003)] 10000 _ _ (Fits.mk' (by simp[go_sem,cA,cP,aT,aS,aG,aV]) (by simp[go_sem,cA,cP,aT,aS,aG,aV])) (by simp[go_sem,cA,cP,aT,aS,aG,aV]) (by simp[go_sem,cA,cP,aT,aS,aG,aV]) (hu) (by simp[go_sem,cA,cP,aT,aS,aG,aV]) (by simp[go_sem,cA,cP,aT,aS,aG,aV]) ?_
   repeat' (first|(refine aC fun _ _=>?_)|refine zHg ?_|(refine(hAA.next (i+1) (Le.sub4 rfl (by simp[go_sem,hnx,aT,aS,aG,aV,cA])) (by(try dsimp only);omega) ?_))|simp(disch:=omega) [go_sem,hlt,hte,aT,aS,aG,aV,cA])
   try any_goals omega
   exact⟨hlt⟩
 ·obtain rfl:i=G.length:=by omega
  rw[<-aGx]at hV
  have hAl:=E6 (A:= []) (X:=G) (Nat.le_refl _)
  have hAo:lL q M (iK [] G G.length):=xU (fun u hu=>by simp at hu) fun u hu=>(hG u (List.mem_of_mem_take hu)).1
  simp only[List.length_nil,Nat.zero_add]at hAl
  generalize iK [] G G.length=Z at*
  clear hlt hi
  repeat' (first|(refine aC fun _ _=>?_)|refine zHg ?_|simp(disch:=omega) [go_sem,aT,aS,aG,aV])
  refine bS [0,5,7,8] [7,23,900,22] (fun y:Nat×Int×List Tm×Int=> [(10,nt .i64 y.2.1)]) (fun y:Nat×Int×List Tm×Int=> [(7,aT false 900 y.2.2.1.length),(23,aS false y.2.2.1),(900,aG false y.2.2.1),(22,aZ false y.2.2.2)]) (fun y:Nat×Int×List Tm×Int=>(1002 - y.2.1).toNat) (fun y:Nat×Int×List Tm×Int=> -1<=y.2.1/\y.2.1<=1000/\1001<=y.1+y.2.1/\lL q M y.2.2.1/\y.2.2.1.length<=1000000/\0<=y.2.2.2/\y.2.2.2<=1000000/\qH l (y.1+1) y.2.1 y.2.2.1 y.2.2.2=V) ((1002,-1,Z,1000000)) (Le.sub4 rfl (by simp[go_sem,aT,aS,aG,aV,aZ])) ⟨?_⟩ ?_
  ·exact⟨by(try dsimp only);omega,by(try dsimp only);omega,by(try dsimp only);omega,hAo,by(try dsimp only);omega,by(try dsimp only);omega,by(try dsimp only);omega,hV⟩
  clear hV hAo hAl hG
  intro⟨f,n,A,lf⟩ ⟨hn1,hn2,hf,hA,hAl,h0,h1,hV⟩ AA hAA;simp only[kL,Nat.reduceBEq,Nat.reduceEqDiff]
  dsimp only at*
  by_cases c1:n<A.length
  ·by_cases c2:(A.length:Int)<=1000
   ·rw[bI7 ⟨c1,by omega⟩]at hV
    have hAB:=hAA
    repeat' (first|(refine aC fun _ _=>?_)|refine zHg ?_|simp(disch:=omega) [go_sem,c1,c2,aT,aS,aG,aV,aZ])
    refine bS [0,5,7,8,11,52] [901,22] (fun x:Nat×List Tm×Int=> [(10,nt .i64 A.length),(53,nt .i64 x.1),(12,.ref 901 0 x.2.1.length)]) (fun x:Nat×List Tm×Int=> [(901,aG false x.2.1),(22,aZ false x.2.2)]) (fun x:Nat×List Tm×Int=>l.length - x.1) (fun x:Nat×List Tm×Int=>x.1<=l.length/\E4 q M x.2.1/\x.2.1.length<=x.1*5000/\0<=x.2.2/\x.2.2<=1000000/\U9 l f A (pB A (l.drop x.1) x.2.1 x.2.2)=V) ((0,[],lf)) (by refine Le.trans ?_ (Le.nil (i:=12) (T:=901) (es:=2) rfl);exact(Le.sub4 rfl (by simp[go_sem,aT,aS,aG,aV,aZ,List.map_nil,List.length_nil]))) ⟨?_⟩ ?_
    ·exact⟨Nat.zero_le _,fun t ht=>by simp at ht,by simp,h0,h1,hV⟩
    clear hV h0 h1
    intro⟨i,m,lf⟩ ⟨hi,hm,hml,h0,h1,hV⟩ AA hAA;simp only[kL,Nat.reduceBEq,Nat.reduceEqDiff]
    dsimp only at*
    by_cases hil:i<l.length
    ·have hr:=hl _ (List.getElem_mem hil)
     rw[List.drop_eq_getElem_cons hil]at hV
     generalize hre:l[i]=r at*
     rw[bI6]at hV
     have hw:=bI0 A r.body false lf hA hAl hr.2.2.1 (fun b hb=>(hr.2.2.2 b hb).2) h0 h1
     have hwk:=U7 (M:=M) (B:=r.body) (k:=0) (W:= [[]]) hA (fun s hs=>by
      obtain rfl:=List.mem_singleton.1 hs
      exact⟨fun b hb=>by simp at hb,by simp⟩) (by simp) h0
     generalize gD A r.body [[]] lf=R at*
     obtain⟨W,l1⟩:=R
     dsimp only at*
     cases W with
     |none=>
      have hV:false=V:=hV
      subst hV
      have hw2:MCall prog 52 [.ptr 1000 0 0,.list false false (r.body.map bP),.ref 1001 0 A.length] [(1000,aZ true lf),(1001,aG true A)] (fun r o'=>r= .tup [.list false true [],bl false]/\o'= [(1000,aZ true l1),(1001,aG true A)]):=hw
      repeat' (first|(refine aC fun _ _=>?_)|refine zHg ?_|simp(disch:=omega) [go_sem,hil,hre,aT,aS,aG,aV,aZ])
      refine bH [(1000,22),(1001,900)] [(22,1000),(900,1001)] 20000 _ _ (Fits.mk' (by simp[go_sem,aT,aS,aG,aV,aZ]) (by simp[go_sem,aT,aS,aG,aV,aZ])) (by simp[go_sem,aT,aS,aG,aV,aZ]) (by simp[go_sem,aT,aS,aG,aV,aZ]) (hw2) (by simp[go_sem,aT,aS,aG,aV,aZ]) (by simp[go_sem,aT,aS,aG,aV,aZ]) ?_
      repeat' (first|(refine aC fun _ _=>?_)|refine zHg ?_|(refine aN [] ?_;simp[go_sem,hil,hre,aT,aS,aG,aV,aZ])|simp(disch:=omega) [go_sem,hil,hre,aT,aS,aG,aV,aZ])
     |some W=>
      obtain⟨w1,w2,w3⟩:=hwk
      obtain⟨w3,w4,w5⟩:=w3 W rfl
      have hV:U9 l f A (pB A (l.drop (i+1)) (m++oB r.head W) l1)=V:=hV
      have hw2:MCall prog 52 [.ptr 1000 0 0,.list false false (r.body.map bP),.ref 1001 0 A.length] [(1000,aZ true lf),(1001,aG true A)] (fun r o'=>r= .tup [.ref 1002 0 W.length,bl true]/\o'= [(1002,gF W),(1000,aZ true l1),(1001,aG true A)]):=hw
      have hAC:=hAA
      repeat' (first|(refine aC fun _ _=>?_)|refine zHg ?_|simp(disch:=omega) [go_sem,hil,hre,aT,aS,aG,aV,aZ])
      refine bH [(1000,22),(1001,900)] [(22,1000),(900,1001)] 20000 _ _ (Fits.mk' (by simp[go_sem,aT,aS,aG,aV,aZ,gF]) (by simp[go_sem,aT,aS,aG,aV,aZ,gF])) (by simp[go_sem,aT,aS,aG,aV,aZ,gF]) (by simp[go_sem,aT,aS,aG,aV,aZ,gF]) (hw2) (by simp[go_sem,aT,aS,aG,aV,aZ,gF]) (by simp[go_sem,aT,aS,aG,aV,aZ,gF]) ?_
      repeat' (first|(refine aC fun _ _=>?_)|refine zHg ?_|simp(disch:=omega) [go_sem,hil,hre,aT,aS,aG,aV,aZ,gF])
      refine bS [0,5,7,8,10,11,13,14,52,53,70] [901] (fun z:Nat×List Tm=> [(71,nt .i64 z.1),(12,.ref 901 0 z.2.length)]) (fun z:Nat×List Tm=> [(901,aG false z.2)]) (fun z:Nat×List Tm=>W.length - z.1) (fun z:Nat×List Tm=>z.1<=W.length/\z.2=m++oB r.head (W.take z.1)) ((0,m)) (Le.sub4 rfl (by simp[go_sem,aT,aS,aG,aV,aZ,gF])) ⟨?_⟩ ?_
      ·exact⟨Nat.zero_le _,by simp[oB]⟩
      intro⟨k,m'⟩ ⟨hk,hm'⟩ AA hAA;simp only[kL,Nat.reduceBEq,Nat.reduceEqDiff]
      dsimp only at*
      have hln:m'.length<=m.length+k:=by
       have h2:=bIg (h:=r.head) (W:=W.take k)
       rw[hm',List.length_append]
       rw[List.length_take]at h2
       omega
      by_cases hkl:k<W.length
      ·have hu:=bIm W[k] false false hq r.head hr.1
       have hmn:=bI3 (h:=r.head) hkl
       generalize hs:W[k]=s at*
       generalize fU r.head s=y at*
       obtain⟨u,c⟩:=y
       dsimp only at*
       cases c
       ·repeat' (first|(refine aC fun _ _=>?_)|refine zHg ?_|refine bR rfl (hu) rfl (by simp) ?_|(refine(hAA.next ((k+1,m')) (Le.sub4 rfl (by simp[go_sem,aT,aS,aG,aV,aZ,gF])) (by(try dsimp only);omega) ?_))|simp(disch:=omega) [go_sem,hil,hre,hkl,hs,aT,aS,aG,aV,aZ,gF]|refine zDr 14 aQ ?_|fail)
        try any_goals omega
        exact⟨hkl,by rw[hm',hmn];simp⟩
       ·repeat' (first|(refine aC fun _ _=>?_)|refine zHg ?_|refine bR rfl (hu) rfl (by simp) ?_|(refine(hAA.next ((k+1,m'++ [u])) (Le.sub4 rfl (by simp[go_sem,aT,aS,aG,aV,aZ,gF])) (by(try dsimp only);omega) ?_))|simp(disch:=omega) [go_sem,hil,hre,hkl,hs,aT,aS,aG,aV,aZ,gF]|refine zAo ?_|refine zDr 14 aQ ?_|fail)
        try any_goals omega
        exact⟨hkl,by rw[hm',hmn];simp⟩
      ·obtain rfl:k=W.length:=by omega
       rw[List.take_length]at hm'
       repeat' (first|(refine aC fun _ _=>?_)|refine zHg ?_|(refine(hAC.next ((i+1,m',l1)) (Le.sub4 rfl (by simp[go_sem,aT,aS,aG,aV,aZ,gF])) (by(try dsimp only);omega) ?_))|simp(disch:=omega) [go_sem,aT,aS,aG,aV,aZ,gF])
       try any_goals omega
       refine⟨hil,fun u hu=>?_,by(try dsimp only);omega,w5,by(try dsimp only);omega,by rw[hm'];exact hV⟩
       rw[hm']at hu
       exact(List.mem_append.1 hu).elim (hm u) (bIf hr.1 hr.2.1 w3 u)
    ·obtain rfl:i=l.length:=by omega
     rw[List.drop_length,bI5]at hV
     have hV:qH l f A.length ((m++nI A).foldl fV A) lf=V:=hV
     repeat' (first|(refine aC fun _ _=>?_)|refine zHg ?_|simp(disch:=omega) [go_sem,aT,aS,aG,aV,aZ])
     refine bS [0,5,7,8,10,11,95] [901] (fun z:Nat×List Tm=> [(96,nt .i64 z.1),(12,.ref 901 0 z.2.length)]) (fun z:Nat×List Tm=> [(901,aG false z.2)]) (fun z:Nat×List Tm=>A.length - z.1) (fun z:Nat×List Tm=>z.1<=A.length/\z.2=m++nI (A.take z.1)) ((0,m)) (Le.sub4 rfl (by simp[go_sem,aT,aS,aG,aV,aZ])) ⟨?_⟩ ?_
     ·exact⟨Nat.zero_le _,by simp[nI]⟩
     intro⟨j,m'⟩ ⟨hj,hm'⟩ AA hAA;simp only[kL,Nat.reduceBEq,Nat.reduceEqDiff]
     dsimp only at*
     have hln:m'.length<=m.length+j:=by
      have h2:=aGd (A.take j)
      rw[hm',List.length_append]
      rw[List.length_take]at h2
      omega
     by_cases hjl:j<A.length
     ·have hen:=bI4 hjl
      generalize hta:A[j]=t at*
      by_cases e1:t.args.length=1
      ·have e1': ¬t.args.length=2:=by omega
       by_cases e2:t.name=aF8
       ·have hx:jJ t= [.mk xT t.args]:=by unfold jJ;rw[if_pos ⟨e1,.inl e2⟩]
        repeat' (first|(refine aC fun _ _=>?_)|refine zHg ?_|(refine(hAA.next ((j+1,m'++ [.mk xT t.args])) (Le.sub4 rfl (by simp[go_sem,aT,aS,aG,aV,aZ])) (by(try dsimp only);omega) ?_))|simp(disch:=omega) [go_sem,hjl,hta,e1,e2,aT,aS,aG,aV,aZ]|refine zAo ?_|fail)
        try any_goals omega
        exact⟨hjl,by rw[hm',hen,hx];simp⟩
       ·by_cases e3:t.name=aF9
        ·have hx:jJ t= [.mk xT t.args]:=by unfold jJ;rw[if_pos ⟨e1,.inr e3⟩]
         repeat' (first|(refine aC fun _ _=>?_)|refine zHg ?_|(refine(hAA.next ((j+1,m'++ [.mk xT t.args])) (Le.sub4 rfl (by simp[go_sem,aT,aS,aG,aV,aZ])) (by(try dsimp only);omega) ?_))|simp(disch:=omega) [go_sem,hjl,hta,e1,e2,e3,aT,aS,aG,aV,aZ]|refine zAo ?_|fail)
         try any_goals omega
         exact⟨hjl,by rw[hm',hen,hx];simp⟩
        ·have hx:jJ t= []:=by unfold jJ;rw[if_neg (fun h=>h.2.elim e2 e3),if_neg (fun h=>e1' h.1)]
         repeat' (first|(refine aC fun _ _=>?_)|refine zHg ?_|(refine(hAA.next ((j+1,m')) (Le.sub4 rfl (by simp[go_sem,aT,aS,aG,aV,aZ])) (by(try dsimp only);omega) ?_))|simp(disch:=omega) [go_sem,hjl,hta,e1,e1',e2,e3,aT,aS,aG,aV,aZ])
         try any_goals omega
         exact⟨hjl,by rw[hm',hen,hx];simp⟩
      ·by_cases e2:t.args.length=2
       ·by_cases e3:t.name=aGa
        ·have hx:jJ t= [.mk U5 t.args]:=by unfold jJ;rw[if_neg (fun h=>e1 h.1),if_pos ⟨e2,e3⟩]
         repeat' (first|(refine aC fun _ _=>?_)|refine zHg ?_|(refine(hAA.next ((j+1,m'++ [.mk U5 t.args])) (Le.sub4 rfl (by simp[go_sem,aT,aS,aG,aV,aZ])) (by(try dsimp only);omega) ?_))|simp(disch:=omega) [go_sem,hjl,hta,e1,e2,e3,aT,aS,aG,aV,aZ]|refine zAo ?_|fail)
         try any_goals omega
         exact⟨hjl,by rw[hm',hen,hx];simp⟩
        ·have hx:jJ t= []:=by unfold jJ;rw[if_neg (fun h=>e1 h.1),if_neg (fun h=>e3 h.2)]
         repeat' (first|(refine aC fun _ _=>?_)|refine zHg ?_|(refine(hAA.next ((j+1,m')) (Le.sub4 rfl (by simp[go_sem,aT,aS,aG,aV,aZ])) (by(try dsimp only);omega) ?_))|simp(disch:=omega) [go_sem,hjl,hta,e1,e2,e3,aT,aS,aG,aV,aZ])
         try any_goals omega
         exact⟨hjl,by rw[hm',hen,hx];simp⟩
       ·have hx:jJ t= []:=by unfold jJ;rw[if_neg (fun h=>e1 h.1),if_neg (fun h=>e2 h.1)]
        repeat' (first|(refine aC fun _ _=>?_)|refine zHg ?_|(refine zgd ?_ ?_<;>(intro h;first|(exfalso;omega)|(simp only[h,zT])))|(refine(hAA.next ((j+1,m')) (Le.sub4 rfl (by simp[go_sem,aT,aS,aG,aV,aZ])) (by(try dsimp only);omega) ?_))|simp(disch:=omega) [go_sem,hjl,hta,e1,e2,aT,aS,aG,aV,aZ])
        try any_goals omega
        exact⟨hjl,by rw[hm',hen,hx];simp⟩
     ·obtain rfl:j=A.length:=by omega
      rw[List.take_length]at hm'
      rw[<-hm']at hV
      have hX: ∀t∈m',dQ q M t/\fD t<=2305843009213693952/\t.depth<=1000:=fun t h=>by
       rw[hm']at h
       have:=(List.mem_append.1 h).elim (hm t) (bIj hM hA t)
       exact⟨this.1,Nat.le_trans this.2.1 hBG,this.2.2⟩
      obtain⟨g,rfl⟩: ∃g,f=g+1:=⟨f - 1,by omega⟩
      generalize m'=X at*
      clear hm' hm
      repeat' (first|(refine aC fun _ _=>?_)|refine zHg ?_|simp(disch:=omega) [go_sem,aT,aS,aG,aV,aZ])
      refine bS [0,5,7,8,10,12,159] [7,23,900] (fun z:Nat=> [(160,nt .i64 z)]) (fun z:Nat=> [(7,aT false 900 (iK A X z).length),(23,aS false (iK A X z)),(900,aG false (iK A X z))]) (fun z:Nat=>X.length - z) (fun z:Nat=>z<=X.length) (0) (Le.sub4 rfl (by simp[go_sem,aT,aS,aG,aV,aZ,aGv])) ⟨?_⟩ ?_
      ·exact Nat.zero_le _
      intro z hz AA hAA;simp only[kL,Nat.reduceBEq,Nat.reduceEqDiff]
      by_cases hlt:z<X.length
      ·skip
       have hnx:=aGw (A:=A) hlt
       have hAl:=E6 (A:=A) (Nat.le_of_lt hlt)
       have hAo:lL q M (iK A X z):=xU hA fun u hu=>(hX u (List.mem_of_mem_take hu)).1
       have ht:=hX _ (List.getElem_mem hlt)
       generalize iK A X z=Z at*
       generalize hte:X[z]=t at*
       cases hh:mN Z t
       ·by_cases h4:t.depth<=4
        ·have hu:=aGr hq Z t ht.1 (by omega) (by omega) (by omega) hh h4
         rw[aGu hh h4]at hnx
         repeat' (first|(refine aC fun _ _=>?_)|refine zHg ?_|simp(disch:=omega) [go_sem,hlt,hte,aT,aS,aG,aV])
         refine bH [(1000,6),(1001,7),(1002,23),(1003,900)] [(6,1000),(7,1001),(23,1002),(900,1003)] 40000 _ _ (Fits.mk' (by simp[go_sem,cA,cP,aT,aS,aG,aV]) (by simp[go_sem,cA,cP,aT,aS,aG,aV])) (by simp[go_sem,cA,cP,aT,aS,aG,aV]) (by simp[go_sem,cA,cP,aT,aS,aG,aV]) (hu) (by simp[go_sem,cA,cP,aT,aS,aG,aV]) (by simp[go_sem,cA,cP,aT,aS,aG,aV]) ?_
         repeat' (first|(refine aC fun _ _=>?_)|refine zHg ?_|(refine(hAA.next (z+1) (Le.renSub [(41004,900),(900,41004)] [(900,41004),(41004,900)] (by simp[go_sem,hnx,aT,aS,aG,aV,cP]) (by simp[go_sem,hnx,aT,aS,aG,aV,cP]) (Le.sub4 rfl (by simp[go_sem,hnx,aT,aS,aG,aV,cP]))) (by(try dsimp only);omega) ?_))|simp(disch:=omega) [go_sem,hlt,hte,aT,aS,aG,aV,cP])
         try any_goals omega
         exact⟨hlt⟩
        ·have hu:=aGq hq Z t ht.1 (by omega) (by omega) (by omega) hh h4
         rw[aGt h4]at hnx
         repeat' (first|(refine aC fun _ _=>?_)|refine zHg ?_|simp(disch:=omega) [go_sem,hlt,hte,aT,aS,aG,aV])
         refine bH [(1000,6),(1001,7),(1002,23),(1003,900)] [(6,1000),(7,1001),(23,1002),(900,1003)] 40000 _ _ (Fits.mk' (by simp[go_sem,cA,cP,aT,aS,aG,aV]) (by simp[go_sem,cA,cP,aT,aS,aG,aV])) (by simp[go_sem,cA,cP,aT,aS,aG,aV]) (by simp[go_sem,cA,cP,aT,aS,aG,aV]) (hu) (by simp[go_sem,cA,cP,aT,aS,aG,aV]) (by simp[go_sem,cA,cP,aT,aS,aG,aV]) ?_
         repeat' (first|(refine aC fun _ _=>?_)|refine zHg ?_|(refine(hAA.next (z+1) (Le.sub4 rfl (by simp[go_sem,hnx,aT,aS,aG,aV,cA])) (by(try dsimp only);omega) ?_))|simp(disch:=omega) [go_sem,hlt,hte,aT,aS,aG,aV,cA])
         try any_goals omega
         exact⟨hlt⟩
       ·have hu:=aGp hq Z t ht.1 (by omega) (by omega) (by omega) hh
        rw[aGs hh]at hnx
        repeat' (first|(refine aC fun _ _=>?_)|refine zHg ?_|simp(disch:=omega) [go_sem,hlt,hte,aT,aS,aG,aV])
        refine bH [(1000,6),(1001,7),(1002,23),(1003,900)] [(6,1000),(7,1001),(23,1002),(900,1003)] 40000 _ _ (Fits.mk' (by simp[go_sem,cA,cP,aT,aS,aG,aV]) (by simp[go_sem,cA,cP,aT,aS,aG,aV])) (by simp[go_sem,cA,cP,aT,aS,aG,aV]) (by simp[go_sem,cA,cP,aT,aS,aG,aV]) (hu) (by simp[go_sem,cA,cP,aT,aS,aG,aV]) (by simp[go_sem,cA,cP,aT,aS,aG,aV]) ?_
        repeat' (first|(refine aC fun _ _=>?_)|refine zHg ?_|(refine(hAA.next (z+1) (Le.sub4 rfl (by simp[go_sem,hnx,aT,aS,aG,aV,cA])) (by(try dsimp only);omega) ?_))|simp(disch:=omega) [go_sem,hlt,hte,aT,aS,aG,aV,cA])
        try any_goals omega
        exact⟨hlt⟩
      ·obtain rfl:z=X.length:=by omega
       have hAl2:=E6 (A:=A) (X:=X) (Nat.le_refl _)
       have hAo:=xU hA fun u hu=>(hX u hu).1
       rw[aGx]at*
       repeat' (first|(refine aC fun _ _=>?_)|refine zHg ?_|(refine(hAB.next ((g,A.length,X.foldl fV A,lf)) (Le.sub4 rfl (by simp[go_sem,aT,aS,aG,aV,aZ])) (by(try dsimp only);omega) ?_))|simp(disch:=omega) [go_sem,aT,aS,aG,aV,aZ])
       try any_goals omega
       exact⟨by(try dsimp only);omega,by(try dsimp only);omega,by(try dsimp only);omega,hAo,by(try dsimp only);omega,h0,h1,hV⟩
   ·rw[aGy (fun h=>c2 (by omega)),decide_eq_false (fun h=>c2 (by omega))]at hV
    subst hV
    repeat' (first|(refine aC fun _ _=>?_)|refine zHg ?_|(refine aN [] ?_;simp[go_sem,c1,c2,aT,aS,aG,aV,aZ])|simp(disch:=omega) [go_sem,c1,c2,aT,aS,aG,aV,aZ])
  ·rw[aGy (fun h=>c1 h.1)]at hV
   by_cases c2:A.length<=1000
   ·rw[decide_eq_true c2]at hV
    subst hV
    have c3:(A.length:Int)<=1000:=by omega
    repeat' (first|(refine aC fun _ _=>?_)|refine zHg ?_|(refine aN [] ?_;simp[go_sem,c1,c3,aT,aS,aG,aV,aZ])|simp(disch:=omega) [go_sem,c1,c3,aT,aS,aG,aV,aZ])
   ·rw[decide_eq_false c2]at hV
    subst hV
    have c3: ¬(A.length:Int)<=1000:=by omega
    repeat' (first|(refine aC fun _ _=>?_)|refine zHg ?_|(refine aN [] ?_;simp[go_sem,c1,c3,aT,aS,aG,aV,aZ])|simp(disch:=omega) [go_sem,c1,c3,aT,aS,aG,aV,aZ])
set_option maxHeartbeats 8000000
mutual
def iX (M:Nat):Tm->Prop
 | .mk n ts=>n.size<=M/\vB M ts
def vB (M:Nat):List Tm->Prop
 | []=>True
 |t::ts=>iX M t/\vB M ts
end
theorem pC {M:Nat}: ∀{l:List Tm},vB M l↔ ∀t∈l,iX M t
 | []=>by simp[vB]
 |t::r=>by rw[vB,pC];simp
theorem aGz {M:Nat}: ∀t:Tm,iX M t->t.size<=20->dQ 19 M t:=by
 refine eX fun t ih h hz=>?_
 obtain⟨n,ts⟩:=t
 simp only[cK]at ih
 rw[iX]at h
 rw[fB,cK]at hz
 have:=nF ts
 refine pA.2 ⟨h.1,by omega,sY.2 fun u hu=>ih u hu (pC.1 h.2 u hu) ?_⟩
 have:=C8 hu
 omega
def vC (M:Nat) (r:Rl):Prop:=iX M r.head/\ ∀b∈r.body,iX M b.atom
def pD (r:Rl):Bool:=qD 20 r.head&&(decide (r.body.length<=8)&&r.body.all fun b=>qD 20 b.atom)
def qJ (m:Int) (l:List Rl):Bool:=decide ((l.length:Int)<=m)&&(l.all pD&&E3 l [])
theorem bI9 {M:Nat} {r:Rl} (hn:vC M r) (h:pD r=true):okR 19 M r:=by
 unfold pD at h
 rw[Bool.and_eq_true,Bool.and_eq_true,decide_eq_true_eq,List.all_eq_true]at h
 obtain⟨h1,h2,h3⟩:=h
 have z1:r.head.size<=20:=by have:=C9 (by decide) h1;omega
 refine⟨aGz _ hn.1 z1,z1,h2,fun b hb=>?_⟩
 have z2:b.atom.size<=20:=by have:=C9 (by decide) (h3 b hb);omega
 exact⟨aGz _ (hn.2 b hb) z2,z2⟩
theorem bJa {M:Nat} (hM:5<=M) (hBG:BG 19 M<=2305843009213693952) (l:List Rl) (fu:Bool) (m:Int) (hm:0<=m/\m<=100) (hn: ∀r∈l,vC M r) (hbl:l.length<=140737488355328) (hbb: ∀r∈l,r.body.length<=140737488355328):
 ACall prog 6 [.list false fu (l.map bX),nt .i64 m] (fun r=>r=bl (qJ m l)):=by
 by_cases hlm:m<(l.length:Int)
 ·have e:qJ m l=false:=by unfold qJ;rw[decide_eq_false (by omega),Bool.false_and]
  rw[e]
  refine aU func6 call6 rfl (by simp[ntmps6]) ?_;simp only[ntmps6,results6]
  repeat' (first|(refine aC fun _ _=>?_)|refine zHg ?_|(refine aN [] ?_;simp[go_sem,hlm])|simp(disch:=omega) [go_sem,hlm])
 ·generalize hV:qJ m l=V
  unfold qJ at hV
  rw[decide_eq_true (by omega),Bool.true_and]at hV
  refine aU func6 call6 rfl (by simp[ntmps6]) ?_;simp only[ntmps6,results6]
  repeat' (first|(refine aC fun _ _=>?_)|refine zHg ?_|simp(disch:=omega) [go_sem,hlm])
  refine bS [0,12] [] (fun i:Nat=> [(13,nt .i64 i)]) (fun i:Nat=> []) (fun i:Nat=>l.length - i) (fun i:Nat=>i<=l.length/\ ∀(k:Nat) (hk:k<l.length),k<i->pD l[k]=true) (0) (Le.sub4 rfl (by simp[go_sem])) ⟨?_⟩ ?_
  ·exact⟨Nat.zero_le _,fun k _ hk=>absurd hk (Nat.not_lt_zero _)⟩
  intro i ⟨hi,hs⟩ AA hAA;simp only[kL,Nat.reduceBEq,Nat.reduceEqDiff]
  by_cases hlt:i<l.length
  ·have hb8:=hbb _ (List.getElem_mem hlt)
   have hbad:pD l[i]=false->V=false:=fun h=>by
    rw[<-hV,Bool.and_eq_false_iff]
    refine .inl ?_
    rw[List.all_eq_false]
    exact⟨l[i],List.getElem_mem hlt,by rw[h];simp⟩
   have hgo:pD l[i]=true-> ∀(k:Nat) (hk:k<l.length),k<i+1->pD l[k]=true:=fun h k hk hki=>by
    rcases Nat.lt_or_eq_of_le (Nat.le_of_lt_succ hki)with h'|rfl
    ·exact hs k hk h'
    ·exact h
   have h1:=aE4 l[i].head 20 (by decide)
   have hAB:=hAA
   clear hV hs
   generalize hre:l[i]=r at*
   unfold pD at hbad hgo
   cases q1:qD 20 r.head
   ·rw[q1]at h1 hbad
    obtain rfl:=hbad rfl
    repeat' (first|(refine aC fun _ _=>?_)|refine zHg ?_|(refine aN [] ?_;simp[go_sem,hlt,hre])|refine aO rfl (h1) (by simp) ?_|simp(disch:=omega) [go_sem,hlt,hre])
   ·rw[q1]at h1 hbad hgo
    by_cases q2:r.body.length<=8
    ·rw[decide_eq_true q2,Bool.true_and,Bool.true_and]at hbad hgo
     have q2': ¬(8:Int)<r.body.length:=by omega
     repeat' (first|(refine aC fun _ _=>?_)|refine zHg ?_|refine aO rfl (h1) (by simp) ?_|simp(disch:=omega) [go_sem,hlt,hre,q2'])
     refine bS [0,5,12,13,37] [] (fun k:Nat=> [(38,nt .i64 k)]) (fun k:Nat=> []) (fun k:Nat=>r.body.length - k) (fun k:Nat=>k<=r.body.length/\ ∀(j:Nat) (hj:j<r.body.length),j<k->qD 20 r.body[j].atom=true) (0) (Le.sub4 rfl (by simp[go_sem])) ⟨?_⟩ ?_
     ·exact⟨Nat.zero_le _,fun k _ hk=>absurd hk (Nat.not_lt_zero _)⟩
     intro k ⟨hk,hs⟩ AA hAA;simp only[kL,Nat.reduceBEq,Nat.reduceEqDiff]
     by_cases hkl:k<r.body.length
     ·have h2:=aE4 r.body[k].atom 20 (by decide)
      cases q3:qD 20 r.body[k].atom
      ·rw[q3]at h2
       obtain rfl:=hbad (List.all_eq_false.2 ⟨_,List.getElem_mem hkl,by rw[q3];simp⟩)
       generalize hbe:r.body[k]=b at*
       repeat' (first|(refine aC fun _ _=>?_)|refine zHg ?_|(refine aN [] ?_;simp[go_sem,hlt,hre,hkl,hbe])|refine aO rfl (h2) (by simp) ?_|simp(disch:=omega) [go_sem,hlt,hre,hkl,hbe])
      ·rw[q3]at h2
       have hs': ∀(j:Nat) (hj:j<r.body.length),j<k+1->qD 20 r.body[j].atom=true:=fun j hj hjk=>by
        rcases Nat.lt_or_eq_of_le (Nat.le_of_lt_succ hjk)with h'|rfl
        ·exact hs j hj h'
        ·exact q3
       clear hs
       generalize hbe:r.body[k]=b at*
       repeat' (first|(refine aC fun _ _=>?_)|refine zHg ?_|refine aO rfl (h2) (by simp) ?_|(refine(hAA.next (k+1) (Le.sub4 rfl (by simp[go_sem])) (by(try dsimp only);omega) ?_))|simp(disch:=omega) [go_sem,hlt,hre,hkl,hbe])
       try any_goals omega
       exact⟨hkl,hs'⟩
     ·obtain rfl:k=r.body.length:=by omega
      have hall:=hgo (List.all_eq_true.2 fun b hb=>by
       obtain⟨j,hj,rfl⟩:=List.mem_iff_getElem.1 hb
       exact hs j hj hj)
      repeat' (first|(refine aC fun _ _=>?_)|refine zHg ?_|(refine(hAB.next (i+1) (Le.sub4 rfl (by simp[go_sem])) (by(try dsimp only);omega) ?_))|simp(disch:=omega) [go_sem,hlt,hre])
      try any_goals omega
      exact⟨hlt,hall⟩
    ·rw[decide_eq_false q2,Bool.false_and,Bool.true_and]at hbad
     obtain rfl:=hbad rfl
     have q2':(8:Int)<r.body.length:=by omega
     repeat' (first|(refine aC fun _ _=>?_)|refine zHg ?_|(refine aN [] ?_;simp[go_sem,hlt,hre,q2'])|refine aO rfl (h1) (by simp) ?_|simp(disch:=omega) [go_sem,hlt,hre,q2'])
  ·obtain rfl:i=l.length:=by omega
   have hall:l.all pD=true:=List.all_eq_true.2 fun r hr=>by
    obtain⟨k,hk,rfl⟩:=List.mem_iff_getElem.1 hr
    exact hs k hk hk
   rw[hall,Bool.true_and]at hV
   have hL:=bI8 (q:=19) (by decide) hM hBG l [] fu false true (fun r hr=>bI9 (hn r hr) (List.all_eq_true.1 hall r hr)) (by omega) (fun t ht=>by simp at ht) (by simp)
   rw[hV]at hL
   simp only[List.map_nil]at hL
   clear hV hs hall
   repeat' (first|(refine aC fun _ _=>?_)|refine zHg ?_|(refine aN [] ?_;simp[go_sem])|refine aO rfl (hL) (by simp) ?_|simp(disch:=omega) [go_sem])
open Go.Ab
def rO (c:Int->Bool) (s:ByteArray):Nat->Nat->Nat
 |0,i=>i
 |k+1,i=>if i<s.size/\c (bt s i)=true then rO c s k (i+1)else i
def kR (c:Int->Bool) (s:ByteArray) (i:Nat):Nat:=rO c s (s.size - i) i
theorem V0 {c s} {i:Nat} (h:i<s.size) (hc:c (bt s i)=true):kR c s i=kR c s (i+1):=by
 unfold kR
 rw[show s.size - i=(s.size - (i+1))+1 by omega,rO,if_pos ⟨h,hc⟩]
theorem E7 {c s} {i:Nat} (h: ¬(i<s.size/\c (bt s i)=true)):kR c s i=i:=by
 unfold kR
 cases s.size - i with
 |zero=>rfl
 |succ k=>rw[rO,if_neg h]
theorem aG0 {c s}: ∀k i,i<=rO c s k i
 |0,i=>Nat.le_refl i
 |k+1,i=>by
  unfold rO
  split
  ·exact Nat.le_trans (Nat.le_succ i) (aG0 k (i+1))
  ·exact Nat.le_refl i
theorem V1 {c s i}:i<=kR c s i:=aG0 _ _
theorem aG1 {c} {s:ByteArray}: ∀k i,i<=s.size->rO c s k i<=s.size
 |0,i,h=>h
 |k+1,i,h=>by
  unfold rO
  split
  ·exact aG1 k (i+1) (by omega)
  ·exact h
theorem aG2 {c} {s:ByteArray} {i:Nat} (h:i<=s.size):kR c s i<=s.size:=aG1 _ _ h
def E8 (c:Int):Bool:=decide (c=32)||decide (c=10)
def nK (c:Int):Bool:=decide (c=45)||(decide (48<=c)&&decide (c<=57))||(decide (97<=c)&&decide (c<=122))||(decide (65<=c)&&decide (c<=90))
def jY (s:ByteArray) (i:Nat):Nat:=kR E8 s i
def aP (s:ByteArray) (i:Nat):Nat:=kR nK s (jY s i)
def bJ (s:ByteArray) (i:Nat):ByteArray:=s.extract (jY s i) (aP s i)
def cT (s:ByteArray) (c:Int) (i:Nat):Bool:=decide (jY s i<s.size)&&decide (bt s (jY s i)=c)
def aR (s:ByteArray) (c:Int) (i:Nat):Nat:=if cT s c i=true then jY s i+1 else jY s i
theorem vD {s i}:i<=jY s i:=V1
theorem lM {s i}:i<=aP s i:=Nat.le_trans vD V1
theorem qK {s c i}:i<=aR s c i:=by
 unfold aR;split
 ·exact Nat.le_succ_of_le vD
 ·exact vD
theorem E9 {s:ByteArray} {i:Nat} (h:i<=s.size):jY s i<=s.size:=aG2 h
theorem lN {s:ByteArray} {i:Nat} (h:i<=s.size):aP s i<=s.size:=aG2 (E9 h)
theorem qL {s:ByteArray} {c:Int} {i:Nat} (h:i<=s.size):aR s c i<=s.size:=by
 unfold aR;split
 ·rename_i hb
  unfold cT at hb
  simp only[Bool.and_eq_true,decide_eq_true_eq]at hb
  omega
 ·exact E9 h
theorem vE {s c i} (h:cT s c i=true):i<aR s c i:=by
 unfold aR;rw[if_pos h];exact Nat.lt_succ_of_le vD
theorem aG3 {s:ByteArray} {c:Int} {i:Nat} (h:cT s c i=true):i<s.size:=by
 unfold cT at h
 simp only[Bool.and_eq_true,decide_eq_true_eq]at h
 exact Nat.lt_of_le_of_lt vD h.1
mutual
def kS (s:ByteArray):Nat->ByteArray->Nat->Tm×Nat
 |0,w,i=>(.mk w [],i)
 |f+1,w,i=>if cT s 40 i=true then
  (.mk w (lO s f [] (aR s 40 i)).1,aR s 41 (lO s f [] (aR s 40 i)).2)
  else(.mk w [],aR s 40 i)
def lO (s:ByteArray):Nat->List Tm->Nat->List Tm×Nat
 |0,a,i=>(a,i)
 |f+1,a,i=>if i<s.size then
  if cT s 44 (kS s f (bJ s i) (aP s i)).2=true then lO s f (a++ [(kS s f (bJ s i) (aP s i)).1]) (aR s 44 (kS s f (bJ s i) (aP s i)).2)
  else(a++ [(kS s f (bJ s i) (aP s i)).1],aR s 44 (kS s f (bJ s i) (aP s i)).2)
  else(a,i)
end
theorem F3 (s:ByteArray): ∀f,(∀w i,i<=(kS s f w i).2)/\(∀a i,i<=(lO s f a i).2)
 |0=>⟨fun _ _=>Nat.le_refl _,fun _ _=>Nat.le_refl _⟩
 |f+1=>by
  obtain⟨h1,h2⟩:=F3 s f
  constructor
  ·intro w i
   unfold kS
   split
   ·exact Nat.le_trans qK (Nat.le_trans (h2 [] _) qK)
   ·exact qK
  ·intro a i
   unfold lO
   split
   ·split
    ·exact Nat.le_trans lM (Nat.le_trans (h1 _ _) (Nat.le_trans qK (h2 _ _)))
    ·exact Nat.le_trans lM (Nat.le_trans (h1 _ _) qK)
   ·exact Nat.le_refl _
theorem aG4 (s:ByteArray): ∀f,(∀w i,i<=s.size->(kS s f w i).2<=s.size)/\(∀a i,i<=s.size->(lO s f a i).2<=s.size)
 |0=>⟨fun _ _ h=>h,fun _ _ h=>h⟩
 |f+1=>by
  obtain⟨h1,h2⟩:=aG4 s f
  constructor
  ·intro w i h
   unfold kS
   split
   ·exact qL (h2 [] _ (qL h))
   ·exact qL h
  ·intro a i h
   unfold lO
   split
   ·split
    ·exact h2 _ _ (qL (h1 _ _ (lN h)))
    ·exact qL (h1 _ _ (lN h))
   ·exact h
theorem xV (s:ByteArray): ∀f f',(∀w i,2*(s.size - i)<f->2*(s.size - i)<f'->kS s f w i=kS s f' w i)/\(∀a i,2*(s.size - i)+1<f->2*(s.size - i)+1<f'->lO s f a i=lO s f' a i)
 |0,_=>⟨fun _ _ h=>absurd h (Nat.not_lt_zero _),fun _ _ h=>absurd h (Nat.not_lt_zero _)⟩
 |_+1,0=>⟨fun _ _ _ h=>absurd h (Nat.not_lt_zero _),fun _ _ _ h=>absurd h (Nat.not_lt_zero _)⟩
 |f+1,f'+1=>by
  obtain⟨h1,h2⟩:=xV s f f'
  constructor
  ·intro w i ha hb
   unfold kS
   split
   ·rename_i hs
    have:=vE hs
    have:=aG3 hs
    rw[h2 [] (aR s 40 i) (by omega) (by omega)]
   ·rfl
  ·intro a i ha hb
   unfold lO
   split
   ·rename_i hi
    have hw:=lM (s:=s) (i:=i)
    rw[h1 (bJ s i) (aP s i) (by omega) (by omega)]
    split
    ·rename_i hs
     have:=vE hs
     have:=(F3 s f').1 (bJ s i) (aP s i)
     exact h2 _ _ (by omega) (by omega)
    ·rfl
   ·rfl
def cR (s:ByteArray) (w:ByteArray) (i:Nat):Tm×Nat:=kS s (2*s.size+2) w i
def iY (s:ByteArray) (a:List Tm) (i:Nat):List Tm×Nat:=lO s (2*s.size+2) a i
theorem tC {s w i} (h:cT s 40 i=false):cR s w i=(.mk w [],aR s 40 i):=by
 unfold cR;rw[kS,if_neg (by simp[h])]
theorem tD {s w i} (h:cT s 40 i=true):cR s w i=(.mk w (iY s [] (aR s 40 i)).1,aR s 41 (iY s [] (aR s 40 i)).2):=by
 unfold cR iY
 have:=vE h
 have:=aG3 h
 rw[kS,if_pos h,(xV s (2*s.size+1) (2*s.size+2)).2 [] _ (by omega) (by omega)]
theorem bJb {s:ByteArray} {a:List Tm} {i:Nat} (h: ¬i<s.size):iY s a i=(a,i):=by
 unfold iY;rw[lO,if_neg h]
theorem tE {s:ByteArray} {a:List Tm} {i:Nat} (h:i<s.size) (hs:cT s 44 (cR s (bJ s i) (aP s i)).2=false):iY s a i=(a++ [(cR s (bJ s i) (aP s i)).1],aR s 44 (cR s (bJ s i) (aP s i)).2):=by
 unfold iY
 have hw:=lM (s:=s) (i:=i)
 rw[lO,if_pos h,(xV s (2*s.size+1) (2*s.size+2)).1 (bJ s i) (aP s i) (by omega) (by omega)]
 rw[<-cR,if_neg (by simp[hs])]
theorem bJc {s:ByteArray} {a:List Tm} {i:Nat} (h:i<s.size) (hs:cT s 44 (cR s (bJ s i) (aP s i)).2=true):iY s a i=iY s (a++ [(cR s (bJ s i) (aP s i)).1]) (aR s 44 (cR s (bJ s i) (aP s i)).2):=by
 have hw:=lM (s:=s) (i:=i)
 have h3:i<=(cR s (bJ s i) (aP s i)).2:=Nat.le_trans hw ((F3 s _).1 _ _)
 have h4:=vE hs
 unfold iY
 rw[lO,if_pos h,(xV s (2*s.size+1) (2*s.size+2)).1 (bJ s i) (aP s i) (by omega) (by omega)]
 rw[<-cR,if_pos hs,(xV s (2*s.size+1) (2*s.size+2)).2 _ _ (by omega) (by omega)]
theorem tF {s w i}:i<=(cR s w i).2:=(F3 s _).1 w i
theorem vF {s:ByteArray} {w i} (h:i<=s.size):(cR s w i).2<=s.size:=(aG4 s _).1 w i h
open Go.Ab
abbrev aG5:ByteArray:=⟨#[110,111,116]⟩
def eE (s:ByteArray) (i:Nat):Bool×ByteArray×Nat:=
 if bJ s (aP s i)=aG5 then(true,bJ s (aP s (aP s i)),aP s (aP s (aP s i)))else(false,bJ s (aP s i),aP s (aP s i))
def jZ (s:ByteArray):Nat->List Lt->Nat->List Lt×Nat
 |0,a,i=>(a,i)
 |f+1,a,i=>if i<s.size then
  if cT s 46 i=true then(a,aR s 46 i)
  else if(eE s (aR s 46 i)).2.1.size=0 then(a,(eE s (aR s 46 i)).2.2)
  else jZ s f (a++ [⟨(eE s (aR s 46 i)).1,(cR s (eE s (aR s 46 i)).2.1 (eE s (aR s 46 i)).2.2).1⟩]) (cR s (eE s (aR s 46 i)).2.1 (eE s (aR s 46 i)).2.2).2
  else(a,i)
theorem xW {s:ByteArray} {i:Nat} (h:(bJ s i).size≠0):i<aP s i:=by
 have h1:=vD (s:=s) (i:=i)
 have h2:jY s i<=aP s i:=V1
 unfold bJ at h
 rw[ByteArray.size_extract]at h
 omega
theorem bJd {s:ByteArray} {i:Nat}:i<=(eE s i).2.2:=by
 unfold eE
 have h1:=lM (s:=s) (i:=i)
 have h2:=lM (s:=s) (i:=aP s i)
 have h3:=lM (s:=s) (i:=aP s (aP s i))
 split
 ·show i<=aP s (aP s (aP s i));omega
 ·show i<=aP s (aP s i);omega
theorem V2 {s:ByteArray} {i:Nat} (h:(eE s i).2.1.size≠0):i<(eE s i).2.2:=by
 unfold eE at*
 have h1:=lM (s:=s) (i:=i)
 have h2:=lM (s:=s) (i:=aP s i)
 split at h
 ·rename_i hc
  rw[if_pos hc]
  have h3:=xW h
  show i<aP s (aP s (aP s i));omega
 ·rename_i hc
  rw[if_neg hc]
  have h3:=xW h
  show i<aP s (aP s i);omega
theorem bJe {s:ByteArray} {i:Nat} (h:i<=s.size):(eE s i).2.2<=s.size:=by
 unfold eE
 split
 ·exact lN (lN (lN h))
 ·exact lN (lN h)
theorem aG6 (s:ByteArray): ∀(f f':Nat) (a:List Lt) (i:Nat),s.size - i<f->s.size - i<f'->jZ s f a i=jZ s f' a i
 |0,_,_,_,h,_=>absurd h (Nat.not_lt_zero _)
 |_+1,0,_,_,_,h=>absurd h (Nat.not_lt_zero _)
 |f+1,f'+1,a,i,h,h'=>by
  rw[jZ,jZ]
  split
  ·split
   ·rfl
   ·split
    ·rfl
    ·rename_i hi _ hz
     have h1:=V2 hz
     have h2:=qK (s:=s) (c:=46) (i:=i)
     have h3:=tF (s:=s) (w:=(eE s (aR s 46 i)).2.1) (i:=(eE s (aR s 46 i)).2.2)
     exact aG6 s f f' _ _ (by omega) (by omega)
  ·rfl
def iL (s:ByteArray) (a:List Lt) (i:Nat):List Lt×Nat:=jZ s (s.size+1) a i
theorem bJf {s:ByteArray} {a:List Lt} {i:Nat} (h: ¬i<s.size):iL s a i=(a,i):=by unfold iL;rw[jZ,if_neg h]
theorem xX {s:ByteArray} {a:List Lt} {i:Nat} (h:i<s.size) (hd:cT s 46 i=true):iL s a i=(a,aR s 46 i):=by unfold iL;rw[jZ,if_pos h,if_pos hd]
theorem bJg {s:ByteArray} {a:List Lt} {i:Nat} (h:i<s.size) (hd:cT s 46 i=false) (hz:(eE s (aR s 46 i)).2.1.size=0):iL s a i=(a,(eE s (aR s 46 i)).2.2):=by
 unfold iL;rw[jZ,if_pos h,if_neg (by simp[hd]),if_pos hz]
theorem V3 {s:ByteArray} {a:List Lt} {i:Nat} (h:i<s.size) (hd:cT s 46 i=false) (hz: ¬(eE s (aR s 46 i)).2.1.size=0):
 iL s a i=iL s (a++ [⟨(eE s (aR s 46 i)).1,(cR s (eE s (aR s 46 i)).2.1 (eE s (aR s 46 i)).2.2).1⟩]) (cR s (eE s (aR s 46 i)).2.1 (eE s (aR s 46 i)).2.2).2:=by
 have h1:=V2 hz
 have h2:=qK (s:=s) (c:=46) (i:=i)
 have h3:=tF (s:=s) (w:=(eE s (aR s 46 i)).2.1) (i:=(eE s (aR s 46 i)).2.2)
 unfold iL
 rw[jZ,if_pos h,if_neg (by simp[hd]),if_neg hz]
 exact aG6 s _ _ _ _ (by omega) (by omega)
def iZ (s:ByteArray) (w:ByteArray) (i:Nat):Rl×Nat:=(⟨(cR s w i).1,(iL s [] (cR s w i).2).1⟩,(iL s [] (cR s w i).2).2)
theorem aG7 (s:ByteArray): ∀(f:Nat) (a:List Lt) (i:Nat),i<=(jZ s f a i).2
 |0,a,i=>by rw[jZ];exact Nat.le_refl i
 |f+1,a,i=>by
  rw[jZ]
  by_cases h:i<s.size
  ·rw[if_pos h]
   have h1:=qK (s:=s) (c:=46) (i:=i)
   have h2:=bJd (s:=s) (i:=aR s 46 i)
   by_cases hd:cT s 46 i=true
   ·rw[if_pos hd];exact h1
   ·rw[if_neg hd]
    generalize eE s (aR s 46 i)=q at*
    by_cases hz:q.2.1.size=0
    ·rw[if_pos hz];exact Nat.le_trans h1 h2
    ·rw[if_neg hz]
     have h3:=tF (s:=s) (w:=q.2.1) (i:=q.2.2)
     generalize cR s q.2.1 q.2.2=u at*
     have h4:=aG7 s f (a++ [⟨q.1,u.1⟩]) u.2
     omega
  ·rw[if_neg h];exact Nat.le_refl i
theorem aG8 (s:ByteArray): ∀(f:Nat) (a:List Lt) (i:Nat),i<=s.size->(jZ s f a i).2<=s.size
 |0,a,i,h=>by rw[jZ];exact h
 |f+1,a,i,h=>by
  rw[jZ]
  by_cases hi:i<s.size
  ·rw[if_pos hi]
   have h1:=qL (s:=s) (c:=46) h
   have h2:=bJe h1
   by_cases hd:cT s 46 i=true
   ·rw[if_pos hd];exact h1
   ·rw[if_neg hd]
    generalize eE s (aR s 46 i)=q at*
    by_cases hz:q.2.1.size=0
    ·rw[if_pos hz];exact h2
    ·rw[if_neg hz]
     have h3:=vF (s:=s) (w:=q.2.1) h2
     generalize cR s q.2.1 q.2.2=u at*
     exact aG8 s f (a++ [⟨q.1,u.1⟩]) u.2 h3
  ·rw[if_neg hi];exact h
theorem V4 {s w i}:i<=(iZ s w i).2:=Nat.le_trans tF (aG7 s _ _ _)
theorem V5 {s:ByteArray} {w i} (h:i<=s.size):(iZ s w i).2<=s.size:=aG8 s _ _ _ (vF h)
def rP (s:ByteArray):Nat->List Rl->Nat->List Rl
 |0,a,_=>a
 |f+1,a,i=>if(bJ s i).size=0 then a else rP s f (a++ [(iZ s (bJ s i) (aP s i)).1]) (iZ s (bJ s i) (aP s i)).2
theorem aG9 (s:ByteArray): ∀(f f':Nat) (a:List Rl) (i:Nat),i<=s.size->s.size - i<f->s.size - i<f'->rP s f a i=rP s f' a i
 |0,_,_,_,_,h,_=>absurd h (Nat.not_lt_zero _)
 |_+1,0,_,_,_,_,h=>absurd h (Nat.not_lt_zero _)
 |f+1,f'+1,a,i,hi,h,h'=>by
  rw[rP,rP]
  split
  ·rfl
  ·rename_i hz
   have h1:=xW hz
   have h2:=V4 (s:=s) (w:=bJ s i) (i:=aP s i)
   have h3:=lN (s:=s) hi
   exact aG9 s f f' _ _ (V5 h3) (by omega) (by omega)
def lP (s:ByteArray) (a:List Rl) (i:Nat):List Rl:=rP s (s.size+1) a i
theorem V6 {s:ByteArray} {a:List Rl} {i:Nat} (h:(bJ s i).size=0):lP s a i=a:=by unfold lP;rw[rP,if_pos h]
theorem xY {s:ByteArray} {a:List Rl} {i:Nat} (hi:i<=s.size) (h: ¬(bJ s i).size=0):lP s a i=lP s (a++ [(iZ s (bJ s i) (aP s i)).1]) (iZ s (bJ s i) (aP s i)).2:=by
 have h1:=xW h
 have h2:=V4 (s:=s) (w:=bJ s i) (i:=aP s i)
 have h3:=lN (s:=s) hi
 unfold lP
 rw[rP,if_neg h]
 exact aG9 s _ _ _ _ (V5 h3) (by omega) (by omega)
set_option maxRecDepth 100000
set_option maxHeartbeats 8000000
abbrev aA (s:ByteArray) (i:Nat):AObj:=⟨false,false,true,2,[.agg [.sc (.string s),nt .i64 i]],0⟩
abbrev aB (s:ByteArray) (i:Nat):aF:= [(1000,aA s i)]
theorem aHa (s:ByteArray) (i:Nat) (hs:s.size<=1000000) (hi:i<=s.size):MCall prog 98 [.ptr 1000 0 0] (aB s i) (fun r o'=>r= .tup []/\o'=aB s (jY s i)):=by
 refine eW func98 call98 rfl (by simp[ntmps98]) ?_;simp only[ntmps98,results98]
 repeat' (first|(refine aC fun _ _=>?_)|refine zHg ?_|simp(disch:=omega) [go_sem,aB,aA])
 refine bS [0] [1000] (fun j:Nat=> []) (fun j:Nat=> [(1000,aA s j)]) (fun j:Nat=>s.size - j) (fun j:Nat=>j<=s.size/\jY s j=jY s i) (i) (Le.sub4 rfl (by simp[go_sem,aB,aA])) ⟨?_⟩ ?_
 ·exact⟨hi,rfl⟩
 intro j ⟨hj,he⟩ AA hAA;simp only[kL,Nat.reduceBEq,Nat.reduceEqDiff]
 by_cases h1:j<s.size
 ·by_cases h2:bt s j=32
  ·repeat' (first|(refine aC fun _ _=>?_)|refine zHg ?_|(refine(hAA.next (j+1) (Le.sub4 rfl (by simp[go_sem])) (by(try dsimp only);omega) ?_))|simp(disch:=omega) [go_sem,h1,h2,aA]|refine zDr 34 aQ ?_|fail)
   exact⟨h1,by rw[<-he];exact(V0 h1 (by simp[E8,h2])).symm⟩
  ·by_cases h3:bt s j=10
   ·repeat' (first|(refine aC fun _ _=>?_)|refine zHg ?_|(refine(hAA.next (j+1) (Le.sub4 rfl (by simp[go_sem])) (by(try dsimp only);omega) ?_))|simp(disch:=omega) [go_sem,h1,h2,h3,aA]|refine zDr 34 aQ ?_|fail)
    exact⟨h1,by rw[<-he];exact(V0 h1 (by simp[E8,h3])).symm⟩
   ·have hz:jY s i=j:=by rw[<-he];exact E7 (by simp[E8,h2,h3])
    rw[hz]
    repeat' (first|(refine aC fun _ _=>?_)|refine zHg ?_|simp(disch:=omega) [go_sem,h1,h2,h3,aA]|refine zDr 34 aQ ?_|fail)
    refine sP ⟨43,[],aB s j⟩ [] (Le.renSub [] [] (by simp[go_sem,aB,aA]) (by simp[go_sem,aB,aA]) (Le.sub4 rfl (by simp[go_sem,aB,aA]))) (by simp[go_sem,aB,aA]) ⟨rfl,rfl⟩
 ·have hz:jY s i=j:=by rw[<-he];exact E7 (by simp[h1])
  rw[hz]
  repeat' (first|(refine aC fun _ _=>?_)|refine zHg ?_|simp(disch:=omega) [go_sem,h1,aA]|refine zDr 34 aQ ?_|fail)
  refine sP ⟨43,[],aB s j⟩ [] (Le.renSub [] [] (by simp[go_sem,aB,aA]) (by simp[go_sem,aB,aA]) (Le.sub4 rfl (by simp[go_sem,aB,aA]))) (by simp[go_sem,aB,aA]) ⟨rfl,rfl⟩
theorem xZ (s:ByteArray) (i:Nat) (c:Int) (hs:s.size<=1000000) (hi:i<=s.size):MCall prog 100 [.ptr 1000 0 0,nt .u8 c] (aB s i) (fun r o'=>r=bl (cT s c i)/\o'=aB s (aR s c i)):=by
 have hb:=aHa s i hs hi
 have hle:=E9 (s:=s) hi
 unfold aR cT
 generalize jY s i=j at*
 refine eW func100 call100 rfl (by simp[ntmps100]) ?_;simp only[ntmps100,results100]
 repeat' (first|(refine aC fun _ _=>?_)|refine zHg ?_|simp(disch:=omega) [go_sem,aB,aA])
 refine bH [] [] 10000 _ _ (Fits.mk' (by simp[go_sem,aB,aA]) (by simp[go_sem,aB,aA])) (by simp[go_sem,aB,aA]) (by simp[go_sem,aB,aA]) (hb) (by simp[go_sem,aB,aA]) (by simp[go_sem,aB,aA]) ?_
 by_cases h1:j<s.size
 ·by_cases h2:bt s j=c
  ·repeat' (first|(refine aC fun _ _=>?_)|refine zHg ?_|simp(disch:=omega) [go_sem,h1,h2,aB,aA]|refine zDr 23 aQ ?_|fail)
   refine cV ⟨37,[(4,bl true)],aB s (j+1)⟩ [bl true] (Le.renSub [] [] (by simp[go_sem,aB,aA]) (by simp[go_sem,aB,aA]) (Le.sub4 rfl (by simp[go_sem,aB,aA]))) (by simp[go_sem,aB,aA]) ⟨rfl,rfl⟩
  ·repeat' (first|(refine aC fun _ _=>?_)|refine zHg ?_|simp(disch:=omega) [go_sem,h1,h2,aB,aA]|refine zDr 23 aQ ?_|fail)
   refine cV ⟨37,[(4,bl false)],aB s j⟩ [bl false] (Le.renSub [] [] (by simp[go_sem,aB,aA]) (by simp[go_sem,aB,aA]) (Le.sub4 rfl (by simp[go_sem,aB,aA]))) (by simp[go_sem,aB,aA]) ⟨rfl,rfl⟩
 ·repeat' (first|(refine aC fun _ _=>?_)|refine zHg ?_|simp(disch:=omega) [go_sem,h1,aB,aA]|refine zDr 23 aQ ?_|fail)
  refine cV ⟨37,[(4,bl false)],aB s j⟩ [bl false] (Le.renSub [] [] (by simp[go_sem,aB,aA]) (by simp[go_sem,aB,aA]) (Le.sub4 rfl (by simp[go_sem,aB,aA]))) (by simp[go_sem,aB,aA]) ⟨rfl,rfl⟩
set_option maxHeartbeats 16000000
theorem bJh {c:Int} (h:nK c=false): ¬c=45/\(48<=c-> ¬c<=57)/\(97<=c-> ¬c<=122)/\(65<=c-> ¬c<=90):=by
 unfold nK at h
 simp only[Bool.or_eq_false_iff,Bool.and_eq_false_iff,decide_eq_false_iff_not]at h
 refine⟨h.1.1.1,?_,?_,?_⟩<;>omega
theorem bJi {c:Int} (h:nK c=true):c=45\/(48<=c/\c<=57)\/(97<=c/\c<=122)\/(65<=c/\c<=90):=by
 unfold nK at h
 simp only[Bool.or_eq_true,Bool.and_eq_true,decide_eq_true_eq]at h
 omega
theorem yA (s:ByteArray) (i:Nat) (hs:s.size<=1000000) (hi:i<=s.size):MCall prog 54 [.ptr 1000 0 0] (aB s i) (fun r o'=>r= .sc (.string (bJ s i))/\o'=aB s (aP s i)):=by
 have hb:=aHa s i hs hi
 have hle:=E9 (s:=s) hi
 unfold bJ aP
 generalize jY s i=k at*
 refine eW func54 call54 rfl (by simp[ntmps54]) ?_;simp only[ntmps54,results54]
 repeat' (first|(refine aC fun _ _=>?_)|refine zHg ?_|simp(disch:=omega) [go_sem,aB,aA])
 refine bH [] [] 10000 _ _ (Fits.mk' (by simp[go_sem,aB,aA]) (by simp[go_sem,aB,aA])) (by simp[go_sem,aB,aA]) (by simp[go_sem,aB,aA]) (hb) (by simp[go_sem,aB,aA]) (by simp[go_sem,aB,aA]) ?_
 repeat' (first|(refine aC fun _ _=>?_)|refine zHg ?_|simp(disch:=omega) [go_sem,aB,aA])
 refine bS [0,3] [1000] (fun j:Nat=> []) (fun j:Nat=> [(1000,aA s j)]) (fun j:Nat=>s.size - j) (fun j:Nat=>k<=j/\j<=s.size/\kR nK s j=kR nK s k) (k) (Le.sub4 rfl (by simp[go_sem,aB,aA])) ⟨?_⟩ ?_
 ·exact⟨Nat.le_refl _,hle,rfl⟩
 intro j ⟨hkj,hj,he⟩ AA hAA;simp only[kL,Nat.reduceBEq,Nat.reduceEqDiff]
 by_cases h1:j<s.size
 ·cases h2:nK (bt s j)
  ·have hz:kR nK s k=j:=by rw[<-he];exact E7 (by simp[h2])
   obtain⟨n1,n2,n3,n4⟩:=bJh h2
   clear he h2
   generalize kR nK s k=z at*
   subst z
   by_cases a3:65<=bt s j
   ·have a1:48<=bt s j:=by omega
    have b1:=n2 a1
    have b3:=n4 a3
    by_cases a2:97<=bt s j
    ·have b2:=n3 a2
     repeat' (first|(refine aC fun _ _=>?_)|refine zHg ?_|simp(disch:=omega) [go_sem,h1,n1,a1,a2,a3,b1,b2,b3,aA]|refine zAo ?_|refine zDr 11 aQ ?_|refine zDr 94 aQ ?_|fail)
     refine cV ⟨121,[(2,.sc (.string (s.extract k j)))],aB s j⟩ [.sc (.string (s.extract k j))] (Le.renSub [] [] (by simp[go_sem,aB,aA]) (by simp[go_sem,aB,aA]) (Le.sub4 rfl (by simp[go_sem,aB,aA]))) (by simp[go_sem,aB,aA]) ⟨rfl,rfl⟩
    ·repeat' (first|(refine aC fun _ _=>?_)|refine zHg ?_|simp(disch:=omega) [go_sem,h1,n1,a1,a2,a3,b1,b3,aA]|refine zAo ?_|refine zDr 11 aQ ?_|refine zDr 94 aQ ?_|fail)
     refine cV ⟨121,[(2,.sc (.string (s.extract k j)))],aB s j⟩ [.sc (.string (s.extract k j))] (Le.renSub [] [] (by simp[go_sem,aB,aA]) (by simp[go_sem,aB,aA]) (Le.sub4 rfl (by simp[go_sem,aB,aA]))) (by simp[go_sem,aB,aA]) ⟨rfl,rfl⟩
   ·have a2: ¬97<=bt s j:=by omega
    by_cases a1:48<=bt s j
    ·have b1:=n2 a1
     repeat' (first|(refine aC fun _ _=>?_)|refine zHg ?_|simp(disch:=omega) [go_sem,h1,n1,a1,a2,a3,b1,aA]|refine zAo ?_|refine zDr 11 aQ ?_|refine zDr 94 aQ ?_|fail)
     refine cV ⟨121,[(2,.sc (.string (s.extract k j)))],aB s j⟩ [.sc (.string (s.extract k j))] (Le.renSub [] [] (by simp[go_sem,aB,aA]) (by simp[go_sem,aB,aA]) (Le.sub4 rfl (by simp[go_sem,aB,aA]))) (by simp[go_sem,aB,aA]) ⟨rfl,rfl⟩
    ·repeat' (first|(refine aC fun _ _=>?_)|refine zHg ?_|simp(disch:=omega) [go_sem,h1,n1,a1,a2,a3,aA]|refine zAo ?_|refine zDr 11 aQ ?_|refine zDr 94 aQ ?_|fail)
     refine cV ⟨121,[(2,.sc (.string (s.extract k j)))],aB s j⟩ [.sc (.string (s.extract k j))] (Le.renSub [] [] (by simp[go_sem,aB,aA]) (by simp[go_sem,aB,aA]) (Le.sub4 rfl (by simp[go_sem,aB,aA]))) (by simp[go_sem,aB,aA]) ⟨rfl,rfl⟩
  ·have hnx:=V0 h1 h2
   have h3:=bJi h2
   rw[he]at hnx
   rcases h3 with h3|⟨a1,b1⟩|⟨a2,b2⟩|⟨a3,b3⟩
   ·repeat' (first|(refine aC fun _ _=>?_)|refine zHg ?_|(refine(hAA.next (j+1) (Le.sub4 rfl (by simp[go_sem])) (by(try dsimp only);omega) ?_))|simp(disch:=omega) [go_sem,h1,h3,aA]|refine zDr 94 aQ ?_|fail)
    exact⟨by omega,by omega,hnx.symm⟩
   ·have n1: ¬bt s j=45:=by omega
    repeat' (first|(refine aC fun _ _=>?_)|refine zHg ?_|(refine(hAA.next (j+1) (Le.sub4 rfl (by simp[go_sem])) (by(try dsimp only);omega) ?_))|simp(disch:=omega) [go_sem,h1,n1,a1,b1,aA]|refine zDr 94 aQ ?_|fail)
    exact⟨by omega,by omega,hnx.symm⟩
   ·have n1: ¬bt s j=45:=by omega
    have a1:48<=bt s j:=by omega
    have b1: ¬bt s j<=57:=by omega
    repeat' (first|(refine aC fun _ _=>?_)|refine zHg ?_|(refine(hAA.next (j+1) (Le.sub4 rfl (by simp[go_sem])) (by(try dsimp only);omega) ?_))|simp(disch:=omega) [go_sem,h1,n1,a1,b1,a2,b2,aA]|refine zDr 94 aQ ?_|fail)
    exact⟨by omega,by omega,hnx.symm⟩
   ·have n1: ¬bt s j=45:=by omega
    have a1:48<=bt s j:=by omega
    have b1: ¬bt s j<=57:=by omega
    have a2: ¬97<=bt s j:=by omega
    repeat' (first|(refine aC fun _ _=>?_)|refine zHg ?_|(refine(hAA.next (j+1) (Le.sub4 rfl (by simp[go_sem])) (by(try dsimp only);omega) ?_))|simp(disch:=omega) [go_sem,h1,n1,a1,b1,a2,a3,b3,aA]|refine zDr 94 aQ ?_|fail)
    exact⟨by omega,by omega,hnx.symm⟩
 ·have hz:kR nK s k=j:=by rw[<-he];exact E7 (by simp[h1])
  clear he
  generalize kR nK s k=z at*
  subst z
  repeat' (first|(refine aC fun _ _=>?_)|refine zHg ?_|simp(disch:=omega) [go_sem,h1,aA]|refine zAo ?_|refine zDr 11 aQ ?_|refine zDr 94 aQ ?_|fail)
  refine cV ⟨121,[(2,.sc (.string (s.extract k j)))],aB s j⟩ [.sc (.string (s.extract k j))] (Le.renSub [] [] (by simp[go_sem,aB,aA]) (by simp[go_sem,aB,aA]) (Le.sub4 rfl (by simp[go_sem,aB,aA]))) (by simp[go_sem,aB,aA]) ⟨rfl,rfl⟩
theorem F4 (s:ByteArray) (hs:s.size<=1000000): ∀(n i:Nat) (w:ByteArray),s.size - i<n->i<=s.size->MCall prog 99 [.ptr 1000 0 0,.sc (.string w)] (aB s i) (fun r o'=>r=eT (cR s w i).1/\o'=aB s (cR s w i).2)
 |0,i,w,hn,hi=>absurd hn (Nat.not_lt_zero _)
 |n+1,i,w,hn,hi=>by
  have ih:=F4 s hs n
  have hsg:=xZ s i 40 hs hi
  have hle:=qL (s:=s) (c:=40) hi
  cases hb:cT s 40 i
  ·rw[tC hb]
   rw[hb]at hsg
   refine MCall.loose (x:= .agg [.sc (.string w),.list false true []]) (o2:=(4,⟨false,false,false,2,[.agg [.sc (.string w),.list false true []]],0⟩)::aB s (aR s 40 i)) ?_ (by simp[go_sem]) (by simp[go_sem]) (by simp[go_sem])
   generalize aR s 40 i=j at*
   refine eW func99 call99 rfl (by simp[ntmps99]) ?_;simp only[ntmps99,results99]
   skip
   repeat' (first|(refine aC fun _ _=>?_)|refine zHg ?_|simp(disch:=omega) [go_sem,aB,aA])
   refine bH [] [] 10000 _ _ (Fits.mk' (by simp[go_sem,aB,aA]) (by simp[go_sem,aB,aA])) (by simp[go_sem,aB,aA]) (by simp[go_sem,aB,aA]) (hsg) (by simp[go_sem,aB,aA]) (by simp[go_sem,aB,aA]) ?_
   repeat' (first|(refine aC fun _ _=>?_)|refine zHg ?_|simp(disch:=omega) [go_sem,aB,aA])
   refine cV ⟨39,[(4,.ptr 4 0 0)],(4,⟨false,false,false,2,[.agg [.sc (.string w),.list false true []]],0⟩)::aB s j⟩ [.agg [.sc (.string w),.list false true []]] (Le.renSub [] [] (by simp[go_sem,aB,aA]) (by simp[go_sem,aB,aA]) (Le.sub4 rfl (by simp[go_sem,aB,aA]))) (by simp[go_sem,aB,aA]) ⟨rfl,rfl⟩
  ·rw[tD hb]
   rw[hb]at hsg
   have hgt:=vE hb
   generalize aR s 40 i=j at*
   dsimp only
   generalize hG:iY s [] j=G at*
   have hY:eT (.mk w G.1)=Ab.loose (.agg [.sc (.string w),.list false (decide (G.1.length=0)) (G.1.map aI)]):=rfl
   rw[hY]
   have key:MCall prog 99 [.ptr 1000 0 0,.sc (.string w)] (aB s i) (fun r o'=>r= .agg [.sc (.string w),if G.1.length=0 then .list false true []else .ref 900 0 G.1.length]/\o'=(4,⟨false,false,false,2,[.agg [.sc (.string w),if G.1.length=0 then .list false true []else .ref 900 0 G.1.length]],0⟩)::(1000,aA s (aR s 41 G.2))::(if G.1.length=0 then[]else[(900,⟨true,false,false,2,G.1.map aI,0⟩)])):=by
    refine eW func99 call99 rfl (by simp[ntmps99]) ?_;simp only[ntmps99,results99]
    skip
    repeat' (first|(refine aC fun _ _=>?_)|refine zHg ?_|simp(disch:=omega) [go_sem,aB,aA])
    refine bH [] [] 10000 _ _ (Fits.mk' (by simp[go_sem,aB,aA]) (by simp[go_sem,aB,aA])) (by simp[go_sem,aB,aA]) (by simp[go_sem,aB,aA]) (hsg) (by simp[go_sem,aB,aA]) (by simp[go_sem,aB,aA]) ?_
    repeat' (first|(refine aC fun _ _=>?_)|refine zHg ?_|simp(disch:=omega) [go_sem,aB,aA])
    refine bS [0,4,5] [5,900,1000] (fun y:List Tm×Nat=> []) (fun y:List Tm×Nat=>(5,⟨false,false,false,2,[.agg [.sc (.string w),if y.1.length=0 then .list false true []else .ref 900 0 y.1.length]],0⟩)::(1000,aA s y.2)::(if y.1.length=0 then[]else[(900,⟨true,false,false,2,y.1.map aI,0⟩)])) (fun y:List Tm×Nat=>s.size - y.2) (fun y:List Tm×Nat=>i<y.2/\y.2<=s.size/\y.1.length<=y.2/\iY s y.1 y.2=G) (([],j)) (Le.sub4 rfl (by simp[go_sem,aB,aA])) ⟨?_⟩ ?_
    ·exact⟨hgt,hle,Nat.zero_le _,hG⟩
    intro y ⟨hy1,hy2,hy3,hag⟩ AA hAA;simp only[kL,Nat.reduceBEq,Nat.reduceEqDiff]
    obtain⟨a,k⟩:=y
    dsimp only at hy1 hy2 hy3 hag ⊢
    clear hG
    by_cases hlt:k<s.size
    ·have hwd:=yA s k hs hy2
     have hwl:=lN (s:=s) hy2
     have hwg:=lM (s:=s) (i:=k)
     have ht:=ih (aP s k) (bJ s k) (by omega) hwl
     have htl:=vF (s:=s) (w:=bJ s k) hwl
     have htg:=tF (s:=s) (w:=bJ s k) (i:=aP s k)
     have hcm:=xZ s (cR s (bJ s k) (aP s k)).2 44 hs htl
     have hcl:=qL (s:=s) (c:=44) htl
     have hlim:a.length<=1000000:=by omega
     cases hc:cT s 44 (cR s (bJ s k) (aP s k)).2
     ·rw[tE hlt hc]at hag
      subst hag
      rw[hc]at hcm
      have hsz:=xZ s (aR s 44 (cR s (bJ s k) (aP s k)).2) 41 hs hcl
      generalize aR s 44 (cR s (bJ s k) (aP s k)).2=k3 at*
      generalize cR s (bJ s k) (aP s k)=q at*
      generalize bJ s k=wd at*
      generalize aP s k=k1 at*
      obtain⟨tm,k2⟩:=q
      dsimp only at*
      generalize aR s 41 k3=k4 at*
      by_cases h0:a.length=0
      ·obtain rfl:=List.eq_nil_of_length_eq_zero h0
       repeat' (first|(refine aC fun _ _=>?_)|refine zHg ?_|simp(disch:=omega) [go_sem,hlt,aB,aA]|refine zDr 10 aQ ?_|fail)
       refine bH [] [] 10000 _ _ (Fits.mk' (by simp[go_sem,aB,aA]) (by simp[go_sem,aB,aA])) (by simp[go_sem,aB,aA]) (by simp[go_sem,aB,aA]) (hwd) (by simp[go_sem,aB,aA]) (by simp[go_sem,aB,aA]) ?_
       repeat' (first|(refine aC fun _ _=>?_)|refine zHg ?_|(with_reducible refine dF ?_;first|(exact dC)|(refine zSkip ?_)|(refine dD rfl ?_ ?_))|(with_reducible refine dE ?_;first|(refine zDone ?_)|(refine zQu 0 rfl rfl rfl rfl ?_)|(refine zQu 1 rfl rfl rfl rfl ?_)|(refine zQu 2 rfl rfl rfl rfl ?_)|(refine zQu 3 rfl rfl rfl rfl ?_)|(refine zQu 7 rfl rfl rfl rfl ?_)|(refine zAll ?_;show cO _ _ _ _ _ _ _))|with_reducible refine dH ?_|simp(disch:=omega) [go_sem,hlt,aB,aA]|refine zAny aQ ?_|fail)
       all_goals refine bH [] [] 10000 _ _ (Fits.mk' (by simp[go_sem,aB,aA]) (by simp[go_sem,aB,aA])) (by simp[go_sem,aB,aA]) (by simp[go_sem,aB,aA]) (ht) (by simp[go_sem,aB,aA]) (by simp[go_sem,aB,aA]) ?_
       all_goals repeat' (first|(refine aC fun _ _=>?_)|refine zHg ?_|(with_reducible refine dF ?_;first|(exact dC)|(refine zSkip ?_)|(refine dD rfl ?_ ?_))|(with_reducible refine dE ?_;first|(refine zDone ?_)|(refine zQu 0 rfl rfl rfl rfl ?_)|(refine zQu 1 rfl rfl rfl rfl ?_)|(refine zQu 2 rfl rfl rfl rfl ?_)|(refine zQu 3 rfl rfl rfl rfl ?_)|(refine zQu 7 rfl rfl rfl rfl ?_)|(refine zAll ?_;show cO _ _ _ _ _ _ _))|with_reducible refine dH ?_|simp(disch:=omega) [go_sem,hlt,aB,aA])
       all_goals refine bH [] [] 10000 _ _ (Fits.mk' (by simp[go_sem,aB,aA]) (by simp[go_sem,aB,aA])) (by simp[go_sem,aB,aA]) (by simp[go_sem,aB,aA]) (hcm) (by simp[go_sem,aB,aA]) (by simp[go_sem,aB,aA]) ?_
       all_goals repeat' (first|(refine aC fun _ _=>?_)|refine zHg ?_|simp(disch:=omega) [go_sem,hlt,aB,aA])
       all_goals refine bH [] [] 10000 _ _ (Fits.mk' (by simp[go_sem,aB,aA]) (by simp[go_sem,aB,aA])) (by simp[go_sem,aB,aA]) (by simp[go_sem,aB,aA]) (hsz) (by simp[go_sem,aB,aA]) (by simp[go_sem,aB,aA]) ?_
       all_goals repeat' (first|(refine aC fun _ _=>?_)|refine zHg ?_|simp(disch:=omega) [go_sem,hlt,aB,aA])
       all_goals refine cV ⟨39,[(4,.ptr 4 0 0)],(4,⟨false,false,false,2,[.agg [.sc (.string w),.ref 900 0 1]],0⟩)::(1000,aA s k4):: [(900,⟨true,false,false,2,[eT tm],0⟩)]⟩ [.agg [.sc (.string w),.ref 900 0 1]] (Le.renSub [(31,900)] [(900,31)] (by simp[go_sem,aB,aA]) (by simp[go_sem,aB,aA]) (Le.sub4 rfl (by simp[go_sem,aB,aA]))) (by simp[go_sem,aB,aA]) ⟨rfl,rfl⟩
      ·
       repeat' (first|(refine aC fun _ _=>?_)|refine zHg ?_|simp(disch:=omega) [go_sem,hlt,h0,aB,aA]|refine zDr 10 aQ ?_|fail)
       refine bH [] [] 10000 _ _ (Fits.mk' (by simp[go_sem,aB,aA]) (by simp[go_sem,aB,aA])) (by simp[go_sem,aB,aA]) (by simp[go_sem,aB,aA]) (hwd) (by simp[go_sem,aB,aA]) (by simp[go_sem,aB,aA]) ?_
       repeat' (first|(refine aC fun _ _=>?_)|refine zHg ?_|(with_reducible refine dF ?_;first|(exact dC)|(refine zSkip ?_)|(refine dD rfl ?_ ?_))|(with_reducible refine dE ?_;first|(refine zDone ?_)|(refine zQu 0 rfl rfl rfl rfl ?_)|(refine zQu 1 rfl rfl rfl rfl ?_)|(refine zQu 2 rfl rfl rfl rfl ?_)|(refine zQu 3 rfl rfl rfl rfl ?_)|(refine zQu 7 rfl rfl rfl rfl ?_)|(refine zAll ?_;show cO _ _ _ _ _ _ _))|with_reducible refine dH ?_|simp(disch:=omega) [go_sem,hlt,h0,aB,aA]|refine zAny aQ ?_|fail)
       all_goals refine bH [] [] 10000 _ _ (Fits.mk' (by simp[go_sem,aB,aA]) (by simp[go_sem,aB,aA])) (by simp[go_sem,aB,aA]) (by simp[go_sem,aB,aA]) (ht) (by simp[go_sem,aB,aA]) (by simp[go_sem,aB,aA]) ?_
       all_goals repeat' (first|(refine aC fun _ _=>?_)|refine zHg ?_|(with_reducible refine dF ?_;first|(exact dC)|(refine zSkip ?_)|(refine dD rfl ?_ ?_))|(with_reducible refine dE ?_;first|(refine zDone ?_)|(refine zQu 0 rfl rfl rfl rfl ?_)|(refine zQu 1 rfl rfl rfl rfl ?_)|(refine zQu 2 rfl rfl rfl rfl ?_)|(refine zQu 3 rfl rfl rfl rfl ?_)|(refine zQu 7 rfl rfl rfl rfl ?_)|(refine zAll ?_;show cO _ _ _ _ _ _ _))|with_reducible refine dH ?_|simp(disch:=omega) [go_sem,hlt,h0,aB,aA]|refine zAo ?_|fail)
       all_goals refine bH [] [] 10000 _ _ (Fits.mk' (by simp[go_sem,aB,aA]) (by simp[go_sem,aB,aA])) (by simp[go_sem,aB,aA]) (by simp[go_sem,aB,aA]) (hcm) (by simp[go_sem,aB,aA]) (by simp[go_sem,aB,aA]) ?_
       all_goals repeat' (first|(refine aC fun _ _=>?_)|refine zHg ?_|simp(disch:=omega) [go_sem,hlt,h0,aB,aA])
       all_goals refine bH [] [] 10000 _ _ (Fits.mk' (by simp[go_sem,aB,aA]) (by simp[go_sem,aB,aA])) (by simp[go_sem,aB,aA]) (by simp[go_sem,aB,aA]) (hsz) (by simp[go_sem,aB,aA]) (by simp[go_sem,aB,aA]) ?_
       all_goals repeat' (first|(refine aC fun _ _=>?_)|refine zHg ?_|simp(disch:=omega) [go_sem,hlt,h0,aB,aA])
       all_goals refine cV ⟨39,[(4,.ptr 4 0 0)],(4,⟨false,false,false,2,[.agg [.sc (.string w),.ref 900 0 (a.length+1)]],0⟩)::(1000,aA s k4):: [(900,⟨true,false,false,2,a.map aI++ [eT tm],0⟩)]⟩ [.agg [.sc (.string w),.ref 900 0 (a.length+1)]] (Le.renSub [] [] (by simp[go_sem,aB,aA]) (by simp[go_sem,aB,aA]) (Le.sub4 rfl (by simp[go_sem,aB,aA]))) (by simp[go_sem,aB,aA]) ⟨rfl,rfl⟩
     ·rw[bJc hlt hc]at hag
      have hcg:=vE hc
      rw[hc]at hcm
      generalize aR s 44 (cR s (bJ s k) (aP s k)).2=k3 at*
      generalize cR s (bJ s k) (aP s k)=q at*
      generalize bJ s k=wd at*
      generalize aP s k=k1 at*
      obtain⟨tm,k2⟩:=q
      dsimp only at*
      by_cases h0:a.length=0
      ·obtain rfl:=List.eq_nil_of_length_eq_zero h0
       repeat' (first|(refine aC fun _ _=>?_)|refine zHg ?_|simp(disch:=omega) [go_sem,hlt,aB,aA]|refine zDr 10 aQ ?_|fail)
       refine bH [] [] 10000 _ _ (Fits.mk' (by simp[go_sem,aB,aA]) (by simp[go_sem,aB,aA])) (by simp[go_sem,aB,aA]) (by simp[go_sem,aB,aA]) (hwd) (by simp[go_sem,aB,aA]) (by simp[go_sem,aB,aA]) ?_
       repeat' (first|(refine aC fun _ _=>?_)|refine zHg ?_|(with_reducible refine dF ?_;first|(exact dC)|(refine zSkip ?_)|(refine dD rfl ?_ ?_))|(with_reducible refine dE ?_;first|(refine zDone ?_)|(refine zQu 0 rfl rfl rfl rfl ?_)|(refine zQu 1 rfl rfl rfl rfl ?_)|(refine zQu 2 rfl rfl rfl rfl ?_)|(refine zQu 3 rfl rfl rfl rfl ?_)|(refine zQu 7 rfl rfl rfl rfl ?_)|(refine zAll ?_;show cO _ _ _ _ _ _ _))|with_reducible refine dH ?_|simp(disch:=omega) [go_sem,hlt,aB,aA]|refine zAny aQ ?_|fail)
       all_goals refine bH [] [] 10000 _ _ (Fits.mk' (by simp[go_sem,aB,aA]) (by simp[go_sem,aB,aA])) (by simp[go_sem,aB,aA]) (by simp[go_sem,aB,aA]) (ht) (by simp[go_sem,aB,aA]) (by simp[go_sem,aB,aA]) ?_
       all_goals repeat' (first|(refine aC fun _ _=>?_)|refine zHg ?_|(with_reducible refine dF ?_;first|(exact dC)|(refine zSkip ?_)|(refine dD rfl ?_ ?_))|(with_reducible refine dE ?_;first|(refine zDone ?_)|(refine zQu 0 rfl rfl rfl rfl ?_)|(refine zQu 1 rfl rfl rfl rfl ?_)|(refine zQu 2 rfl rfl rfl rfl ?_)|(refine zQu 3 rfl rfl rfl rfl ?_)|(refine zQu 7 rfl rfl rfl rfl ?_)|(refine zAll ?_;show cO _ _ _ _ _ _ _))|with_reducible refine dH ?_|simp(disch:=omega) [go_sem,hlt,aB,aA])
       all_goals refine bH [] [] 10000 _ _ (Fits.mk' (by simp[go_sem,aB,aA]) (by simp[go_sem,aB,aA])) (by simp[go_sem,aB,aA]) (by simp[go_sem,aB,aA]) (hcm) (by simp[go_sem,aB,aA]) (by simp[go_sem,aB,aA]) ?_
       all_goals repeat' (first|(refine aC fun _ _=>?_)|refine zHg ?_|(refine(hAA.next (([tm],k3)) (Le.renSub [(31,900)] [(900,31)] (by simp[go_sem]) (by simp[go_sem]) (Le.sub4 rfl (by simp[go_sem]))) (by(try dsimp only);omega) ?_))|simp(disch:=omega) [go_sem,hlt,aB,aA])
       try any_goals omega
       all_goals exact⟨by omega,by omega,by(try simp);omega,hag⟩
      ·
       repeat' (first|(refine aC fun _ _=>?_)|refine zHg ?_|simp(disch:=omega) [go_sem,hlt,h0,aB,aA]|refine zDr 10 aQ ?_|fail)
       refine bH [] [] 10000 _ _ (Fits.mk' (by simp[go_sem,aB,aA]) (by simp[go_sem,aB,aA])) (by simp[go_sem,aB,aA]) (by simp[go_sem,aB,aA]) (hwd) (by simp[go_sem,aB,aA]) (by simp[go_sem,aB,aA]) ?_
       repeat' (first|(refine aC fun _ _=>?_)|refine zHg ?_|(with_reducible refine dF ?_;first|(exact dC)|(refine zSkip ?_)|(refine dD rfl ?_ ?_))|(with_reducible refine dE ?_;first|(refine zDone ?_)|(refine zQu 0 rfl rfl rfl rfl ?_)|(refine zQu 1 rfl rfl rfl rfl ?_)|(refine zQu 2 rfl rfl rfl rfl ?_)|(refine zQu 3 rfl rfl rfl rfl ?_)|(refine zQu 7 rfl rfl rfl rfl ?_)|(refine zAll ?_;show cO _ _ _ _ _ _ _))|with_reducible refine dH ?_|simp(disch:=omega) [go_sem,hlt,h0,aB,aA]|refine zAny aQ ?_|fail)
       all_goals refine bH [] [] 10000 _ _ (Fits.mk' (by simp[go_sem,aB,aA]) (by simp[go_sem,aB,aA])) (by simp[go_sem,aB,aA]) (by simp[go_sem,aB,aA]) (ht) (by simp[go_sem,aB,aA]) (by simp[go_sem,aB,aA]) ?_
       all_goals repeat' (first|(refine aC fun _ _=>?_)|refine zHg ?_|(with_reducible refine dF ?_;first|(exact dC)|(refine zSkip ?_)|(refine dD rfl ?_ ?_))|(with_reducible refine dE ?_;first|(refine zDone ?_)|(refine zQu 0 rfl rfl rfl rfl ?_)|(refine zQu 1 rfl rfl rfl rfl ?_)|(refine zQu 2 rfl rfl rfl rfl ?_)|(refine zQu 3 rfl rfl rfl rfl ?_)|(refine zQu 7 rfl rfl rfl rfl ?_)|(refine zAll ?_;show cO _ _ _ _ _ _ _))|with_reducible refine dH ?_|simp(disch:=omega) [go_sem,hlt,h0,aB,aA]|refine zAo ?_|fail)
       all_goals refine bH [] [] 10000 _ _ (Fits.mk' (by simp[go_sem,aB,aA]) (by simp[go_sem,aB,aA])) (by simp[go_sem,aB,aA]) (by simp[go_sem,aB,aA]) (hcm) (by simp[go_sem,aB,aA]) (by simp[go_sem,aB,aA]) ?_
       all_goals repeat' (first|(refine aC fun _ _=>?_)|refine zHg ?_|(refine(hAA.next ((a++ [tm],k3)) (Le.sub4 rfl (by simp[go_sem])) (by(try dsimp only);omega) ?_))|simp(disch:=omega) [go_sem,hlt,h0,aB,aA])
       try any_goals omega
       all_goals exact⟨by omega,by omega,by(try simp);omega,hag⟩
    ·rw[bJb hlt]at hag
     subst hag
     have hsz:=xZ s k 41 hs hy2
     dsimp only at*
     generalize aR s 41 k=k4 at*
     by_cases h0:a.length=0
     ·obtain rfl:=List.eq_nil_of_length_eq_zero h0
      repeat' (first|(refine aC fun _ _=>?_)|refine zHg ?_|simp(disch:=omega) [go_sem,hlt,aB,aA]|refine zDr 10 aQ ?_|fail)
      refine bH [] [] 10000 _ _ (Fits.mk' (by simp[go_sem,aB,aA]) (by simp[go_sem,aB,aA])) (by simp[go_sem,aB,aA]) (by simp[go_sem,aB,aA]) (hsz) (by simp[go_sem,aB,aA]) (by simp[go_sem,aB,aA]) ?_
      repeat' (first|(refine aC fun _ _=>?_)|refine zHg ?_|simp(disch:=omega) [go_sem,hlt,aB,aA])
      refine cV ⟨39,[(4,.ptr 4 0 0)],(4,⟨false,false,false,2,[.agg [.sc (.string w),.list false true []]],0⟩)::(1000,aA s k4):: []⟩ [.agg [.sc (.string w),.list false true []]] (Le.renSub [] [] (by simp[go_sem,aB,aA]) (by simp[go_sem,aB,aA]) (Le.sub4 rfl (by simp[go_sem,aB,aA]))) (by simp[go_sem,aB,aA]) ⟨rfl,rfl⟩
     ·repeat' (first|(refine aC fun _ _=>?_)|refine zHg ?_|simp(disch:=omega) [go_sem,hlt,h0,aB,aA]|refine zDr 10 aQ ?_|fail)
      refine bH [] [] 10000 _ _ (Fits.mk' (by simp[go_sem,aB,aA]) (by simp[go_sem,aB,aA])) (by simp[go_sem,aB,aA]) (by simp[go_sem,aB,aA]) (hsz) (by simp[go_sem,aB,aA]) (by simp[go_sem,aB,aA]) ?_
      repeat' (first|(refine aC fun _ _=>?_)|refine zHg ?_|simp(disch:=omega) [go_sem,hlt,h0,aB,aA])
      refine cV ⟨39,[(4,.ptr 4 0 0)],(4,⟨false,false,false,2,[.agg [.sc (.string w),.ref 900 0 a.length]],0⟩)::(1000,aA s k4):: [(900,⟨true,false,false,2,a.map aI,0⟩)]⟩ [.agg [.sc (.string w),.ref 900 0 a.length]] (Le.renSub [] [] (by simp[go_sem,aB,aA]) (by simp[go_sem,aB,aA]) (Le.sub4 rfl (by simp[go_sem,aB,aA]))) (by simp[go_sem,aB,aA]) ⟨rfl,rfl⟩
   by_cases h0:G.1.length=0
   ·have hn:=List.eq_nil_of_length_eq_zero h0
    simp only[hn,List.length_nil,if_true,decide_true,List.map_nil]at key ⊢
    exact key.shared rfl (by simp[go_sem]) (by simp[go_sem]) (by simp[go_sem])
   ·simp only[h0,if_false,decide_false]at key ⊢
    refine key.shared (s':=?_) (y:= .agg [.sc (.string w),.list false false (G.1.map aI)]) (by simp[go_sem,bY];rfl) (by simp[go_sem]) (by simp[go_sem]) (by simp[go_sem])
abbrev eY (s:ByteArray) (i:Nat):AObj:=⟨false,false,false,2,[.agg [.sc (.string s),nt .i64 i]],0⟩
end Go.Proofs.YtbgckcdddlmiaaaGreatDoor
