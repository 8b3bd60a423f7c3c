import Derived.Test.YtkbglbcphjmiiaaGreatDoorS11
import Derived.Test.YtkbglbcphjmiiaaGreatDoorS2
import Derived.Test.YtkbglbcphjmiiaaGreatDoorS1
import Derived.Test.YtkbglbcphjmiiaaGreatDoorA5
import Derived.ChangeMaps5
import Derived.Test.YtkbglbcphjmiiaaGreatDoorA10
import Derived.Test.YtkbglbcphjmiiaaGreatDoorS6
import Derived.Test.YtkbglbcphjmiiaaGreatDoorS3
set_option linter.unusedSimpArgs false
set_option linter.unusedVariables false
open Go.Proofs.Tryz
namespace Go.Proofs.YtkbglbcphjmiiaaGreatDoor
open Go.Ab
set_option maxRecDepth 100000
set_option maxHeartbeats 16000000
theorem aIc {A:List Tm} {t:Tm} (h:nD A t=true):gM A t=A:=by
 unfold gM
 rw[if_neg]
 intro⟨h1,_⟩
 unfold nD at h
 rw[h]at h1;cases h1
theorem aId {A:List Tm} {t:Tm} (h: ¬t.depth≤4):gM A t=A:=by
 unfold gM
 rw[if_neg fun h'=>h h'.2]
theorem aIe {A:List Tm} {t:Tm} (h:nD A t=false) (h':t.depth≤4):gM A t=A++ [t]:=by
 unfold gM
 rw[if_pos ⟨h,h'⟩]
theorem cJm {α β:Type} {f:β→α→β} {b:β} {l:List α} {i:Nat} (h:i<l.length):(l.take (i+1)).foldl f b=f ((l.take i).foldl f b) l[i]:=by
 rw[iT h,List.foldl_append];rfl
def iX (A X:List Tm) (i:Nat):List Tm:=(X.take i).foldl gM A
theorem aIf {A X:List Tm}:iX A X 0=A:=rfl
theorem aIg {A X:List Tm} {i:Nat} (h:i<X.length):iX A X (i+1)=gM (iX A X i) X[i]:=cJm h
theorem aIh {A X:List Tm}:iX A X X.length=X.foldl gM A:=by unfold iX;rw[List.take_length]
theorem K7 {A X:List Tm} {i:Nat} (h:i≤X.length):(iX A X i).length≤A.length+i:=by
 have:=(aG2 (X:=X.take i) (A:=A)).2
 rw[List.length_take,Nat.min_eq_left h]at this
 exact this
theorem cJn {h:Tm} {W:List (List Bd)} {k:Nat} (hk:k<W.length):oZ h (W.take (k+1))=oZ h (W.take k)++(if(gL h W[k]).2=true then[(gL h W[k]).1]else[]):=by
 unfold oZ
 rw[iT hk,List.filterMap_append]
 congr 1
 rw[List.filterMap_cons,List.filterMap_nil]
 split<;>rename_i he
 ·split at he
  ·cases he
  ·rename_i hn;rw[if_neg hn]
 ·split at he
  ·rename_i hy;rw[if_pos hy];obtain rfl:=Option.some.inj he;rfl
  ·cases he
theorem cJo {A:List Tm} {j:Nat} (h:j<A.length):oC (A.take (j+1))=oC (A.take j)++jU A[j]:=by
 unfold oC
 rw[iT h,List.flatMap_append]
 simp
theorem cJp {A:List Tm} {m:List Tm} {lf:Int}:qB A [] m lf=(some m,lf):=rfl
theorem cJq {A:List Tm} {r:Rl} {rs:List Rl} {m:List Tm} {lf:Int}:qB A (r::rs) m lf=match gU A r.body [[]] lf with
 |(some W,lf')=>qB A rs (m++oZ r.head W) lf'
 |(none,lf')=>(none,lf'):=by rw[qB];rfl
def aAb (l:List Rl) (f:Nat) (A:List Tm):Option (List Tm)×Int→Bool
 |(some m,lf')=>rE l f A.length ((m++oC A).foldl gM A) lf'
 |(none,_)=>false
theorem cJr {l:List Rl} {f:Nat} {n:Int} {A:List Tm} {lf:Int} (h:n<A.length∧A.length≤1000):rE l (f+1) n A lf=aAb l f A (qB A l [] lf):=by
 rw[rE,if_pos h]
 generalize qB A l [] lf=R
 obtain⟨x,y⟩:=R
 cases x<;>rfl
theorem aIi {l:List Rl} {f:Nat} {n:Int} {A:List Tm} {lf:Int} (h: ¬(n<A.length∧A.length≤1000)):rE l (f+1) n A lf=decide (A.length≤1000):=by
 rw[rE,if_neg h]
theorem cJs {q M:Nat} (hq:q≤1000000) (hM:5≤M) (hBG:BG q M≤2305843009213693952) (l:List Rl) (G:List Tm) (fl lg fg:Bool) (hl: ∀r∈l,okR q M r) (hll:l.length≤100) (hG:J7 q M G) (hGl:G.length≤1000):
 ACall prog 49 [.list false fl (l.map bN),.list lg fg (G.map bO)] (fun r=>r=bl (J6 l G)):=by
 generalize hV:J6 l G=V
 unfold J6 at hV
 have hGb: ∀t∈G,fP t≤2305843009213693952:=fun t h=>Nat.le_trans (hG t h).2.1 hBG
 replace hG: ∀t∈G,eE q M t∧fP t≤2305843009213693952∧t.depth≤1000:=fun t h=>⟨(hG t h).1,hGb t h,(hG t h).2.2⟩
 clear hGb
 refine bD func49 call49 rfl (by simp[ntmps49]) ?_;simp only[ntmps49,results49]
 repeat' (first|(refine aC fun _ _=>?_)|refine zHg ?_|simp(disch:=omega) [go_sem])
 refine bR [0,1,5,7,8,26] [7,23,900,6] (fun i:Nat=> [(27,nt .i64 i)]) (fun i:Nat=> [(7,bA false 900 (iX [] G i).length),(23,aZ false (iX [] G i)),(900,aO false (iX [] G i)),(6,bB false 23)]) (fun i:Nat=>G.length - i) (fun i:Nat=>i≤G.length) (0) (by refine Le.trans ?_ (Le.nilBox 7 900 2 rfl (by decide) (by decide));exact(Le.sub4 rfl (by simp[go_sem,bA,aZ,aO,bB,aIf,List.map_nil,List.length_nil]))) ⟨?_⟩ ?_
 ·exact Nat.zero_le _
 intro i hi AA hAA;simp only[kL,Nat.reduceBEq,Nat.reduceEqDiff,if_true,if_false,List.cons_append,List.nil_append,List.append_nil]
 by_cases hlt:i<G.length
 ·skip
  have hnx:=aIg (A:= []) hlt
  have hAl:(iX [] G i).length≤0+i:=K7 (A:= []) (Nat.le_of_lt hlt)
  have hAo:mE q M (iX [] G i):=zM (fun u hu=>by simp at hu) fun u hu=>(hG u (List.mem_of_mem_take hu)).1
  have ht:=hG _ (List.getElem_mem hlt)
  generalize iX [] G i=Z at*
  generalize hte:G[i]=t at*
  cases hh:nD Z t
  ·by_cases h4:t.depth≤4
   ·have hu:=aH7 hq Z t ht.1 (by omega) (by omega) (by omega) hh h4
    rw[aIe hh h4]at hnx
    repeat' (first|(refine aC fun _ _=>?_)|refine zHg ?_|simp(disch:=omega) [go_sem,hlt,hte,bA,aZ,aO,bB])
    refine bC [(1000,6),(1001,7),(1002,23),(1003,900)] [(6,1000),(7,1001),(23,1002),(900,1003)] 10000 _ _ (Fits.mk' (by simp[go_sem,cG,cW,bA,aZ,aO,bB]) (by simp[go_sem,cG,cW,bA,aZ,aO,bB])) (by simp[go_sem,cG,cW,bA,aZ,aO,bB]) (by simp[go_sem,cG,cW,bA,aZ,aO,bB]) (hu) (by simp[go_sem,cG,cW,bA,aZ,aO,bB]) (by simp[go_sem,cG,cW,bA,aZ,aO,bB]) ?_
    repeat' (first|refine zHg ?_|(refine(hAA.next (i+1) (Le.renSub [(11004,900),(900,11004)] [(900,11004),(11004,900)] (by simp[go_sem,hnx,bA,aZ,aO,bB,cW]) (by simp[go_sem,hnx,bA,aZ,aO,bB,cW]) (Le.sub4 rfl (by simp[go_sem,hnx,bA,aZ,aO,bB,cW]))) (by(try dsimp only);omega) ?_))|simp(disch:=omega) [go_sem,hlt,hte,bA,aZ,aO,bB,cW])
    all_goals(first|omega|skip)
    exact⟨hlt⟩
   ·have hu:=aH6 hq Z t ht.1 (by omega) (by omega) (by omega) hh h4
    rw[aId h4]at hnx
    repeat' (first|(refine aC fun _ _=>?_)|refine zHg ?_|simp(disch:=omega) [go_sem,hlt,hte,bA,aZ,aO,bB])
    refine bC [(1000,6),(1001,7),(1002,23),(1003,900)] [(6,1000),(7,1001),(23,1002),(900,1003)] 10000 _ _ (Fits.mk' (by simp[go_sem,cG,cW,bA,aZ,aO,bB]) (by simp[go_sem,cG,cW,bA,aZ,aO,bB])) (by simp[go_sem,cG,cW,bA,aZ,aO,bB]) (by simp[go_sem,cG,cW,bA,aZ,aO,bB]) (hu) (by simp[go_sem,cG,cW,bA,aZ,aO,bB]) (by simp[go_sem,cG,cW,bA,aZ,aO,bB]) ?_
    repeat' (first|refine zHg ?_|(refine(hAA.next (i+1) (Le.sub4 rfl (by simp[go_sem,hnx,bA,aZ,aO,bB,cG])) (by(try dsimp only);omega) ?_))|simp(disch:=omega) [go_sem,hlt,hte,bA,aZ,aO,bB,cG])
    all_goals(first|omega|skip)
    exact⟨hlt⟩
  ·have hu:=aH5 hq Z t ht.1 (by omega) (by omega) (by omega) hh
   rw[aIc hh]at hnx
   repeat' (first|(refine aC fun _ _=>?_)|refine zHg ?_|simp(disch:=omega) [go_sem,hlt,hte,bA,aZ,aO,bB])
   refine bC [(1000,6),(1001,7),(1002,23),(1003,900)] [(6,1000),(7,1001),(23,1002),(900,1003)] 10000 _ _ (Fits.mk' (by simp[go_sem,cG,cW,bA,aZ,aO,bB]) (by simp[go_sem,cG,cW,bA,aZ,aO,bB])) (by simp[go_sem,cG,cW,bA,aZ,aO,bB]) (by simp[go_sem,cG,cW,bA,aZ,aO,bB]) (hu) (by simp[go_sem,cG,cW,bA,aZ,aO,bB]) (by simp[go_sem,cG,cW,bA,aZ,aO,bB]) ?_
   repeat' (first|refine zHg ?_|(refine(hAA.next (i+1) (Le.sub4 rfl (by simp[go_sem,hnx,bA,aZ,aO,bB,cG])) (by(try dsimp only);omega) ?_))|simp(disch:=omega) [go_sem,hlt,hte,bA,aZ,aO,bB,cG])
   all_goals(first|omega|skip)
   exact⟨hlt⟩
 ·obtain rfl:i=G.length:=by omega
  rw[←aIh]at hV
  have hAl:=K7 (A:= []) (X:=G) (Nat.le_refl _)
  have hAo:mE q M (iX [] G G.length):=zM (fun u hu=>by simp at hu) fun u hu=>(hG u (List.mem_of_mem_take hu)).1
  simp only[List.length_nil,Nat.zero_add]at hAl
  generalize iX [] G G.length=Z at*
  clear hlt hi
  repeat' (first|(refine aC fun _ _=>?_)|refine zHg ?_|simp(disch:=omega) [go_sem,bA,aZ,aO,bB])
  refine bR [0,5,7,8] [7,23,900,22] (fun y:Nat×Int×List Tm×Int=> [(10,nt .i64 y.2.1)]) (fun y:Nat×Int×List Tm×Int=> [(7,bA false 900 y.2.2.1.length),(23,aZ false y.2.2.1),(900,aO false y.2.2.1),(22,bG false y.2.2.2)]) (fun y:Nat×Int×List Tm×Int=>(1002 - y.2.1).toNat) (fun y:Nat×Int×List Tm×Int=> -1≤y.2.1∧y.2.1≤1000∧1001≤y.1+y.2.1∧mE q M y.2.2.1∧y.2.2.1.length≤1000000∧0≤y.2.2.2∧y.2.2.2≤1000000∧rE l (y.1+1) y.2.1 y.2.2.1 y.2.2.2=V) ((1002,-1,Z,1000000)) (Le.sub4 rfl (by simp[go_sem,bA,aZ,aO,bB,bG])) ⟨?_⟩ ?_
  ·exact⟨by(try dsimp only);omega,by(try dsimp only);omega,by(try dsimp only);omega,hAo,by(try dsimp only);omega,by(try dsimp only);omega,by(try dsimp only);omega,hV⟩
  clear hV hAo hAl hG
  intro⟨f,n,A,lf⟩ ⟨hn1,hn2,hf,hA,hAl,h0,h1,hV⟩ AA hAA;simp only[kL,Nat.reduceBEq,Nat.reduceEqDiff,if_true,if_false,List.cons_append,List.nil_append,List.append_nil]
  dsimp only at*
  by_cases c1:n<A.length
  ·by_cases c2:(A.length:Int)≤1000
   ·rw[cJr ⟨c1,by omega⟩]at hV
    have hAB:=hAA
    repeat' (first|(refine aC fun _ _=>?_)|refine zHg ?_|simp(disch:=omega) [go_sem,c1,c2,bA,aZ,aO,bB,bG])
    refine bR [0,5,7,8,11,52] [901,22] (fun x:Nat×List Tm×Int=> [(10,nt .i64 A.length),(53,nt .i64 x.1),(12,.ref 901 0 x.2.1.length)]) (fun x:Nat×List Tm×Int=> [(901,aO false x.2.1),(22,bG false x.2.2)]) (fun x:Nat×List Tm×Int=>l.length - x.1) (fun x:Nat×List Tm×Int=>x.1≤l.length∧J7 q M x.2.1∧x.2.1.length≤x.1*5000∧0≤x.2.2∧x.2.2≤1000000∧aAb l f A (qB A (l.drop x.1) x.2.1 x.2.2)=V) ((0,[],lf)) (by refine Le.trans ?_ (Le.nil (i:=12) (T:=901) (es:=2) rfl);exact(Le.sub4 rfl (by simp[go_sem,bA,aZ,aO,bB,bG,List.map_nil,List.length_nil]))) ⟨?_⟩ ?_
    ·exact⟨Nat.zero_le _,fun t ht=>by simp at ht,by simp,h0,h1,hV⟩
    clear hV h0 h1
    intro⟨i,m,lf⟩ ⟨hi,hm,hml,h0,h1,hV⟩ AA hAA;simp only[kL,Nat.reduceBEq,Nat.reduceEqDiff,if_true,if_false,List.cons_append,List.nil_append,List.append_nil]
    dsimp only at*
    by_cases hil:i<l.length
    ·have hr:=hl _ (List.getElem_mem hil)
     rw[List.drop_eq_getElem_cons hil]at hV
     generalize hre:l[i]=r at*
     rw[cJq]at hV
     have hw:=cJf A r.body false lf hA hAl hr.2.2.1 (fun b hb=>(hr.2.2.2 b hb).2) h0 h1
     have hwk:=Z0 (M:=M) (B:=r.body) (k:=0) (W:= [[]]) hA (fun s hs=>by
      obtain rfl:=List.mem_singleton.1 hs
      exact⟨fun b hb=>by simp at hb,by simp⟩) (by simp) h0
     generalize gU A r.body [[]] lf=R at*
     obtain⟨W,l1⟩:=R
     dsimp only at*
     cases W with
     |none=>
      have hV:false=V:=hV
      subst hV
      have hw2:MCall prog 90 [.ptr 1000 0 0,.list false false (r.body.map bW),.ref 1001 0 A.length] [(1000,bG true lf),(1001,aO true A)] (fun r o'=>r= .tup [.list false true [],bl false]∧o'= [(1000,bG true l1),(1001,aO true A)]):=hw
      repeat' (first|(refine aC fun _ _=>?_)|refine zHg ?_|simp(disch:=omega) [go_sem,hil,hre,bA,aZ,aO,bB,bG])
      refine bC [(1000,22),(1001,900)] [(22,1000),(900,1001)] 20000 _ _ (Fits.mk' (by simp[go_sem,bA,aZ,aO,bB,bG]) (by simp[go_sem,bA,aZ,aO,bB,bG])) (by simp[go_sem,bA,aZ,aO,bB,bG]) (by simp[go_sem,bA,aZ,aO,bB,bG]) (hw2) (by simp[go_sem,bA,aZ,aO,bB,bG]) (by simp[go_sem,bA,aZ,aO,bB,bG]) ?_
      repeat' (first|(refine aC fun _ _=>?_)|refine zHg ?_|(refine aT [] ?_;simp[go_sem,hil,hre,bA,aZ,aO,bB,bG])|simp(disch:=omega) [go_sem,hil,hre,bA,aZ,aO,bB,bG])
     |some W=>
      obtain⟨w1,w2,w3⟩:=hwk
      obtain⟨w3,w4,w5⟩:=w3 W rfl
      have hV:aAb l f A (qB A (l.drop (i+1)) (m++oZ r.head W) l1)=V:=hV
      have hw2:MCall prog 90 [.ptr 1000 0 0,.list false false (r.body.map bW),.ref 1001 0 A.length] [(1000,bG true lf),(1001,aO true A)] (fun r o'=>r= .tup [.ref 1002 0 W.length,bl true]∧o'= [(1002,gW W),(1000,bG true l1),(1001,aO true A)]):=hw
      have hAC:=hAA
      repeat' (first|(refine aC fun _ _=>?_)|refine zHg ?_|simp(disch:=omega) [go_sem,hil,hre,bA,aZ,aO,bB,bG])
      refine bC [(1000,22),(1001,900)] [(22,1000),(900,1001)] 20000 _ _ (Fits.mk' (by simp[go_sem,bA,aZ,aO,bB,bG,gW]) (by simp[go_sem,bA,aZ,aO,bB,bG,gW])) (by simp[go_sem,bA,aZ,aO,bB,bG,gW]) (by simp[go_sem,bA,aZ,aO,bB,bG,gW]) (hw2) (by simp[go_sem,bA,aZ,aO,bB,bG,gW]) (by simp[go_sem,bA,aZ,aO,bB,bG,gW]) ?_
      repeat' (first|(refine aC fun _ _=>?_)|refine zHg ?_|simp(disch:=omega) [go_sem,hil,hre,bA,aZ,aO,bB,bG,gW])
      refine bR [0,5,7,8,10,11,13,14,52,53,70] [901] (fun z:Nat×List Tm=> [(71,nt .i64 z.1),(12,.ref 901 0 z.2.length)]) (fun z:Nat×List Tm=> [(901,aO false z.2)]) (fun z:Nat×List Tm=>W.length - z.1) (fun z:Nat×List Tm=>z.1≤W.length∧z.2=m++oZ r.head (W.take z.1)) ((0,m)) (Le.sub4 rfl (by simp[go_sem,bA,aZ,aO,bB,bG,gW])) ⟨?_⟩ ?_
      ·exact⟨Nat.zero_le _,by simp[oZ]⟩
      intro⟨k,m'⟩ ⟨hk,hm'⟩ AA hAA;simp only[kL,Nat.reduceBEq,Nat.reduceEqDiff,if_true,if_false,List.cons_append,List.nil_append,List.append_nil]
      dsimp only at*
      have hln:m'.length≤m.length+k:=by
       have h2:=cGt (h:=r.head) (W:=W.take k)
       rw[hm',List.length_append]
       rw[List.length_take]at h2
       omega
      by_cases hkl:k<W.length
      ·have hu:=cGz W[k] false false hq r.head hr.1
       have hmn:=cJn (h:=r.head) hkl
       generalize hs:W[k]=s at*
       generalize gL r.head s=y at*
       obtain⟨u,c⟩:=y
       dsimp only at*
       cases c
       ·repeat' (first|(refine aC fun _ _=>?_)|refine zHg ?_|refine cP rfl (hu) rfl (by simp) ?_|(refine(hAA.next ((k+1,m')) (Le.sub4 rfl (by simp[go_sem,bA,aZ,aO,bB,bG,gW])) (by(try dsimp only);omega) ?_))|simp(disch:=omega) [go_sem,hil,hre,hkl,hs,bA,aZ,aO,bB,bG,gW]|refine zDr 14 bE ?_|fail)
        all_goals(first|omega|skip)
        exact⟨hkl,by rw[hm',hmn];simp⟩
       ·repeat' (first|(refine aC fun _ _=>?_)|refine zHg ?_|refine cP rfl (hu) rfl (by simp) ?_|(refine(hAA.next ((k+1,m'++ [u])) (Le.sub4 rfl (by simp[go_sem,bA,aZ,aO,bB,bG,gW])) (by(try dsimp only);omega) ?_))|simp(disch:=omega) [go_sem,hil,hre,hkl,hs,bA,aZ,aO,bB,bG,gW]|refine zAo ?_|refine zDr 14 bE ?_|fail)
        all_goals(first|omega|skip)
        exact⟨hkl,by rw[hm',hmn];simp⟩
      ·obtain rfl:k=W.length:=by omega
       rw[List.take_length]at hm'
       repeat' (first|(refine aC fun _ _=>?_)|refine zHg ?_|(refine(hAC.next ((i+1,m',l1)) (Le.sub4 rfl (by simp[go_sem,bA,aZ,aO,bB,bG,gW])) (by(try dsimp only);omega) ?_))|simp(disch:=omega) [go_sem,bA,aZ,aO,bB,bG,gW])
       all_goals(first|omega|skip)
       refine⟨hil,fun u hu=>?_,by(try dsimp only);omega,w5,by(try dsimp only);omega,by rw[hm'];exact hV⟩
       rw[hm']at hu
       exact(List.mem_append.1 hu).elim (hm u) (cGs hr.1 hr.2.1 w3 u)
    ·obtain rfl:i=l.length:=by omega
     rw[List.drop_length,cJp]at hV
     have hV:rE l f A.length ((m++oC A).foldl gM A) lf=V:=hV
     repeat' (first|(refine aC fun _ _=>?_)|refine zHg ?_|simp(disch:=omega) [go_sem,bA,aZ,aO,bB,bG])
     refine bR [0,5,7,8,10,11,95] [901] (fun z:Nat×List Tm=> [(96,nt .i64 z.1),(12,.ref 901 0 z.2.length)]) (fun z:Nat×List Tm=> [(901,aO false z.2)]) (fun z:Nat×List Tm=>A.length - z.1) (fun z:Nat×List Tm=>z.1≤A.length∧z.2=m++oC (A.take z.1)) ((0,m)) (Le.sub4 rfl (by simp[go_sem,bA,aZ,aO,bB,bG])) ⟨?_⟩ ?_
     ·exact⟨Nat.zero_le _,by simp[oC]⟩
     intro⟨j,m'⟩ ⟨hj,hm'⟩ AA hAA;simp only[kL,Nat.reduceBEq,Nat.reduceEqDiff,if_true,if_false,List.cons_append,List.nil_append,List.append_nil]
     dsimp only at*
     have hln:m'.length≤m.length+j:=by
      have h2:=aG1 (A.take j)
      rw[hm',List.length_append]
      rw[List.length_take]at h2
      omega
     by_cases hjl:j<A.length
     ·have hen:=cJo hjl
      generalize hta:A[j]=t at*
      by_cases e1:t.args.length=1
      ·have e1': ¬t.args.length=2:=by omega
       by_cases e2:t.name=aGw
       ·have hx:jU t= [.mk zK t.args]:=by unfold jU;rw[if_pos ⟨e1,.inl e2⟩]
        repeat' (first|(refine aC fun _ _=>?_)|refine zHg ?_|(refine(hAA.next ((j+1,m'++ [.mk zK t.args])) (Le.sub4 rfl (by simp[go_sem,bA,aZ,aO,bB,bG])) (by(try dsimp only);omega) ?_))|simp(disch:=omega) [go_sem,hjl,hta,e1,e2,bA,aZ,aO,bB,bG]|refine zAo ?_|fail)
        all_goals(first|omega|skip)
        exact⟨hjl,by rw[hm',hen,hx];simp⟩
       ·by_cases e3:t.name=aGx
        ·have hx:jU t= [.mk zK t.args]:=by unfold jU;rw[if_pos ⟨e1,.inr e3⟩]
         repeat' (first|(refine aC fun _ _=>?_)|refine zHg ?_|(refine(hAA.next ((j+1,m'++ [.mk zK t.args])) (Le.sub4 rfl (by simp[go_sem,bA,aZ,aO,bB,bG])) (by(try dsimp only);omega) ?_))|simp(disch:=omega) [go_sem,hjl,hta,e1,e2,e3,bA,aZ,aO,bB,bG]|refine zAo ?_|fail)
         all_goals(first|omega|skip)
         exact⟨hjl,by rw[hm',hen,hx];simp⟩
        ·have hx:jU t= []:=by unfold jU;rw[if_neg (fun h=>h.2.elim e2 e3),if_neg (fun h=>e1' h.1)]
         repeat' (first|(refine aC fun _ _=>?_)|refine zHg ?_|(refine(hAA.next ((j+1,m')) (Le.sub4 rfl (by simp[go_sem,bA,aZ,aO,bB,bG])) (by(try dsimp only);omega) ?_))|simp(disch:=omega) [go_sem,hjl,hta,e1,e1',e2,e3,bA,aZ,aO,bB,bG])
         all_goals(first|omega|skip)
         exact⟨hjl,by rw[hm',hen,hx];simp⟩
      ·by_cases e2:t.args.length=2
       ·by_cases e3:t.name=aGy
        ·have hx:jU t= [.mk Y8 t.args]:=by unfold jU;rw[if_neg (fun h=>e1 h.1),if_pos ⟨e2,e3⟩]
         repeat' (first|(refine aC fun _ _=>?_)|refine zHg ?_|(refine(hAA.next ((j+1,m'++ [.mk Y8 t.args])) (Le.sub4 rfl (by simp[go_sem,bA,aZ,aO,bB,bG])) (by(try dsimp only);omega) ?_))|simp(disch:=omega) [go_sem,hjl,hta,e1,e2,e3,bA,aZ,aO,bB,bG]|refine zAo ?_|fail)
         all_goals(first|omega|skip)
         exact⟨hjl,by rw[hm',hen,hx];simp⟩
        ·have hx:jU t= []:=by unfold jU;rw[if_neg (fun h=>e1 h.1),if_neg (fun h=>e3 h.2)]
         repeat' (first|(refine aC fun _ _=>?_)|refine zHg ?_|(refine(hAA.next ((j+1,m')) (Le.sub4 rfl (by simp[go_sem,bA,aZ,aO,bB,bG])) (by(try dsimp only);omega) ?_))|simp(disch:=omega) [go_sem,hjl,hta,e1,e2,e3,bA,aZ,aO,bB,bG])
         all_goals(first|omega|skip)
         exact⟨hjl,by rw[hm',hen,hx];simp⟩
       ·have hx:jU t= []:=by unfold jU;rw[if_neg (fun h=>e1 h.1),if_neg (fun h=>e2 h.1)]
        repeat' (first|(refine aC fun _ _=>?_)|refine zHg ?_|(refine zgd ?_ ?_<;>(intro h;first|(exfalso;omega)|(simp only[h,zT])))|(refine(hAA.next ((j+1,m')) (Le.sub4 rfl (by simp[go_sem,bA,aZ,aO,bB,bG])) (by(try dsimp only);omega) ?_))|simp(disch:=omega) [go_sem,hjl,hta,e1,e2,bA,aZ,aO,bB,bG])
        all_goals(first|omega|skip)
        exact⟨hjl,by rw[hm',hen,hx];simp⟩
     ·obtain rfl:j=A.length:=by omega
      rw[List.take_length]at hm'
      rw[←hm']at hV
      have hX: ∀t∈m',eE q M t∧fP t≤2305843009213693952∧t.depth≤1000:=fun t h=>by
       rw[hm']at h
       have:=(List.mem_append.1 h).elim (hm t) (cGw hM hA t)
       exact⟨this.1,Nat.le_trans this.2.1 hBG,this.2.2⟩
      obtain⟨g,rfl⟩: ∃g,f=g+1:=⟨f - 1,by omega⟩
      generalize m'=X at*
      clear hm' hm
      repeat' (first|(refine aC fun _ _=>?_)|refine zHg ?_|simp(disch:=omega) [go_sem,bA,aZ,aO,bB,bG])
      refine bR [0,5,7,8,10,12,159] [7,23,900] (fun z:Nat=> [(160,nt .i64 z)]) (fun z:Nat=> [(7,bA false 900 (iX A X z).length),(23,aZ false (iX A X z)),(900,aO false (iX A X z))]) (fun z:Nat=>X.length - z) (fun z:Nat=>z≤X.length) (0) (Le.sub4 rfl (by simp[go_sem,bA,aZ,aO,bB,bG,aIf])) ⟨?_⟩ ?_
      ·exact Nat.zero_le _
      intro z hz AA hAA;simp only[kL,Nat.reduceBEq,Nat.reduceEqDiff,if_true,if_false,List.cons_append,List.nil_append,List.append_nil]
      by_cases hlt:z<X.length
      ·skip
       have hnx:=aIg (A:=A) hlt
       have hAl:=K7 (A:=A) (Nat.le_of_lt hlt)
       have hAo:mE q M (iX A X z):=zM hA fun u hu=>(hX u (List.mem_of_mem_take hu)).1
       have ht:=hX _ (List.getElem_mem hlt)
       generalize iX A X z=Z at*
       generalize hte:X[z]=t at*
       cases hh:nD Z t
       ·by_cases h4:t.depth≤4
        ·have hu:=aH7 hq Z t ht.1 (by omega) (by omega) (by omega) hh h4
         rw[aIe hh h4]at hnx
         repeat' (first|(refine aC fun _ _=>?_)|refine zHg ?_|simp(disch:=omega) [go_sem,hlt,hte,bA,aZ,aO,bB])
         refine bC [(1000,6),(1001,7),(1002,23),(1003,900)] [(6,1000),(7,1001),(23,1002),(900,1003)] 40000 _ _ (Fits.mk' (by simp[go_sem,cG,cW,bA,aZ,aO,bB]) (by simp[go_sem,cG,cW,bA,aZ,aO,bB])) (by simp[go_sem,cG,cW,bA,aZ,aO,bB]) (by simp[go_sem,cG,cW,bA,aZ,aO,bB]) (hu) (by simp[go_sem,cG,cW,bA,aZ,aO,bB]) (by simp[go_sem,cG,cW,bA,aZ,aO,bB]) ?_
         repeat' (first|refine zHg ?_|(refine(hAA.next (z+1) (Le.renSub [(41004,900),(900,41004)] [(900,41004),(41004,900)] (by simp[go_sem,hnx,bA,aZ,aO,bB,cW]) (by simp[go_sem,hnx,bA,aZ,aO,bB,cW]) (Le.sub4 rfl (by simp[go_sem,hnx,bA,aZ,aO,bB,cW]))) (by(try dsimp only);omega) ?_))|simp(disch:=omega) [go_sem,hlt,hte,bA,aZ,aO,bB,cW])
         all_goals(first|omega|skip)
         exact⟨hlt⟩
        ·have hu:=aH6 hq Z t ht.1 (by omega) (by omega) (by omega) hh h4
         rw[aId h4]at hnx
         repeat' (first|(refine aC fun _ _=>?_)|refine zHg ?_|simp(disch:=omega) [go_sem,hlt,hte,bA,aZ,aO,bB])
         refine bC [(1000,6),(1001,7),(1002,23),(1003,900)] [(6,1000),(7,1001),(23,1002),(900,1003)] 40000 _ _ (Fits.mk' (by simp[go_sem,cG,cW,bA,aZ,aO,bB]) (by simp[go_sem,cG,cW,bA,aZ,aO,bB])) (by simp[go_sem,cG,cW,bA,aZ,aO,bB]) (by simp[go_sem,cG,cW,bA,aZ,aO,bB]) (hu) (by simp[go_sem,cG,cW,bA,aZ,aO,bB]) (by simp[go_sem,cG,cW,bA,aZ,aO,bB]) ?_
         repeat' (first|refine zHg ?_|(refine(hAA.next (z+1) (Le.sub4 rfl (by simp[go_sem,hnx,bA,aZ,aO,bB,cG])) (by(try dsimp only);omega) ?_))|simp(disch:=omega) [go_sem,hlt,hte,bA,aZ,aO,bB,cG])
         all_goals(first|omega|skip)
         exact⟨hlt⟩
       ·have hu:=aH5 hq Z t ht.1 (by omega) (by omega) (by omega) hh
        rw[aIc hh]at hnx
        repeat' (first|(refine aC fun _ _=>?_)|refine zHg ?_|simp(disch:=omega) [go_sem,hlt,hte,bA,aZ,aO,bB])
        refine bC [(1000,6),(1001,7),(1002,23),(1003,900)] [(6,1000),(7,1001),(23,1002),(900,1003)] 40000 _ _ (Fits.mk' (by simp[go_sem,cG,cW,bA,aZ,aO,bB]) (by simp[go_sem,cG,cW,bA,aZ,aO,bB])) (by simp[go_sem,cG,cW,bA,aZ,aO,bB]) (by simp[go_sem,cG,cW,bA,aZ,aO,bB]) (hu) (by simp[go_sem,cG,cW,bA,aZ,aO,bB]) (by simp[go_sem,cG,cW,bA,aZ,aO,bB]) ?_
        repeat' (first|refine zHg ?_|(refine(hAA.next (z+1) (Le.sub4 rfl (by simp[go_sem,hnx,bA,aZ,aO,bB,cG])) (by(try dsimp only);omega) ?_))|simp(disch:=omega) [go_sem,hlt,hte,bA,aZ,aO,bB,cG])
        all_goals(first|omega|skip)
        exact⟨hlt⟩
      ·obtain rfl:z=X.length:=by omega
       have hAl2:=K7 (A:=A) (X:=X) (Nat.le_refl _)
       have hAo:=zM hA fun u hu=>(hX u hu).1
       rw[aIh]at*
       repeat' (first|(refine aC fun _ _=>?_)|refine zHg ?_|(refine(hAB.next ((g,A.length,X.foldl gM A,lf)) (Le.sub4 rfl (by simp[go_sem,bA,aZ,aO,bB,bG])) (by(try dsimp only);omega) ?_))|simp(disch:=omega) [go_sem,bA,aZ,aO,bB,bG])
       all_goals(first|omega|skip)
       exact⟨by(try dsimp only);omega,by(try dsimp only);omega,by(try dsimp only);omega,hAo,by(try dsimp only);omega,h0,h1,hV⟩
   ·rw[aIi (fun h=>c2 (by omega)),decide_eq_false (fun h=>c2 (by omega))]at hV
    subst hV
    repeat' (first|(refine aC fun _ _=>?_)|refine zHg ?_|(refine aT [] ?_;simp[go_sem,c1,c2,bA,aZ,aO,bB,bG])|simp(disch:=omega) [go_sem,c1,c2,bA,aZ,aO,bB,bG])
  ·rw[aIi (fun h=>c1 h.1)]at hV
   by_cases c2:A.length≤1000
   ·rw[decide_eq_true c2]at hV
    subst hV
    have c3:(A.length:Int)≤1000:=by omega
    repeat' (first|(refine aC fun _ _=>?_)|refine zHg ?_|(refine aT [] ?_;simp[go_sem,c1,c3,bA,aZ,aO,bB,bG])|simp(disch:=omega) [go_sem,c1,c3,bA,aZ,aO,bB,bG])
   ·rw[decide_eq_false c2]at hV
    subst hV
    have c3: ¬(A.length:Int)≤1000:=by omega
    repeat' (first|(refine aC fun _ _=>?_)|refine zHg ?_|(refine aT [] ?_;simp[go_sem,c1,c3,bA,aZ,aO,bB,bG])|simp(disch:=omega) [go_sem,c1,c3,bA,aZ,aO,bB,bG])
set_option maxHeartbeats 8000000
mutual
def rK (M:Nat):Tm→Prop
 | .mk n ts=>n.size≤M∧wK M ts
def wK (M:Nat):List Tm→Prop
 | []=>True
 |t::ts=>rK M t∧wK M ts
end
theorem aAc {M:Nat}: ∀{l:List Tm},wK M l↔ ∀t∈l,rK M t
 | []=>by simp[wK]
 |t::r=>by rw[wK,aAc];simp
theorem aIj {M:Nat}: ∀t:Tm,rK M t→t.size≤20→eE 19 M t:=by
 refine dS fun t ih h hz=>?_
 obtain⟨n,ts⟩:=t
 simp only[cT]at ih
 rw[rK]at h
 rw[iA,cT]at hz
 have:=sG ts
 refine pV.2 ⟨h.1,by omega,uE.2 fun u hu=>ih u hu (aAc.1 h.2 u hu) ?_⟩
 have:=G8 hu
 omega
def nmR (M:Nat) (r:Rl):Prop:=rK M r.head∧ ∀b∈r.body,rK M b.atom
def qE (r:Rl):Bool:=qY 20 r.head&&(decide (r.body.length≤8)&&r.body.all fun b=>qY 20 b.atom)
def pC (m:Int) (l:List Rl):Bool:=decide ((l.length:Int)≤m)&&(l.all qE&&J6 l [])
theorem cJt {M:Nat} {r:Rl} (hn:nmR M r) (h:qE r=true):okR 19 M r:=by
 unfold qE at h
 rw[Bool.and_eq_true,Bool.and_eq_true,decide_eq_true_eq,List.all_eq_true]at h
 obtain⟨h1,h2,h3⟩:=h
 have z1:r.head.size≤20:=by have:=G9 (by decide) h1;omega
 refine⟨aIj _ hn.1 z1,z1,h2,fun b hb=>?_⟩
 have z2:b.atom.size≤20:=by have:=G9 (by decide) (h3 b hb);omega
 exact⟨aIj _ (hn.2 b hb) z2,z2⟩
theorem cJu {M:Nat} (hM:5≤M) (hBG:BG 19 M≤2305843009213693952) (l:List Rl) (fu:Bool) (m:Int) (hm:0≤m∧m≤100) (hn: ∀r∈l,nmR M r) (hbl:l.length≤140737488355328) (hbb: ∀r∈l,r.body.length≤140737488355328):
 ACall prog 19 [.list false fu (l.map bN),nt .i64 m] (fun r=>r=bl (pC m l)):=by
 by_cases hlm:m<(l.length:Int)
 ·have e:pC m l=false:=by unfold pC;rw[decide_eq_false (by omega),Bool.false_and]
  rw[e]
  refine bD func19 call19 rfl (by simp[ntmps19]) ?_;simp only[ntmps19,results19]
  repeat' (first|(refine aC fun _ _=>?_)|refine zHg ?_|(refine aT [] ?_;simp[go_sem,hlm])|simp(disch:=omega) [go_sem,hlm])
 ·generalize hV:pC m l=V
  unfold pC at hV
  rw[decide_eq_true (by omega),Bool.true_and]at hV
  refine bD func19 call19 rfl (by simp[ntmps19]) ?_;simp only[ntmps19,results19]
  repeat' (first|(refine aC fun _ _=>?_)|refine zHg ?_|simp(disch:=omega) [go_sem,hlm])
  refine bR [0,12] [] (fun i:Nat=> [(13,nt .i64 i)]) (fun i:Nat=> []) (fun i:Nat=>l.length - i) (fun i:Nat=>i≤l.length∧ ∀(k:Nat) (hk:k<l.length),k<i→qE l[k]=true) (0) (Le.sub4 rfl (by simp[go_sem])) ⟨?_⟩ ?_
  ·exact⟨Nat.zero_le _,fun k _ hk=>absurd hk (Nat.not_lt_zero _)⟩
  intro i ⟨hi,hs⟩ AA hAA;simp only[kL,Nat.reduceBEq,Nat.reduceEqDiff,if_true,if_false,List.cons_append,List.nil_append,List.append_nil]
  by_cases hlt:i<l.length
  ·have hb8:=hbb _ (List.getElem_mem hlt)
   have hbad:qE l[i]=false→V=false:=fun h=>by
    rw[←hV,Bool.and_eq_false_iff]
    refine .inl ?_
    rw[List.all_eq_false]
    exact⟨l[i],List.getElem_mem hlt,by rw[h];simp⟩
   have hgo:qE l[i]=true→ ∀(k:Nat) (hk:k<l.length),k<i+1→qE l[k]=true:=fun h k hk hki=>by
    rcases Nat.lt_or_eq_of_le (Nat.le_of_lt_succ hki)with h'|rfl
    ·exact hs k hk h'
    ·exact h
   have h1:=aE1 l[i].head 20 (by decide)
   have hAB:=hAA
   clear hV hs
   generalize hre:l[i]=r at*
   unfold qE at hbad hgo
   cases q1:qY 20 r.head
   ·rw[q1]at h1 hbad
    obtain rfl:=hbad rfl
    repeat' (first|(refine aC fun _ _=>?_)|refine zHg ?_|(refine aT [] ?_;simp[go_sem,hlt,hre])|refine aP rfl (h1) (by simp) ?_|simp(disch:=omega) [go_sem,hlt,hre])
   ·rw[q1]at h1 hbad hgo
    by_cases q2:r.body.length≤8
    ·rw[decide_eq_true q2,Bool.true_and,Bool.true_and]at hbad hgo
     have q2': ¬(8:Int)<r.body.length:=by omega
     repeat' (first|(refine aC fun _ _=>?_)|refine zHg ?_|refine aP rfl (h1) (by simp) ?_|simp(disch:=omega) [go_sem,hlt,hre,q2'])
     refine bR [0,5,12,13,37] [] (fun k:Nat=> [(38,nt .i64 k)]) (fun k:Nat=> []) (fun k:Nat=>r.body.length - k) (fun k:Nat=>k≤r.body.length∧ ∀(j:Nat) (hj:j<r.body.length),j<k→qY 20 r.body[j].atom=true) (0) (Le.sub4 rfl (by simp[go_sem])) ⟨?_⟩ ?_
     ·exact⟨Nat.zero_le _,fun k _ hk=>absurd hk (Nat.not_lt_zero _)⟩
     intro k ⟨hk,hs⟩ AA hAA;simp only[kL,Nat.reduceBEq,Nat.reduceEqDiff,if_true,if_false,List.cons_append,List.nil_append,List.append_nil]
     by_cases hkl:k<r.body.length
     ·have h2:=aE1 r.body[k].atom 20 (by decide)
      cases q3:qY 20 r.body[k].atom
      ·rw[q3]at h2
       obtain rfl:=hbad (List.all_eq_false.2 ⟨_,List.getElem_mem hkl,by rw[q3];simp⟩)
       generalize hbe:r.body[k]=b at*
       repeat' (first|(refine aC fun _ _=>?_)|refine zHg ?_|(refine aT [] ?_;simp[go_sem,hlt,hre,hkl,hbe])|refine aP rfl (h2) (by simp) ?_|simp(disch:=omega) [go_sem,hlt,hre,hkl,hbe])
      ·rw[q3]at h2
       have hs': ∀(j:Nat) (hj:j<r.body.length),j<k+1→qY 20 r.body[j].atom=true:=fun j hj hjk=>by
        rcases Nat.lt_or_eq_of_le (Nat.le_of_lt_succ hjk)with h'|rfl
        ·exact hs j hj h'
        ·exact q3
       clear hs
       generalize hbe:r.body[k]=b at*
       repeat' (first|(refine aC fun _ _=>?_)|refine zHg ?_|refine aP rfl (h2) (by simp) ?_|(refine(hAA.next (k+1) (Le.sub4 rfl (by simp[go_sem])) (by(try dsimp only);omega) ?_))|simp(disch:=omega) [go_sem,hlt,hre,hkl,hbe])
       all_goals(first|omega|skip)
       exact⟨hkl,hs'⟩
     ·obtain rfl:k=r.body.length:=by omega
      have hall:=hgo (List.all_eq_true.2 fun b hb=>by
       obtain⟨j,hj,rfl⟩:=List.mem_iff_getElem.1 hb
       exact hs j hj hj)
      repeat' (first|(refine aC fun _ _=>?_)|refine zHg ?_|(refine(hAB.next (i+1) (Le.sub4 rfl (by simp[go_sem])) (by(try dsimp only);omega) ?_))|simp(disch:=omega) [go_sem,hlt,hre])
      all_goals(first|omega|skip)
      exact⟨hlt,hall⟩
    ·rw[decide_eq_false q2,Bool.false_and,Bool.true_and]at hbad
     obtain rfl:=hbad rfl
     have q2':(8:Int)<r.body.length:=by omega
     repeat' (first|(refine aC fun _ _=>?_)|refine zHg ?_|(refine aT [] ?_;simp[go_sem,hlt,hre,q2'])|refine aP rfl (h1) (by simp) ?_|simp(disch:=omega) [go_sem,hlt,hre,q2'])
  ·obtain rfl:i=l.length:=by omega
   have hall:l.all qE=true:=List.all_eq_true.2 fun r hr=>by
    obtain⟨k,hk,rfl⟩:=List.mem_iff_getElem.1 hr
    exact hs k hk hk
   rw[hall,Bool.true_and]at hV
   have hL:=cJs (q:=19) (by decide) hM hBG l [] fu false true (fun r hr=>cJt (hn r hr) (List.all_eq_true.1 hall r hr)) (by omega) (fun t ht=>by simp at ht) (by simp)
   rw[hV]at hL
   simp only[List.map_nil]at hL
   clear hV hs hall
   repeat' (first|(refine aC fun _ _=>?_)|refine zHg ?_|(refine aT [] ?_;simp[go_sem])|refine aP rfl (hL) (by simp) ?_|simp(disch:=omega) [go_sem])
open Go.Ab Go.ChangeShapes Go.WideShapes Go.ChangeAt Go.RowKit
theorem own:ownKnob prog.godebug=none:=by kernel_rfl
theorem cOy:Kids prog (· <prog.types.size):=kids_rows (by kernel_rfl) (by kernel_rfl)
theorem iY: ∀t e,t<prog.types.size→prog.underlying t=some (.slice e)→0<prog.cellsOf e:=slices_full_of prog (by kernel_rfl)
def zO (r:Rl):Prop:=nmR reachBytes r∧r.body.length≤dC
section
variable {H : Type} {enc : TypeId × Value → H} {W : World}
theorem aAe: ∀n:Nat,Came enc prog W n 24 eT (rK reachBytes)∧Came enc prog W n 22 (fun l:List Tm=> .list false false (l.map bO)) (wK reachBytes)
 |0=>⟨Came.zero,Came.zero⟩
 |n+1=>by
  obtain⟨h1,h2⟩:=aAe n
  refine⟨(Came.struct underlying24 rfl (by kernel_rfl) (CameF.cons 1 rfl (by kernel_rfl) (Came.string underlying9) (CameF.cons 1 rfl (by kernel_rfl) h2 CameF.nil))).map (fun x=>Tm.mk x.1 x.2.1) (fun x h=>⟨⟨h.1,h.2.1⟩,rfl⟩),?_⟩
  refine(Came.slice underlying22 (by decide+kernel) (by decide+kernel) h1).map (fun x=>x) (fun x h=>⟨aAc.2 h.1,?_⟩)
  congr 1
  exact List.map_congr_left fun t _=>G7 t
theorem cJv: ∀n:Nat,Came enc prog W n 46 bW (fun b=>rK reachBytes b.atom)
 |0=>Came.zero
 |n+1=>(Came.struct underlying46 rfl (by kernel_rfl) (CameF.cons 1 rfl (by kernel_rfl) (Came.bool underlying4) (CameF.cons 2 rfl (by kernel_rfl) (aAe n).1 CameF.nil))).map (fun x=>(⟨x.1,x.2.1⟩:Lt)) (fun x h=>⟨h.2.1,rfl⟩)
theorem cJw: ∀n:Nat,Came enc prog W n 25 (fun l:List Lt=> .list false false (l.map bW)) (fun l=>(∀b∈l,rK reachBytes b.atom)∧l.length≤dC)
 |0=>Came.zero
 |n+1=>((Came.slice underlying25 (by decide+kernel) (by decide+kernel) (cJv n)).len).map (fun x=>x) (fun x h=>⟨⟨h.1.1,h.2⟩,rfl⟩)
theorem cOz: ∀n:Nat,Came enc prog W n 27 bN zO
 |0=>Came.zero
 |n+1=>(Came.struct underlying27 rfl (by kernel_rfl) (CameF.cons 2 rfl (by kernel_rfl) (aAe n).1 (CameF.cons 1 rfl (by kernel_rfl) (cJw n) CameF.nil))).map (fun x=>(⟨x.1,x.2.1⟩:Rl)) (fun x h=>⟨⟨⟨h.1,h.2.1.1⟩,h.2.1.2⟩,rfl⟩)
end
open Go.Ab Go.RowKit
set_option maxRecDepth 100000
set_option maxHeartbeats 8000000
theorem cJx {m:Int} {l:List Rl} (h:pC m l=true): ∀r∈l,SzR r:=by
 intro r hr
 unfold pC at h
 rw[Bool.and_eq_true,Bool.and_eq_true,List.all_eq_true]at h
 have h1:=h.2.1 r hr
 unfold qE at h1
 rw[Bool.and_eq_true,Bool.and_eq_true,decide_eq_true_eq,List.all_eq_true]at h1
 obtain⟨a1,a2,a3⟩:=h1
 exact⟨by have:=G9 (by decide) a1;omega,by omega,fun b hb=>by have:=G9 (by decide) (a3 b hb);omega⟩
theorem cJy (l:List Rl) (fu:Bool) (h: ∀r∈l,zO r) (hl:l.length≤dC):ACall prog 19 [.list false fu (l.map bN),nt .i64 12] (fun r=>r=bl (pC 12 l)):=
 cJu (M:=reachBytes) (by decide) (by decide+kernel) l fu 12 ⟨by decide,by decide⟩ (fun r hr=>(h r hr).1) hl (fun r hr=>(h r hr).2)
theorem cJz (l:List Rl) (fu:Bool) (h: ∀r∈l,zO r) (hl:l.length≤dC):ACall prog 10 [.list false fu (l.map bN)] (fun r=>r=bl (pC 12 l)):=by
 have h1:=cJy l fu h hl
 generalize pC 12 l=q at*
 refine bD func10 call10 rfl (by simp[ntmps10]) ?_;simp only[ntmps10,results10]
 repeat' (first|(refine aC fun _ _=>?_)|refine zHg ?_|(refine aT [] ?_;simp[go_sem])|refine aP rfl (h1) (by simp) ?_|simp(disch:=omega) [go_sem])
theorem cJ0 {l:List Rl} (h:l.length≤12) (i:Nat):(eM l i).length≤12:=by
 have key: ∀(q O:List Rl),(q.foldl fI O).length≤O.length+q.length:=by
  intro q
  induction q with
  |nil=>intro O;simp
  |cons y q ih=>
   intro O
   have h1:=ih (fI O y)
   have h2:(fI O y).length≤O.length+1:=by unfold fI;split<;>simp
   simp only[List.foldl_cons,List.length_cons]
   omega
 have:=key ((l.take i).map eU) []
 rw[List.length_map,List.length_take,List.length_nil]at this
 unfold eM
 omega
theorem ACall.looser {P:Program} [Glob P] {f:FuncId} {xs bs:List AV} {R:AV→Prop} (h:ACall P f xs R) (e:xs=bs.map loose):ACall P f bs R:=by
 subst e
 exact h.args (by simp) fun F i a b v ha hb hv=>by
  rw[List.getElem?_map,hb]at ha
  obtain rfl:=Option.some.inj ha
  exact hv.loose
def kV (l:List Lt) (t i:Nat):List Lt:=(List.range i).map fun k=>l.getD ((k+t) % l.length) ⟨false,.mk ⟨#[]⟩ []⟩
theorem aAf (l:List Lt) (t i:Nat):(kV l t i).length=i:=by unfold kV;simp
theorem cJ1 {l:List Lt} {t i:Nat} (h:(i+t) % l.length<l.length):kV l t (i+1)=kV l t i++ [l[(i+t) % l.length]]:=by
 unfold kV
 rw[List.range_succ,List.map_append,List.map_singleton,List.getD_eq_getElem?_getD,List.getElem?_eq_getElem h]
 rfl
theorem aAg {l:List Lt} {t:Nat} (h0:0<l.length) (x:Lt):x∈kV l t l.length↔x∈l:=by
 unfold kV
 rw[List.mem_map]
 constructor
 ·rintro⟨k,hk,rfl⟩
  have h:=Nat.mod_lt (k+t) h0
  rw[List.getD_eq_getElem?_getD,List.getElem?_eq_getElem h]
  exact List.getElem_mem h
 ·intro hx
  obtain⟨j,hj,rfl⟩:=List.mem_iff_getElem.1 hx
  refine⟨(j+(l.length - t % l.length)) % l.length,List.mem_range.2 (Nat.mod_lt _ h0),?_⟩
  have ht:=Nat.mod_lt t h0
  have e:((j+(l.length - t % l.length)) % l.length+t) % l.length=j:=by
   rw[Nat.mod_add_mod]
   have e2:t=l.length*(t / l.length)+t % l.length:=(Nat.div_add_mod t l.length).symm
   have e3:j+(l.length - t % l.length)+t=j+l.length*(t / l.length+1):=by
    rw[Nat.mul_add,Nat.mul_one]
    omega
   rw[e3,Nat.add_mul_mod_self_left,Nat.mod_eq_of_lt hj]
  rw[e,List.getD_eq_getElem?_getD,List.getElem?_eq_getElem hj]
  rfl
theorem cJ2 (l:List Lt) (t:Nat):kV l t 0= []:=rfl
def mG (l:List Lt) (t:Nat):List Lt:=if h:0<l.length∧l.length<8 then kV l t l.length++ [(kV l t l.length)[t % l.length]'(by rw[aAf];exact Nat.mod_lt _ h.1)]else kV l t l.length
theorem cJ3 (l:List Lt) (t:Nat) (b:Lt):b∈mG l t↔b∈l:=by
 unfold mG
 split
 ·rename_i h
  rw[List.mem_append,List.mem_singleton,aAg h.1]
  constructor
  ·rintro(h1|rfl)
   ·exact h1
   ·exact(aAg h.1 _).1 (List.getElem_mem _)
  ·exact .inl
 ·rcases Nat.eq_zero_or_pos l.length with h0|h0
  ·have:=List.eq_nil_of_length_eq_zero h0
   subst this
   exact Iff.rfl
  ·exact aAg h0 b
theorem cJ4 (l:List Lt) (t:Nat) (h:l.length≤8):(mG l t).length≤8:=by
 unfold mG
 split
 ·rename_i h;rw[List.length_append,aAf];simp;omega
 ·rw[aAf];exact h
theorem cJ5 (l:List Lt) (t:Nat) (h:l.length=0):mG l t= []:=by
 have:=List.eq_nil_of_length_eq_zero h
 subst this;rfl
theorem cJ6 (l:List Lt) (t:Nat) (h: ¬l.length<8):mG l t=kV l t l.length:=by
 unfold mG
 rw[dif_neg (fun hh=>h hh.2)]
theorem cJ7 (l:List Lt) (t:Nat) (h0:0<l.length) (h:l.length<8) (hj:t % l.length<(kV l t l.length).length):mG l t=kV l t l.length++ [(kV l t l.length)[t % l.length]]:=by
 unfold mG
 rw[dif_pos ⟨h0,h⟩]
theorem cJ8 (haw:ACall prog 11 [] (fun r=>r=bl true)) (r:Rl) (t:Nat) (ht:t≤255) (hs:ACall prog 10 [.list false false [bN r]] (fun r=>r=bl true)) (H:Tm) (B:List Lt) (hp8:B.length≤8) (x:Rl)
 (h1:ACall prog 14 [bN r] (fun v=>v= .tup [bN x,nt .i64 0])) (h2:ACall prog 22 [bN r,.sc (.string ⟨#[87]⟩)] (fun v=>v= .tup [bN ⟨H,B⟩,bl true]))
 (h6:ACall prog 18 [bN x,bN x] (fun v=>v=bl true)) (kA:ACall prog 14 [bN ⟨H,mG B t⟩] (fun v=>v= .tup [bN x,nt .i64 0]))
 (kB:ACall prog 16 [bN r,bN ⟨H,mG B t⟩] (fun v=>v= .tup [bl true,nt .i64 0])):
 ACall prog 6 [bN r,nt .u8 t] (fun v=>v=bl true):=by
 have hzr:=cJ2 B t
 have hrm: ∀i:Nat,((i:Int)+t).tmod B.length=(((i+t) % B.length:Nat):Int):=fun i=>by
  rw[←Int.natCast_add,←Int.ofNat_tmod]
 have hr0:(t:Int).tmod B.length=((t % B.length:Nat):Int):=by rw[←Int.ofNat_tmod]
 have hoz:=cJ5 B t
 have hos:=cJ7 B t
 refine bD func6 call6 rfl (by simp[ntmps6]) ?_;simp only[ntmps6,results6]
 repeat' (first|(refine aC fun _ _=>?_)|refine zHg ?_|simp(disch:=omega) [go_sem])
 refine vF [16] _ rfl rfl (hs) (by simp) ?_;rintro _ rfl
 clear hs
 repeat' (first|(refine aC fun _ _=>?_)|refine zHg ?_|refine aP rfl (h1) (by simp) ?_|refine aP rfl (h2) (by simp) ?_|simp(disch:=omega) [go_sem])
 refine bR [1,2,5,7,9] [5,7,9,900,16] (fun y:Nat×List Lt=> [(10,nt .i64 y.1)]) (fun y:Nat×List Lt=>(5,⟨false,false,false,3,[.agg [.sc (.string x.head.name),.list false false (x.head.args.map bO),.list false false (x.body.map bW)]],0⟩)::(7,⟨false,true,false,3,[.agg [.sc (.string H.name),.list false false (H.args.map bO),.list false false (B.map bW)]],0⟩)::(9,⟨false,false,false,3,[.agg [.sc (.string H.name),.list false false (H.args.map bO),if y.2.length=0 then .list false true []else .ref 900 0 y.2.length]],0⟩)::(if y.2.length=0 then[]else[(900,⟨true,false,false,3,y.2.map bW,0⟩)])) (fun y:Nat×List Lt=>B.length - y.1) (fun y:Nat×List Lt=>y.1≤B.length∧y.2.length=y.1∧y.2=kV B t y.1) ((0,[])) (by refine Le.trans ?_ (Le.frz 7 rfl (by show(0:Nat)≠1;decide));exact(Le.sub4 rfl (by simp[go_sem]))) ⟨?_⟩ ?_
 ·exact⟨Nat.zero_le _,rfl,rfl⟩
 intro⟨i,a⟩ ⟨hi,ha,hinv⟩ AA hAA;simp only[kL,Nat.reduceBEq,Nat.reduceEqDiff,if_true,if_false,List.cons_append,List.nil_append,List.append_nil]
 dsimp only at hi ha hinv ⊢
 by_cases hlt:i<B.length
 ·have hmi:=Nat.mod_lt (i+t) (Nat.lt_of_le_of_lt (Nat.zero_le _) hlt)
  have hnx:=cJ1 (l:=B) (t:=t) (i:=i) hmi
  rw[←hinv]at hnx
  have hri:=hrm i
  have hn0: ¬(B.length:Int)=0:=by omega
  have hne: ¬B= []:=fun h=>by rw[h]at hlt;simp at hlt
  clear h1 h2 h6 hrm kA kB hoz
  by_cases h00:i=0
  ·subst h00
   obtain rfl:=List.eq_nil_of_length_eq_zero ha
   rw[List.nil_append]at hnx
   simp only[Nat.zero_add]at hnx hmi
   generalize hbj:B[t % B.length]=bj at*
   clear hri
   generalize t % B.length=j at*
   repeat' (first|(refine aC fun _ _=>?_)|refine zHg ?_|(refine(hAA.next ((0+1,[bj])) (Le.renSub [(61,900)] [(900,61)] (by simp[go_sem]) (by simp[go_sem]) (Le.sub4 rfl (by simp[go_sem]))) (by(try dsimp only);omega) ?_))|simp(disch:=omega) [go_sem,hlt,hr0,hn0,hne,hmi,hbj]|refine zAny bE ?_|refine gH ?_|refine zDone ?_|refine bI 0 rfl (by decide+kernel) (by decide+kernel) rfl rfl rfl ?_|refine bI 2 rfl (by decide+kernel) (by decide+kernel) rfl rfl rfl ?_|refine bI 3 rfl (by decide+kernel) (by decide+kernel) rfl rfl rfl ?_|refine bI 4 rfl (by decide+kernel) (by decide+kernel) rfl rfl rfl ?_|refine bI 5 rfl (by decide+kernel) (by decide+kernel) rfl rfl rfl ?_|refine bI 6 rfl (by decide+kernel) (by decide+kernel) rfl rfl rfl ?_|refine bI 7 rfl (by decide+kernel) (by decide+kernel) rfl rfl rfl ?_|refine bI 8 rfl (by decide+kernel) (by decide+kernel) rfl rfl rfl ?_|refine bI 9 rfl (by decide+kernel) (by decide+kernel) rfl rfl rfl ?_|refine bI 10 rfl (by decide+kernel) (by decide+kernel) rfl rfl rfl ?_|refine bI 11 rfl (by decide+kernel) (by decide+kernel) rfl rfl rfl ?_|refine bI 12 rfl (by decide+kernel) (by decide+kernel) rfl rfl rfl ?_|refine bI 13 rfl (by decide+kernel) (by decide+kernel) rfl rfl rfl ?_|refine bI 16 rfl (by decide+kernel) (by decide+kernel) rfl rfl rfl ?_|(refine zAll ?_;show eN _ _ _ _ _ _ _)|exact gI|refine zSkip ?_|refine gJ rfl ?_ ?_)
   all_goals(first|omega|skip)
   all_goals exact⟨hlt,rfl,hnx.symm⟩
  ·generalize hbj:B[(i+t) % B.length]=bj at*
   generalize(i+t) % B.length=j at*
   clear hr0
   repeat' (first|(refine aC fun _ _=>?_)|refine zHg ?_|(refine(hAA.next ((i+1,a++ [bj])) (Le.sub4 rfl (by simp[go_sem,ha])) (by(try dsimp only);omega) ?_))|simp(disch:=omega) [go_sem,hlt,hri,hn0,hne,hmi,ha,h00,hbj]|refine zAo ?_|refine zAny bE ?_|refine gH ?_|refine zDone ?_|refine bI 0 rfl (by decide+kernel) (by decide+kernel) rfl rfl rfl ?_|refine bI 2 rfl (by decide+kernel) (by decide+kernel) rfl rfl rfl ?_|refine bI 3 rfl (by decide+kernel) (by decide+kernel) rfl rfl rfl ?_|refine bI 4 rfl (by decide+kernel) (by decide+kernel) rfl rfl rfl ?_|refine bI 5 rfl (by decide+kernel) (by decide+kernel) rfl rfl rfl ?_|refine bI 6 rfl (by decide+kernel) (by decide+kernel) rfl rfl rfl ?_|refine bI 7 rfl (by decide+kernel) (by decide+kernel) rfl rfl rfl ?_|refine bI 8 rfl (by decide+kernel) (by decide+kernel) rfl rfl rfl ?_|refine bI 9 rfl (by decide+kernel) (by decide+kernel) rfl rfl rfl ?_|refine bI 10 rfl (by decide+kernel) (by decide+kernel) rfl rfl rfl ?_|refine bI 11 rfl (by decide+kernel) (by decide+kernel) rfl rfl rfl ?_|refine bI 12 rfl (by decide+kernel) (by decide+kernel) rfl rfl rfl ?_|refine bI 13 rfl (by decide+kernel) (by decide+kernel) rfl rfl rfl ?_|refine bI 16 rfl (by decide+kernel) (by decide+kernel) rfl rfl rfl ?_|(refine zAll ?_;show eN _ _ _ _ _ _ _)|exact gI|refine zSkip ?_|refine gJ rfl ?_ ?_)
   all_goals(first|omega|skip)
   all_goals exact⟨hlt,by simp[ha],hnx.symm⟩
 ·obtain rfl:i=B.length:=by omega
  have hlenT:True:=trivial
  clear hrm h1 h2 hzr
  by_cases h00:B.length=0
  ·obtain rfl:=List.eq_nil_of_length_eq_zero (ha.trans h00)
   rw[hoz h00]at kA kB
   have kA':=ACall.looser kA (bs:= [.agg [.sc (.string H.name),.list false false (H.args.map bO),.list false true []]]) rfl
   have kB':=ACall.looser kB (bs:= [bN r,.agg [.sc (.string H.name),.list false false (H.args.map bO),.list false true []]]) rfl
   clear kA kB hos hr0
   repeat' (first|(refine aC fun _ _=>?_)|refine zHg ?_|(refine aT [] ?_;simp[go_sem,h00])|refine aP rfl (kA') (by simp) ?_|refine aP rfl (kB') (by simp) ?_|refine aP rfl (h6) (by simp) ?_|refine aP rfl (haw) (by simp) ?_|simp(disch:=omega) [go_sem,h00])
  ·have hmt:=Nat.mod_lt t (Nat.pos_of_ne_zero h00)
   have hn0: ¬(B.length:Int)=0:=by omega
   have hne: ¬B= []:=fun h=>h00 (by rw[h];rfl)
   by_cases h8:B.length<8
   ·have hj0:t % B.length<a.length:=by omega
    obtain⟨bj,hbj,hoo⟩: ∃bj,a[t % B.length]=bj∧mG B t=a++ [bj]:=⟨_,rfl,by
     subst hinv
     exact hos (Nat.pos_of_ne_zero h00) h8 hj0⟩
    rw[hoo]at kA kB
    clear hos hoz hoo hinv
    generalize t % B.length=j at*
    have hj:j<a.length:=hj0
    repeat' (first|(refine aC fun _ _=>?_)|refine zHg ?_|((first|refine zqd ?_ ?_|refine zgd ?_ ?_)<;>(intro h;first|(exfalso;omega)|(simp only[h,zT])))|simp(disch:=omega) [go_sem,hlenT,hr0,hn0,hne,h00,h8,ha,hj,hbj]|refine zAo ?_|refine zAny bE ?_|refine gH ?_|refine zDone ?_|refine bI 0 rfl (by decide+kernel) (by decide+kernel) rfl rfl rfl ?_|refine bI 2 rfl (by decide+kernel) (by decide+kernel) rfl rfl rfl ?_|refine bI 4 rfl (by decide+kernel) (by decide+kernel) rfl rfl rfl ?_|refine bI 5 rfl (by decide+kernel) (by decide+kernel) rfl rfl rfl ?_|refine bI 6 rfl (by decide+kernel) (by decide+kernel) rfl rfl rfl ?_|refine bI 8 rfl (by decide+kernel) (by decide+kernel) rfl rfl rfl ?_|refine bI 9 rfl (by decide+kernel) (by decide+kernel) rfl rfl rfl ?_|refine bI 10 rfl (by decide+kernel) (by decide+kernel) rfl rfl rfl ?_|refine bI 14 rfl (by decide+kernel) (by decide+kernel) rfl rfl rfl ?_|(refine zAll ?_;show eN _ _ _ _ _ _ _)|exact gI|refine zSkip ?_|refine gJ rfl ?_ ?_)
    all_goals(first|omega|skip)
    all_goals(
     refine vF [900] _ rfl ?hl kA (by simp) ?_
     case hl=>simp[go_sem,ha,h00]
     rintro _ rfl
     repeat' (first|(refine aC fun _ _=>?_)|refine zHg ?_|(refine aT [] ?_;simp[go_sem,hlenT,hn0,h00,ha])|refine aP rfl (h6) (by simp) ?_|refine aP rfl (haw) (by simp) ?_|(refine aP ?hl (kB) (by simp) ?_;(case hl=>(simp[go_sem,hlenT,hn0,h00,ha];done)))|((simp(disch:=omega) [go_sem,hlenT,hn0,h00,ha]))))
   ·have hoo:mG B t=a:=by rw[hinv];exact cJ6 B t h8
    rw[hoo]at kA kB
    clear hos hoz hoo hinv
    repeat' (first|(refine aC fun _ _=>?_)|refine zHg ?_|((first|refine zqd ?_ ?_|refine zgd ?_ ?_)<;>(intro h;first|(exfalso;omega)|(simp only[h,zT])))|simp(disch:=omega) [go_sem,hlenT,hr0,hn0,hne,h00,h8,ha])
    refine vF [900] _ rfl ?hl kA (by simp) ?_
    case hl=>simp[go_sem,ha,h00]
    rintro _ rfl
    repeat' (first|(refine aC fun _ _=>?_)|refine zHg ?_|(refine aT [] ?_;simp[go_sem,hlenT,hn0,h00,ha])|refine aP rfl (h6) (by simp) ?_|refine aP rfl (haw) (by simp) ?_|(refine aP ?hl (kB) (by simp) ?_;(case hl=>(simp[go_sem,hlenT,hn0,h00,ha];done)))|simp(disch:=omega) [go_sem,hlenT,hn0,h00,ha])
end Go.Proofs.YtkbglbcphjmiiaaGreatDoor
