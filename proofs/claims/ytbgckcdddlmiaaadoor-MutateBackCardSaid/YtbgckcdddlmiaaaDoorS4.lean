import Derived.Test.YtbgckcdddlmiaaaDoorS3
import Derived.Test.YtbgckcdddlmiaaaDoorA9
set_option linter.unusedSimpArgs false
set_option linter.unusedVariables false
open Go.Proofs.Tryd
namespace Go.Proofs.YtbgckcdddlmiaaaDoor
open Go.Ab
set_option maxRecDepth 100000
set_option maxHeartbeats 16000000
theorem zP (s:ByteArray) (hs:s.size≤1000000): ∀(n i:Nat) (w:ByteArray),s.size - i<n→i≤s.size→MCall prog 46 [.ptr 1000 0 0,.sc (.string w)] (aB s i) (fun r o'=>r=eT (cJ s w i).1∧o'=aB s (cJ s w i).2)
 |0,i,w,hn,hi=>absurd hn (Nat.not_lt_zero _)
 |n+1,i,w,hn,hi=>by
  have ih:=zP s hs n
  have hsg:=wE s i 40 hs hi
  have hle:=pI (s:=s) (c:=40) hi
  cases hb:cN s 40 i
  ·rw[rO hb]
   rw[hb]at hsg
   refine MCall.loose (x:= .agg [.sc (.string w),.list false true []]) (o2:=(4,⟨false,false,false,2,[.agg [.sc (.string w),.list false true []]],0⟩)::aB s (aM s 40 i)) ?_ (by simp[go_sem]) (by simp[go_sem]) (by simp[go_sem])
   generalize aM s 40 i=j at*
   refine eM func46 call46 rfl (by simp[ntmps46]) ?_;simp only[ntmps46,results46]
   skip
   repeat' (first|(refine aC fun _ _=>?_)|refine zHg ?_|simp(disch:=omega) [go_sem,aB,aA])
   refine bG [] [] 10000 _ _ (Fits.mk' (by simp[go_sem,aB,aA]) (by simp[go_sem,aB,aA])) (by simp[go_sem,aB,aA]) (by simp[go_sem,aB,aA]) (hsg) (by simp[go_sem,aB,aA]) (by simp[go_sem,aB,aA]) ?_
   repeat' (first|(refine aC fun _ _=>?_)|refine zHg ?_|simp(disch:=omega) [go_sem,aB,aA])
   refine cV ⟨39,[(4,.ptr 4 0 0)],(4,⟨false,false,false,2,[.agg [.sc (.string w),.list false true []]],0⟩)::aB s j⟩ [.agg [.sc (.string w),.list false true []]] (Le.renSub [] [] (by simp[go_sem,aB,aA]) (by simp[go_sem,aB,aA]) (Le.sub4 rfl (by simp[go_sem,aB,aA]))) (by simp[go_sem,aB,aA]) ⟨rfl,rfl⟩
  ·rw[rP hb]
   rw[hb]at hsg
   have hgt:=tF hb
   generalize aM s 40 i=j at*
   dsimp only
   generalize hG:iB s [] j=G at*
   have hY:eT (.mk w G.1)=Ab.loose (.agg [.sc (.string w),.list false (decide (G.1.length=0)) (G.1.map aL)]):=rfl
   rw[hY]
   have key:MCall prog 46 [.ptr 1000 0 0,.sc (.string w)] (aB s i) (fun r o'=>r= .agg [.sc (.string w),if G.1.length=0 then .list false true []else .ref 900 0 G.1.length]∧o'=(4,⟨false,false,false,2,[.agg [.sc (.string w),if G.1.length=0 then .list false true []else .ref 900 0 G.1.length]],0⟩)::(1000,aA s (aM s 41 G.2))::(if G.1.length=0 then[]else[(900,⟨true,false,false,2,G.1.map aL,0⟩)])):=by
    refine eM func46 call46 rfl (by simp[ntmps46]) ?_;simp only[ntmps46,results46]
    skip
    repeat' (first|(refine aC fun _ _=>?_)|refine zHg ?_|simp(disch:=omega) [go_sem,aB,aA])
    refine bG [] [] 10000 _ _ (Fits.mk' (by simp[go_sem,aB,aA]) (by simp[go_sem,aB,aA])) (by simp[go_sem,aB,aA]) (by simp[go_sem,aB,aA]) (hsg) (by simp[go_sem,aB,aA]) (by simp[go_sem,aB,aA]) ?_
    repeat' (first|(refine aC fun _ _=>?_)|refine zHg ?_|simp(disch:=omega) [go_sem,aB,aA])
    refine cL [0,4,5] [5,900,1000] (fun y:List Tm×Nat=> []) (fun y:List Tm×Nat=>(5,⟨false,false,false,2,[.agg [.sc (.string w),if y.1.length=0 then .list false true []else .ref 900 0 y.1.length]],0⟩)::(1000,aA s y.2)::(if y.1.length=0 then[]else[(900,⟨true,false,false,2,y.1.map aL,0⟩)])) (fun y:List Tm×Nat=>s.size - y.2) (fun y:List Tm×Nat=>i<y.2∧y.2≤s.size∧y.1.length≤y.2∧iB s y.1 y.2=G) (([],j)) (Le.sub4 rfl (by simp[go_sem,aB,aA])) ⟨?_⟩ ?_
    ·exact⟨hgt,hle,Nat.zero_le _,hG⟩
    intro y ⟨hy1,hy2,hy3,hag⟩ AA hAA;simp only[kL,Nat.reduceBEq,Nat.reduceEqDiff,if_true,if_false,List.cons_append,List.nil_append,List.append_nil]
    obtain⟨a,k⟩:=y
    dsimp only at hy1 hy2 hy3 hag ⊢
    clear hG
    by_cases hlt:k<s.size
    ·have hwd:=wG s k hs hy2
     have hwl:=kM (s:=s) hy2
     have hwg:=kK (s:=s) (i:=k)
     have ht:=ih (aK s k) (bH s k) (by omega) hwl
     have htl:=tG (s:=s) (w:=bH s k) hwl
     have htg:=rR (s:=s) (w:=bH s k) (i:=aK s k)
     have hcm:=wE s (cJ s (bH s k) (aK s k)).2 44 hs htl
     have hcl:=pI (s:=s) (c:=44) htl
     have hlim:a.length≤1000000:=by omega
     cases hc:cN s 44 (cJ s (bH s k) (aK s k)).2
     ·rw[rQ hlt hc]at hag
      subst hag
      rw[hc]at hcm
      have hsz:=wE s (aM s 44 (cJ s (bH s k) (aK s k)).2) 41 hs hcl
      generalize aM s 44 (cJ s (bH s k) (aK s k)).2=k3 at*
      generalize cJ s (bH s k) (aK s k)=q at*
      generalize bH s k=wd at*
      generalize aK s k=k1 at*
      obtain⟨tm,k2⟩:=q
      dsimp only at*
      generalize aM s 41 k3=k4 at*
      by_cases h0:a.length=0
      ·obtain rfl:=List.eq_nil_of_length_eq_zero h0
       repeat' (first|(refine aC fun _ _=>?_)|refine zHg ?_|simp(disch:=omega) [go_sem,hlt,aB,aA]|refine zDr 10 aT ?_|fail)
       refine bG [] [] 10000 _ _ (Fits.mk' (by simp[go_sem,aB,aA]) (by simp[go_sem,aB,aA])) (by simp[go_sem,aB,aA]) (by simp[go_sem,aB,aA]) (hwd) (by simp[go_sem,aB,aA]) (by simp[go_sem,aB,aA]) ?_
       repeat' (first|(refine aC fun _ _=>?_)|refine zHg ?_|(with_reducible refine dA ?_;first|(exact cX)|(refine zSkip ?_)|(refine cY rfl ?_ ?_))|(with_reducible refine cZ ?_;first|(refine zDone ?_)|(refine aD 0 rfl (by decide+kernel) (by decide+kernel) rfl rfl rfl ?_)|(refine aD 1 rfl (by decide+kernel) (by decide+kernel) rfl rfl rfl ?_)|(refine aD 2 rfl (by decide+kernel) (by decide+kernel) rfl rfl rfl ?_)|(refine aD 3 rfl (by decide+kernel) (by decide+kernel) rfl rfl rfl ?_)|(refine aD 7 rfl (by decide+kernel) (by decide+kernel) rfl rfl rfl ?_)|(refine zAll ?_;show cG _ _ _ _ _ _ _))|with_reducible refine dD ?_|simp(disch:=omega) [go_sem,hlt,aB,aA]|refine zAny aT ?_|fail)
       all_goals refine bG [] [] 10000 _ _ (Fits.mk' (by simp[go_sem,aB,aA]) (by simp[go_sem,aB,aA])) (by simp[go_sem,aB,aA]) (by simp[go_sem,aB,aA]) (ht) (by simp[go_sem,aB,aA]) (by simp[go_sem,aB,aA]) ?_
       all_goals repeat' (first|(refine aC fun _ _=>?_)|refine zHg ?_|(with_reducible refine dA ?_;first|(exact cX)|(refine zSkip ?_)|(refine cY rfl ?_ ?_))|(with_reducible refine cZ ?_;first|(refine zDone ?_)|(refine aD 0 rfl (by decide+kernel) (by decide+kernel) rfl rfl rfl ?_)|(refine aD 1 rfl (by decide+kernel) (by decide+kernel) rfl rfl rfl ?_)|(refine aD 2 rfl (by decide+kernel) (by decide+kernel) rfl rfl rfl ?_)|(refine aD 3 rfl (by decide+kernel) (by decide+kernel) rfl rfl rfl ?_)|(refine aD 7 rfl (by decide+kernel) (by decide+kernel) rfl rfl rfl ?_)|(refine zAll ?_;show cG _ _ _ _ _ _ _))|with_reducible refine dD ?_|simp(disch:=omega) [go_sem,hlt,aB,aA])
       all_goals refine bG [] [] 10000 _ _ (Fits.mk' (by simp[go_sem,aB,aA]) (by simp[go_sem,aB,aA])) (by simp[go_sem,aB,aA]) (by simp[go_sem,aB,aA]) (hcm) (by simp[go_sem,aB,aA]) (by simp[go_sem,aB,aA]) ?_
       all_goals repeat' (first|(refine aC fun _ _=>?_)|refine zHg ?_|simp(disch:=omega) [go_sem,hlt,aB,aA])
       all_goals refine bG [] [] 10000 _ _ (Fits.mk' (by simp[go_sem,aB,aA]) (by simp[go_sem,aB,aA])) (by simp[go_sem,aB,aA]) (by simp[go_sem,aB,aA]) (hsz) (by simp[go_sem,aB,aA]) (by simp[go_sem,aB,aA]) ?_
       all_goals repeat' (first|(refine aC fun _ _=>?_)|refine zHg ?_|simp(disch:=omega) [go_sem,hlt,aB,aA])
       all_goals refine cV ⟨39,[(4,.ptr 4 0 0)],(4,⟨false,false,false,2,[.agg [.sc (.string w),.ref 900 0 1]],0⟩)::(1000,aA s k4):: [(900,⟨true,false,false,2,[eT tm],0⟩)]⟩ [.agg [.sc (.string w),.ref 900 0 1]] (Le.renSub [(31,900)] [(900,31)] (by simp[go_sem,aB,aA]) (by simp[go_sem,aB,aA]) (Le.sub4 rfl (by simp[go_sem,aB,aA]))) (by simp[go_sem,aB,aA]) ⟨rfl,rfl⟩
      ·
       repeat' (first|(refine aC fun _ _=>?_)|refine zHg ?_|simp(disch:=omega) [go_sem,hlt,h0,aB,aA]|refine zDr 10 aT ?_|fail)
       refine bG [] [] 10000 _ _ (Fits.mk' (by simp[go_sem,aB,aA]) (by simp[go_sem,aB,aA])) (by simp[go_sem,aB,aA]) (by simp[go_sem,aB,aA]) (hwd) (by simp[go_sem,aB,aA]) (by simp[go_sem,aB,aA]) ?_
       repeat' (first|(refine aC fun _ _=>?_)|refine zHg ?_|(with_reducible refine dA ?_;first|(exact cX)|(refine zSkip ?_)|(refine cY rfl ?_ ?_))|(with_reducible refine cZ ?_;first|(refine zDone ?_)|(refine aD 0 rfl (by decide+kernel) (by decide+kernel) rfl rfl rfl ?_)|(refine aD 1 rfl (by decide+kernel) (by decide+kernel) rfl rfl rfl ?_)|(refine aD 2 rfl (by decide+kernel) (by decide+kernel) rfl rfl rfl ?_)|(refine aD 3 rfl (by decide+kernel) (by decide+kernel) rfl rfl rfl ?_)|(refine aD 7 rfl (by decide+kernel) (by decide+kernel) rfl rfl rfl ?_)|(refine zAll ?_;show cG _ _ _ _ _ _ _))|with_reducible refine dD ?_|simp(disch:=omega) [go_sem,hlt,h0,aB,aA]|refine zAny aT ?_|fail)
       all_goals refine bG [] [] 10000 _ _ (Fits.mk' (by simp[go_sem,aB,aA]) (by simp[go_sem,aB,aA])) (by simp[go_sem,aB,aA]) (by simp[go_sem,aB,aA]) (ht) (by simp[go_sem,aB,aA]) (by simp[go_sem,aB,aA]) ?_
       all_goals repeat' (first|(refine aC fun _ _=>?_)|refine zHg ?_|(with_reducible refine dA ?_;first|(exact cX)|(refine zSkip ?_)|(refine cY rfl ?_ ?_))|(with_reducible refine cZ ?_;first|(refine zDone ?_)|(refine aD 0 rfl (by decide+kernel) (by decide+kernel) rfl rfl rfl ?_)|(refine aD 1 rfl (by decide+kernel) (by decide+kernel) rfl rfl rfl ?_)|(refine aD 2 rfl (by decide+kernel) (by decide+kernel) rfl rfl rfl ?_)|(refine aD 3 rfl (by decide+kernel) (by decide+kernel) rfl rfl rfl ?_)|(refine aD 7 rfl (by decide+kernel) (by decide+kernel) rfl rfl rfl ?_)|(refine zAll ?_;show cG _ _ _ _ _ _ _))|with_reducible refine dD ?_|simp(disch:=omega) [go_sem,hlt,h0,aB,aA]|refine zAo ?_|fail)
       all_goals refine bG [] [] 10000 _ _ (Fits.mk' (by simp[go_sem,aB,aA]) (by simp[go_sem,aB,aA])) (by simp[go_sem,aB,aA]) (by simp[go_sem,aB,aA]) (hcm) (by simp[go_sem,aB,aA]) (by simp[go_sem,aB,aA]) ?_
       all_goals repeat' (first|(refine aC fun _ _=>?_)|refine zHg ?_|simp(disch:=omega) [go_sem,hlt,h0,aB,aA])
       all_goals refine bG [] [] 10000 _ _ (Fits.mk' (by simp[go_sem,aB,aA]) (by simp[go_sem,aB,aA])) (by simp[go_sem,aB,aA]) (by simp[go_sem,aB,aA]) (hsz) (by simp[go_sem,aB,aA]) (by simp[go_sem,aB,aA]) ?_
       all_goals repeat' (first|(refine aC fun _ _=>?_)|refine zHg ?_|simp(disch:=omega) [go_sem,hlt,h0,aB,aA])
       all_goals refine cV ⟨39,[(4,.ptr 4 0 0)],(4,⟨false,false,false,2,[.agg [.sc (.string w),.ref 900 0 (a.length+1)]],0⟩)::(1000,aA s k4):: [(900,⟨true,false,false,2,a.map aL++ [eT tm],0⟩)]⟩ [.agg [.sc (.string w),.ref 900 0 (a.length+1)]] (Le.renSub [] [] (by simp[go_sem,aB,aA]) (by simp[go_sem,aB,aA]) (Le.sub4 rfl (by simp[go_sem,aB,aA]))) (by simp[go_sem,aB,aA]) ⟨rfl,rfl⟩
     ·rw[bUt hlt hc]at hag
      have hcg:=tF hc
      rw[hc]at hcm
      generalize aM s 44 (cJ s (bH s k) (aK s k)).2=k3 at*
      generalize cJ s (bH s k) (aK s k)=q at*
      generalize bH s k=wd at*
      generalize aK s k=k1 at*
      obtain⟨tm,k2⟩:=q
      dsimp only at*
      by_cases h0:a.length=0
      ·obtain rfl:=List.eq_nil_of_length_eq_zero h0
       repeat' (first|(refine aC fun _ _=>?_)|refine zHg ?_|simp(disch:=omega) [go_sem,hlt,aB,aA]|refine zDr 10 aT ?_|fail)
       refine bG [] [] 10000 _ _ (Fits.mk' (by simp[go_sem,aB,aA]) (by simp[go_sem,aB,aA])) (by simp[go_sem,aB,aA]) (by simp[go_sem,aB,aA]) (hwd) (by simp[go_sem,aB,aA]) (by simp[go_sem,aB,aA]) ?_
       repeat' (first|(refine aC fun _ _=>?_)|refine zHg ?_|(with_reducible refine dA ?_;first|(exact cX)|(refine zSkip ?_)|(refine cY rfl ?_ ?_))|(with_reducible refine cZ ?_;first|(refine zDone ?_)|(refine aD 0 rfl (by decide+kernel) (by decide+kernel) rfl rfl rfl ?_)|(refine aD 1 rfl (by decide+kernel) (by decide+kernel) rfl rfl rfl ?_)|(refine aD 2 rfl (by decide+kernel) (by decide+kernel) rfl rfl rfl ?_)|(refine aD 3 rfl (by decide+kernel) (by decide+kernel) rfl rfl rfl ?_)|(refine aD 7 rfl (by decide+kernel) (by decide+kernel) rfl rfl rfl ?_)|(refine zAll ?_;show cG _ _ _ _ _ _ _))|with_reducible refine dD ?_|simp(disch:=omega) [go_sem,hlt,aB,aA]|refine zAny aT ?_|fail)
       all_goals refine bG [] [] 10000 _ _ (Fits.mk' (by simp[go_sem,aB,aA]) (by simp[go_sem,aB,aA])) (by simp[go_sem,aB,aA]) (by simp[go_sem,aB,aA]) (ht) (by simp[go_sem,aB,aA]) (by simp[go_sem,aB,aA]) ?_
       all_goals repeat' (first|(refine aC fun _ _=>?_)|refine zHg ?_|(with_reducible refine dA ?_;first|(exact cX)|(refine zSkip ?_)|(refine cY rfl ?_ ?_))|(with_reducible refine cZ ?_;first|(refine zDone ?_)|(refine aD 0 rfl (by decide+kernel) (by decide+kernel) rfl rfl rfl ?_)|(refine aD 1 rfl (by decide+kernel) (by decide+kernel) rfl rfl rfl ?_)|(refine aD 2 rfl (by decide+kernel) (by decide+kernel) rfl rfl rfl ?_)|(refine aD 3 rfl (by decide+kernel) (by decide+kernel) rfl rfl rfl ?_)|(refine aD 7 rfl (by decide+kernel) (by decide+kernel) rfl rfl rfl ?_)|(refine zAll ?_;show cG _ _ _ _ _ _ _))|with_reducible refine dD ?_|simp(disch:=omega) [go_sem,hlt,aB,aA])
       all_goals refine bG [] [] 10000 _ _ (Fits.mk' (by simp[go_sem,aB,aA]) (by simp[go_sem,aB,aA])) (by simp[go_sem,aB,aA]) (by simp[go_sem,aB,aA]) (hcm) (by simp[go_sem,aB,aA]) (by simp[go_sem,aB,aA]) ?_
       all_goals repeat' (first|(refine aC fun _ _=>?_)|refine zHg ?_|(refine(hAA.next (([tm],k3)) (Le.renSub [(31,900)] [(900,31)] (by simp[go_sem]) (by simp[go_sem]) (Le.sub4 rfl (by simp[go_sem]))) (by(try dsimp only);omega) ?_))|simp(disch:=omega) [go_sem,hlt,aB,aA])
       all_goals(first|omega|skip)
       all_goals exact⟨by omega,by omega,by(try simp);omega,hag⟩
      ·
       repeat' (first|(refine aC fun _ _=>?_)|refine zHg ?_|simp(disch:=omega) [go_sem,hlt,h0,aB,aA]|refine zDr 10 aT ?_|fail)
       refine bG [] [] 10000 _ _ (Fits.mk' (by simp[go_sem,aB,aA]) (by simp[go_sem,aB,aA])) (by simp[go_sem,aB,aA]) (by simp[go_sem,aB,aA]) (hwd) (by simp[go_sem,aB,aA]) (by simp[go_sem,aB,aA]) ?_
       repeat' (first|(refine aC fun _ _=>?_)|refine zHg ?_|(with_reducible refine dA ?_;first|(exact cX)|(refine zSkip ?_)|(refine cY rfl ?_ ?_))|(with_reducible refine cZ ?_;first|(refine zDone ?_)|(refine aD 0 rfl (by decide+kernel) (by decide+kernel) rfl rfl rfl ?_)|(refine aD 1 rfl (by decide+kernel) (by decide+kernel) rfl rfl rfl ?_)|(refine aD 2 rfl (by decide+kernel) (by decide+kernel) rfl rfl rfl ?_)|(refine aD 3 rfl (by decide+kernel) (by decide+kernel) rfl rfl rfl ?_)|(refine aD 7 rfl (by decide+kernel) (by decide+kernel) rfl rfl rfl ?_)|(refine zAll ?_;show cG _ _ _ _ _ _ _))|with_reducible refine dD ?_|simp(disch:=omega) [go_sem,hlt,h0,aB,aA]|refine zAny aT ?_|fail)
       all_goals refine bG [] [] 10000 _ _ (Fits.mk' (by simp[go_sem,aB,aA]) (by simp[go_sem,aB,aA])) (by simp[go_sem,aB,aA]) (by simp[go_sem,aB,aA]) (ht) (by simp[go_sem,aB,aA]) (by simp[go_sem,aB,aA]) ?_
       all_goals repeat' (first|(refine aC fun _ _=>?_)|refine zHg ?_|(with_reducible refine dA ?_;first|(exact cX)|(refine zSkip ?_)|(refine cY rfl ?_ ?_))|(with_reducible refine cZ ?_;first|(refine zDone ?_)|(refine aD 0 rfl (by decide+kernel) (by decide+kernel) rfl rfl rfl ?_)|(refine aD 1 rfl (by decide+kernel) (by decide+kernel) rfl rfl rfl ?_)|(refine aD 2 rfl (by decide+kernel) (by decide+kernel) rfl rfl rfl ?_)|(refine aD 3 rfl (by decide+kernel) (by decide+kernel) rfl rfl rfl ?_)|(refine aD 7 rfl (by decide+kernel) (by decide+kernel) rfl rfl rfl ?_)|(refine zAll ?_;show cG _ _ _ _ _ _ _))|with_reducible refine dD ?_|simp(disch:=omega) [go_sem,hlt,h0,aB,aA]|refine zAo ?_|fail)
       all_goals refine bG [] [] 10000 _ _ (Fits.mk' (by simp[go_sem,aB,aA]) (by simp[go_sem,aB,aA])) (by simp[go_sem,aB,aA]) (by simp[go_sem,aB,aA]) (hcm) (by simp[go_sem,aB,aA]) (by simp[go_sem,aB,aA]) ?_
       all_goals repeat' (first|(refine aC fun _ _=>?_)|refine zHg ?_|(refine(hAA.next ((a++ [tm],k3)) (Le.sub4 rfl (by simp[go_sem])) (by(try dsimp only);omega) ?_))|simp(disch:=omega) [go_sem,hlt,h0,aB,aA])
       all_goals(first|omega|skip)
       all_goals exact⟨by omega,by omega,by(try simp);omega,hag⟩
    ·rw[bUs hlt]at hag
     subst hag
     have hsz:=wE s k 41 hs hy2
     dsimp only at*
     generalize aM s 41 k=k4 at*
     by_cases h0:a.length=0
     ·obtain rfl:=List.eq_nil_of_length_eq_zero h0
      repeat' (first|(refine aC fun _ _=>?_)|refine zHg ?_|simp(disch:=omega) [go_sem,hlt,aB,aA]|refine zDr 10 aT ?_|fail)
      refine bG [] [] 10000 _ _ (Fits.mk' (by simp[go_sem,aB,aA]) (by simp[go_sem,aB,aA])) (by simp[go_sem,aB,aA]) (by simp[go_sem,aB,aA]) (hsz) (by simp[go_sem,aB,aA]) (by simp[go_sem,aB,aA]) ?_
      repeat' (first|(refine aC fun _ _=>?_)|refine zHg ?_|simp(disch:=omega) [go_sem,hlt,aB,aA])
      refine cV ⟨39,[(4,.ptr 4 0 0)],(4,⟨false,false,false,2,[.agg [.sc (.string w),.list false true []]],0⟩)::(1000,aA s k4):: []⟩ [.agg [.sc (.string w),.list false true []]] (Le.renSub [] [] (by simp[go_sem,aB,aA]) (by simp[go_sem,aB,aA]) (Le.sub4 rfl (by simp[go_sem,aB,aA]))) (by simp[go_sem,aB,aA]) ⟨rfl,rfl⟩
     ·repeat' (first|(refine aC fun _ _=>?_)|refine zHg ?_|simp(disch:=omega) [go_sem,hlt,h0,aB,aA]|refine zDr 10 aT ?_|fail)
      refine bG [] [] 10000 _ _ (Fits.mk' (by simp[go_sem,aB,aA]) (by simp[go_sem,aB,aA])) (by simp[go_sem,aB,aA]) (by simp[go_sem,aB,aA]) (hsz) (by simp[go_sem,aB,aA]) (by simp[go_sem,aB,aA]) ?_
      repeat' (first|(refine aC fun _ _=>?_)|refine zHg ?_|simp(disch:=omega) [go_sem,hlt,h0,aB,aA])
      refine cV ⟨39,[(4,.ptr 4 0 0)],(4,⟨false,false,false,2,[.agg [.sc (.string w),.ref 900 0 a.length]],0⟩)::(1000,aA s k4):: [(900,⟨true,false,false,2,a.map aL,0⟩)]⟩ [.agg [.sc (.string w),.ref 900 0 a.length]] (Le.renSub [] [] (by simp[go_sem,aB,aA]) (by simp[go_sem,aB,aA]) (Le.sub4 rfl (by simp[go_sem,aB,aA]))) (by simp[go_sem,aB,aA]) ⟨rfl,rfl⟩
   by_cases h0:G.1.length=0
   ·have hn:=List.eq_nil_of_length_eq_zero h0
    simp only[hn,List.length_nil,if_true,decide_true,List.map_nil]at key ⊢
    exact key.shared rfl (by simp[go_sem]) (by simp[go_sem]) (by simp[go_sem])
   ·simp only[h0,if_false,decide_false]at key ⊢
    refine key.shared (s':=?_) (y:= .agg [.sc (.string w),.list false false (G.1.map aL)]) (by simp[go_sem,bS];rfl) (by simp[go_sem]) (by simp[go_sem]) (by simp[go_sem])
abbrev eL (s:ByteArray) (i:Nat):AObj:=⟨false,false,false,2,[.agg [.sc (.string s),nt .i64 i]],0⟩
end Go.Proofs.YtbgckcdddlmiaaaDoor
