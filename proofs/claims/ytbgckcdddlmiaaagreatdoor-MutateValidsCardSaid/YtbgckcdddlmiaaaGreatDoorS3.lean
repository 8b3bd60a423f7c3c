import Derived.Test.YtbgckcdddlmiaaaGreatDoorS2
import Derived.Test.YtbgckcdddlmiaaaGreatDoorA9
import Derived.Test.YtbgckcdddlmiaaaGreatDoorA13
set_option linter.all false
open Go.Proofs.Tryz
namespace Go.Proofs.YtbgckcdddlmiaaaGreatDoor
open Go.Ab
variable [Glob prog]
set_option maxRecDepth 100000
set_option maxHeartbeats 16000000
theorem P1 (s:ByteArray) (hs:s.size<=1000000): ∀(n i:Nat) (w:ByteArray),s.size - i<n->i<=s.size->MCall prog 99 [.ptr 1000 0 0,.sc (.string w)] (aC s i) (fun r o'=>r=eT (dK s w i).1/\o'=aC s (dK s w i).2)
 |0,i,w,hn,hi=>absurd hn (Nat.not_lt_zero _)
 |n+1,i,w,hn,hi=>by
  have ih:=P1 s hs n
  have hsg:=C9 s i 40 hs hi
  have hle:=sI (s:=s) (c:=40) hi
  cases hb:dL s 40 i
  ·rw[vY hb]
   rw[hb]at hsg
   refine MCall.loose (x:= .agg [.sc (.string w),.list false true []]) (o2:=(4,⟨false,false,false,2,[.agg [.sc (.string w),.list false true []]],0⟩)::aC s (aT s 40 i)) ?_ (by simp[go_sem]) (by simp[go_sem]) (by simp[go_sem])
   generalize aT s 40 i=j at*
   refine dC func99 call99 rfl (by simp[ntmps99]) ?_;simp only[ntmps99,results99]
   skip
   repeat' (first|(refine aA fun _ _=>?_)|refine zHg ?_|simp(disch:=omega) [go_sem,aC,aB])
   refine aX [] [] 10000 _ _ (Fits.mk' (by simp[go_sem,aC,aB]) (by simp[go_sem,aC,aB])) (by simp[go_sem,aC,aB]) (by simp[go_sem,aC,aB]) (hsg) (by simp[go_sem,aC,aB]) (by simp[go_sem,aC,aB]) ?_
   repeat' (first|(refine aA fun _ _=>?_)|refine zHg ?_|simp(disch:=omega) [go_sem,aC,aB])
   refine cJ ⟨39,[(4,.ptr 4 0 0)],(4,⟨false,false,false,2,[.agg [.sc (.string w),.list false true []]],0⟩)::aC s j⟩ [.agg [.sc (.string w),.list false true []]] (Le.renSub [] [] (by simp[go_sem,aC,aB]) (by simp[go_sem,aC,aB]) (Le.sub4 rfl (by simp[go_sem,aC,aB]))) (by simp[go_sem,aC,aB]) ⟨rfl,rfl⟩
  ·rw[vZ hb]
   rw[hb]at hsg
   have hgt:=yG hb
   generalize aT s 40 i=j at*
   dsimp only
   generalize hG:jR s [] j=G at*
   have hY:eT (.mk w G.1)=Ab.loose (.agg [.sc (.string w),.list false (decide (G.1.length=0)) (G.1.map aO)]):=rfl
   rw[hY]
   have key:MCall prog 99 [.ptr 1000 0 0,.sc (.string w)] (aC s i) (fun r o'=>r= .agg [.sc (.string w),if G.1.length=0 then .list false true []else .ref 900 0 G.1.length]/\o'=(4,⟨false,false,false,2,[.agg [.sc (.string w),if G.1.length=0 then .list false true []else .ref 900 0 G.1.length]],0⟩)::(1000,aB s (aT s 41 G.2))::(if G.1.length=0 then[]else[(900,⟨true,false,false,2,G.1.map aO,0⟩)])):=by
    refine dC func99 call99 rfl (by simp[ntmps99]) ?_;simp only[ntmps99,results99]
    skip
    repeat' (first|(refine aA fun _ _=>?_)|refine zHg ?_|simp(disch:=omega) [go_sem,aC,aB])
    refine aX [] [] 10000 _ _ (Fits.mk' (by simp[go_sem,aC,aB]) (by simp[go_sem,aC,aB])) (by simp[go_sem,aC,aB]) (by simp[go_sem,aC,aB]) (hsg) (by simp[go_sem,aC,aB]) (by simp[go_sem,aC,aB]) ?_
    repeat' (first|(refine aA fun _ _=>?_)|refine zHg ?_|simp(disch:=omega) [go_sem,aC,aB])
    refine bL [0,4,5] [5,900,1000] (fun y:List Tm×Nat=> []) (fun y:List Tm×Nat=>(5,⟨false,false,false,2,[.agg [.sc (.string w),if y.1.length=0 then .list false true []else .ref 900 0 y.1.length]],0⟩)::(1000,aB s y.2)::(if y.1.length=0 then[]else[(900,⟨true,false,false,2,y.1.map aO,0⟩)])) (fun y:List Tm×Nat=>s.size - y.2) (fun y:List Tm×Nat=>i<y.2/\y.2<=s.size/\y.1.length<=y.2/\jR s y.1 y.2=G) (([],j)) (Le.sub4 rfl (by simp[go_sem,aC,aB])) ⟨?_⟩ ?_
    ·exact⟨hgt,hle,Nat.zero_le _,hG⟩
    intro y ⟨hy1,hy2,hy3,hag⟩ AA hAA;simp only[kL,Nat.reduceBEq,Nat.reduceEqDiff]
    obtain⟨a,k⟩:=y
    dsimp only at hy1 hy2 hy3 hag ⊢
    clear hG
    by_cases hlt:k<s.size
    ·have hwd:=D0 s k hs hy2
     have hwl:=mO (s:=s) hy2
     have hwg:=mN (s:=s) (i:=k)
     have ht:=ih (aR s k) (bK s k) (by omega) hwl
     have htl:=yH (s:=s) (w:=bK s k) hwl
     have htg:=wB (s:=s) (w:=bK s k) (i:=aR s k)
     have hcm:=C9 s (dK s (bK s k) (aR s k)).2 44 hs htl
     have hcl:=sI (s:=s) (c:=44) htl
     have hlim:a.length<=1000000:=by omega
     cases hc:dL s 44 (dK s (bK s k) (aR s k)).2
     ·rw[wA hlt hc]at hag
      subst hag
      rw[hc]at hcm
      have hsz:=C9 s (aT s 44 (dK s (bK s k) (aR s k)).2) 41 hs hcl
      generalize aT s 44 (dK s (bK s k) (aR s k)).2=k3 at*
      generalize dK s (bK s k) (aR s k)=q at*
      generalize bK s k=wd at*
      generalize aR s k=k1 at*
      obtain⟨tm,k2⟩:=q
      dsimp only at*
      generalize aT s 41 k3=k4 at*
      by_cases h0:a.length=0
      ·obtain rfl:=List.eq_nil_of_length_eq_zero h0
       repeat' (first|(refine aA fun _ _=>?_)|refine zHg ?_|simp(disch:=omega) [go_sem,hlt,aC,aB]|refine zDr 10 aS ?_|fail)
       refine aX [] [] 10000 _ _ (Fits.mk' (by simp[go_sem,aC,aB]) (by simp[go_sem,aC,aB])) (by simp[go_sem,aC,aB]) (by simp[go_sem,aC,aB]) (hwd) (by simp[go_sem,aC,aB]) (by simp[go_sem,aC,aB]) ?_
       repeat' (first|(refine aA fun _ _=>?_)|refine zHg ?_|(with_reducible refine cY ?_;first|(exact cV)|(refine zSkip ?_)|(refine cW rfl ?_ ?_))|(with_reducible refine cX ?_;first|(refine zDone ?_)|(refine zQu 0 rfl rfl rfl rfl ?_)|(refine zQu 1 rfl rfl rfl rfl ?_)|(refine zQu 2 rfl rfl rfl rfl ?_)|(refine zQu 3 rfl rfl rfl rfl ?_)|(refine zQu 7 rfl rfl rfl rfl ?_)|(refine zAll ?_;show cH _ _ _ _ _ _ _))|with_reducible refine dB ?_|simp(disch:=omega) [go_sem,hlt,aC,aB]|refine zAny aS ?_|fail)
       all_goals refine aX [] [] 10000 _ _ (Fits.mk' (by simp[go_sem,aC,aB]) (by simp[go_sem,aC,aB])) (by simp[go_sem,aC,aB]) (by simp[go_sem,aC,aB]) (ht) (by simp[go_sem,aC,aB]) (by simp[go_sem,aC,aB]) ?_
       all_goals repeat' (first|(refine aA fun _ _=>?_)|refine zHg ?_|(with_reducible refine cY ?_;first|(exact cV)|(refine zSkip ?_)|(refine cW rfl ?_ ?_))|(with_reducible refine cX ?_;first|(refine zDone ?_)|(refine zQu 0 rfl rfl rfl rfl ?_)|(refine zQu 1 rfl rfl rfl rfl ?_)|(refine zQu 2 rfl rfl rfl rfl ?_)|(refine zQu 3 rfl rfl rfl rfl ?_)|(refine zQu 7 rfl rfl rfl rfl ?_)|(refine zAll ?_;show cH _ _ _ _ _ _ _))|with_reducible refine dB ?_|simp(disch:=omega) [go_sem,hlt,aC,aB])
       all_goals refine aX [] [] 10000 _ _ (Fits.mk' (by simp[go_sem,aC,aB]) (by simp[go_sem,aC,aB])) (by simp[go_sem,aC,aB]) (by simp[go_sem,aC,aB]) (hcm) (by simp[go_sem,aC,aB]) (by simp[go_sem,aC,aB]) ?_
       all_goals repeat' (first|(refine aA fun _ _=>?_)|refine zHg ?_|simp(disch:=omega) [go_sem,hlt,aC,aB])
       all_goals refine aX [] [] 10000 _ _ (Fits.mk' (by simp[go_sem,aC,aB]) (by simp[go_sem,aC,aB])) (by simp[go_sem,aC,aB]) (by simp[go_sem,aC,aB]) (hsz) (by simp[go_sem,aC,aB]) (by simp[go_sem,aC,aB]) ?_
       all_goals repeat' (first|(refine aA fun _ _=>?_)|refine zHg ?_|simp(disch:=omega) [go_sem,hlt,aC,aB])
       all_goals refine cJ ⟨39,[(4,.ptr 4 0 0)],(4,⟨false,false,false,2,[.agg [.sc (.string w),.ref 900 0 1]],0⟩)::(1000,aB s k4):: [(900,⟨true,false,false,2,[eT tm],0⟩)]⟩ [.agg [.sc (.string w),.ref 900 0 1]] (Le.renSub [(31,900)] [(900,31)] (by simp[go_sem,aC,aB]) (by simp[go_sem,aC,aB]) (Le.sub4 rfl (by simp[go_sem,aC,aB]))) (by simp[go_sem,aC,aB]) ⟨rfl,rfl⟩
      ·
       repeat' (first|(refine aA fun _ _=>?_)|refine zHg ?_|simp(disch:=omega) [go_sem,hlt,h0,aC,aB]|refine zDr 10 aS ?_|fail)
       refine aX [] [] 10000 _ _ (Fits.mk' (by simp[go_sem,aC,aB]) (by simp[go_sem,aC,aB])) (by simp[go_sem,aC,aB]) (by simp[go_sem,aC,aB]) (hwd) (by simp[go_sem,aC,aB]) (by simp[go_sem,aC,aB]) ?_
       repeat' (first|(refine aA fun _ _=>?_)|refine zHg ?_|(with_reducible refine cY ?_;first|(exact cV)|(refine zSkip ?_)|(refine cW rfl ?_ ?_))|(with_reducible refine cX ?_;first|(refine zDone ?_)|(refine zQu 0 rfl rfl rfl rfl ?_)|(refine zQu 1 rfl rfl rfl rfl ?_)|(refine zQu 2 rfl rfl rfl rfl ?_)|(refine zQu 3 rfl rfl rfl rfl ?_)|(refine zQu 7 rfl rfl rfl rfl ?_)|(refine zAll ?_;show cH _ _ _ _ _ _ _))|with_reducible refine dB ?_|simp(disch:=omega) [go_sem,hlt,h0,aC,aB]|refine zAny aS ?_|fail)
       all_goals refine aX [] [] 10000 _ _ (Fits.mk' (by simp[go_sem,aC,aB]) (by simp[go_sem,aC,aB])) (by simp[go_sem,aC,aB]) (by simp[go_sem,aC,aB]) (ht) (by simp[go_sem,aC,aB]) (by simp[go_sem,aC,aB]) ?_
       all_goals repeat' (first|(refine aA fun _ _=>?_)|refine zHg ?_|(with_reducible refine cY ?_;first|(exact cV)|(refine zSkip ?_)|(refine cW rfl ?_ ?_))|(with_reducible refine cX ?_;first|(refine zDone ?_)|(refine zQu 0 rfl rfl rfl rfl ?_)|(refine zQu 1 rfl rfl rfl rfl ?_)|(refine zQu 2 rfl rfl rfl rfl ?_)|(refine zQu 3 rfl rfl rfl rfl ?_)|(refine zQu 7 rfl rfl rfl rfl ?_)|(refine zAll ?_;show cH _ _ _ _ _ _ _))|with_reducible refine dB ?_|simp(disch:=omega) [go_sem,hlt,h0,aC,aB]|refine zAo ?_|fail)
       all_goals refine aX [] [] 10000 _ _ (Fits.mk' (by simp[go_sem,aC,aB]) (by simp[go_sem,aC,aB])) (by simp[go_sem,aC,aB]) (by simp[go_sem,aC,aB]) (hcm) (by simp[go_sem,aC,aB]) (by simp[go_sem,aC,aB]) ?_
       all_goals repeat' (first|(refine aA fun _ _=>?_)|refine zHg ?_|simp(disch:=omega) [go_sem,hlt,h0,aC,aB])
       all_goals refine aX [] [] 10000 _ _ (Fits.mk' (by simp[go_sem,aC,aB]) (by simp[go_sem,aC,aB])) (by simp[go_sem,aC,aB]) (by simp[go_sem,aC,aB]) (hsz) (by simp[go_sem,aC,aB]) (by simp[go_sem,aC,aB]) ?_
       all_goals repeat' (first|(refine aA fun _ _=>?_)|refine zHg ?_|simp(disch:=omega) [go_sem,hlt,h0,aC,aB])
       all_goals refine cJ ⟨39,[(4,.ptr 4 0 0)],(4,⟨false,false,false,2,[.agg [.sc (.string w),.ref 900 0 (a.length+1)]],0⟩)::(1000,aB s k4):: [(900,⟨true,false,false,2,a.map aO++ [eT tm],0⟩)]⟩ [.agg [.sc (.string w),.ref 900 0 (a.length+1)]] (Le.renSub [] [] (by simp[go_sem,aC,aB]) (by simp[go_sem,aC,aB]) (Le.sub4 rfl (by simp[go_sem,aC,aB]))) (by simp[go_sem,aC,aB]) ⟨rfl,rfl⟩
     ·rw[bMe hlt hc]at hag
      have hcg:=yG hc
      rw[hc]at hcm
      generalize aT s 44 (dK s (bK s k) (aR s k)).2=k3 at*
      generalize dK s (bK s k) (aR s k)=q at*
      generalize bK s k=wd at*
      generalize aR s k=k1 at*
      obtain⟨tm,k2⟩:=q
      dsimp only at*
      by_cases h0:a.length=0
      ·obtain rfl:=List.eq_nil_of_length_eq_zero h0
       repeat' (first|(refine aA fun _ _=>?_)|refine zHg ?_|simp(disch:=omega) [go_sem,hlt,aC,aB]|refine zDr 10 aS ?_|fail)
       refine aX [] [] 10000 _ _ (Fits.mk' (by simp[go_sem,aC,aB]) (by simp[go_sem,aC,aB])) (by simp[go_sem,aC,aB]) (by simp[go_sem,aC,aB]) (hwd) (by simp[go_sem,aC,aB]) (by simp[go_sem,aC,aB]) ?_
       repeat' (first|(refine aA fun _ _=>?_)|refine zHg ?_|(with_reducible refine cY ?_;first|(exact cV)|(refine zSkip ?_)|(refine cW rfl ?_ ?_))|(with_reducible refine cX ?_;first|(refine zDone ?_)|(refine zQu 0 rfl rfl rfl rfl ?_)|(refine zQu 1 rfl rfl rfl rfl ?_)|(refine zQu 2 rfl rfl rfl rfl ?_)|(refine zQu 3 rfl rfl rfl rfl ?_)|(refine zQu 7 rfl rfl rfl rfl ?_)|(refine zAll ?_;show cH _ _ _ _ _ _ _))|with_reducible refine dB ?_|simp(disch:=omega) [go_sem,hlt,aC,aB]|refine zAny aS ?_|fail)
       all_goals refine aX [] [] 10000 _ _ (Fits.mk' (by simp[go_sem,aC,aB]) (by simp[go_sem,aC,aB])) (by simp[go_sem,aC,aB]) (by simp[go_sem,aC,aB]) (ht) (by simp[go_sem,aC,aB]) (by simp[go_sem,aC,aB]) ?_
       all_goals repeat' (first|(refine aA fun _ _=>?_)|refine zHg ?_|(with_reducible refine cY ?_;first|(exact cV)|(refine zSkip ?_)|(refine cW rfl ?_ ?_))|(with_reducible refine cX ?_;first|(refine zDone ?_)|(refine zQu 0 rfl rfl rfl rfl ?_)|(refine zQu 1 rfl rfl rfl rfl ?_)|(refine zQu 2 rfl rfl rfl rfl ?_)|(refine zQu 3 rfl rfl rfl rfl ?_)|(refine zQu 7 rfl rfl rfl rfl ?_)|(refine zAll ?_;show cH _ _ _ _ _ _ _))|with_reducible refine dB ?_|simp(disch:=omega) [go_sem,hlt,aC,aB])
       all_goals refine aX [] [] 10000 _ _ (Fits.mk' (by simp[go_sem,aC,aB]) (by simp[go_sem,aC,aB])) (by simp[go_sem,aC,aB]) (by simp[go_sem,aC,aB]) (hcm) (by simp[go_sem,aC,aB]) (by simp[go_sem,aC,aB]) ?_
       all_goals repeat' (first|(refine aA fun _ _=>?_)|refine zHg ?_|(refine(hAA.next (([tm],k3)) (Le.renSub [(31,900)] [(900,31)] (by simp[go_sem]) (by simp[go_sem]) (Le.sub4 rfl (by simp[go_sem]))) (by(try dsimp only);omega) ?_))|simp(disch:=omega) [go_sem,hlt,aC,aB])
       try any_goals omega
       all_goals exact⟨by omega,by omega,by(try simp);omega,hag⟩
      ·
       repeat' (first|(refine aA fun _ _=>?_)|refine zHg ?_|simp(disch:=omega) [go_sem,hlt,h0,aC,aB]|refine zDr 10 aS ?_|fail)
       refine aX [] [] 10000 _ _ (Fits.mk' (by simp[go_sem,aC,aB]) (by simp[go_sem,aC,aB])) (by simp[go_sem,aC,aB]) (by simp[go_sem,aC,aB]) (hwd) (by simp[go_sem,aC,aB]) (by simp[go_sem,aC,aB]) ?_
       repeat' (first|(refine aA fun _ _=>?_)|refine zHg ?_|(with_reducible refine cY ?_;first|(exact cV)|(refine zSkip ?_)|(refine cW rfl ?_ ?_))|(with_reducible refine cX ?_;first|(refine zDone ?_)|(refine zQu 0 rfl rfl rfl rfl ?_)|(refine zQu 1 rfl rfl rfl rfl ?_)|(refine zQu 2 rfl rfl rfl rfl ?_)|(refine zQu 3 rfl rfl rfl rfl ?_)|(refine zQu 7 rfl rfl rfl rfl ?_)|(refine zAll ?_;show cH _ _ _ _ _ _ _))|with_reducible refine dB ?_|simp(disch:=omega) [go_sem,hlt,h0,aC,aB]|refine zAny aS ?_|fail)
       all_goals refine aX [] [] 10000 _ _ (Fits.mk' (by simp[go_sem,aC,aB]) (by simp[go_sem,aC,aB])) (by simp[go_sem,aC,aB]) (by simp[go_sem,aC,aB]) (ht) (by simp[go_sem,aC,aB]) (by simp[go_sem,aC,aB]) ?_
       all_goals repeat' (first|(refine aA fun _ _=>?_)|refine zHg ?_|(with_reducible refine cY ?_;first|(exact cV)|(refine zSkip ?_)|(refine cW rfl ?_ ?_))|(with_reducible refine cX ?_;first|(refine zDone ?_)|(refine zQu 0 rfl rfl rfl rfl ?_)|(refine zQu 1 rfl rfl rfl rfl ?_)|(refine zQu 2 rfl rfl rfl rfl ?_)|(refine zQu 3 rfl rfl rfl rfl ?_)|(refine zQu 7 rfl rfl rfl rfl ?_)|(refine zAll ?_;show cH _ _ _ _ _ _ _))|with_reducible refine dB ?_|simp(disch:=omega) [go_sem,hlt,h0,aC,aB]|refine zAo ?_|fail)
       all_goals refine aX [] [] 10000 _ _ (Fits.mk' (by simp[go_sem,aC,aB]) (by simp[go_sem,aC,aB])) (by simp[go_sem,aC,aB]) (by simp[go_sem,aC,aB]) (hcm) (by simp[go_sem,aC,aB]) (by simp[go_sem,aC,aB]) ?_
       all_goals repeat' (first|(refine aA fun _ _=>?_)|refine zHg ?_|(refine(hAA.next ((a++ [tm],k3)) (Le.sub4 rfl (by simp[go_sem])) (by(try dsimp only);omega) ?_))|simp(disch:=omega) [go_sem,hlt,h0,aC,aB])
       try any_goals omega
       all_goals exact⟨by omega,by omega,by(try simp);omega,hag⟩
    ·rw[bMd hlt]at hag
     subst hag
     have hsz:=C9 s k 41 hs hy2
     dsimp only at*
     generalize aT s 41 k=k4 at*
     by_cases h0:a.length=0
     ·obtain rfl:=List.eq_nil_of_length_eq_zero h0
      repeat' (first|(refine aA fun _ _=>?_)|refine zHg ?_|simp(disch:=omega) [go_sem,hlt,aC,aB]|refine zDr 10 aS ?_|fail)
      refine aX [] [] 10000 _ _ (Fits.mk' (by simp[go_sem,aC,aB]) (by simp[go_sem,aC,aB])) (by simp[go_sem,aC,aB]) (by simp[go_sem,aC,aB]) (hsz) (by simp[go_sem,aC,aB]) (by simp[go_sem,aC,aB]) ?_
      repeat' (first|(refine aA fun _ _=>?_)|refine zHg ?_|simp(disch:=omega) [go_sem,hlt,aC,aB])
      refine cJ ⟨39,[(4,.ptr 4 0 0)],(4,⟨false,false,false,2,[.agg [.sc (.string w),.list false true []]],0⟩)::(1000,aB s k4):: []⟩ [.agg [.sc (.string w),.list false true []]] (Le.renSub [] [] (by simp[go_sem,aC,aB]) (by simp[go_sem,aC,aB]) (Le.sub4 rfl (by simp[go_sem,aC,aB]))) (by simp[go_sem,aC,aB]) ⟨rfl,rfl⟩
     ·repeat' (first|(refine aA fun _ _=>?_)|refine zHg ?_|simp(disch:=omega) [go_sem,hlt,h0,aC,aB]|refine zDr 10 aS ?_|fail)
      refine aX [] [] 10000 _ _ (Fits.mk' (by simp[go_sem,aC,aB]) (by simp[go_sem,aC,aB])) (by simp[go_sem,aC,aB]) (by simp[go_sem,aC,aB]) (hsz) (by simp[go_sem,aC,aB]) (by simp[go_sem,aC,aB]) ?_
      repeat' (first|(refine aA fun _ _=>?_)|refine zHg ?_|simp(disch:=omega) [go_sem,hlt,h0,aC,aB])
      refine cJ ⟨39,[(4,.ptr 4 0 0)],(4,⟨false,false,false,2,[.agg [.sc (.string w),.ref 900 0 a.length]],0⟩)::(1000,aB s k4):: [(900,⟨true,false,false,2,a.map aO,0⟩)]⟩ [.agg [.sc (.string w),.ref 900 0 a.length]] (Le.renSub [] [] (by simp[go_sem,aC,aB]) (by simp[go_sem,aC,aB]) (Le.sub4 rfl (by simp[go_sem,aC,aB]))) (by simp[go_sem,aC,aB]) ⟨rfl,rfl⟩
   by_cases h0:G.1.length=0
   ·have hn:=List.eq_nil_of_length_eq_zero h0
    simp only[hn,List.length_nil,if_true,decide_true,List.map_nil]at key ⊢
    exact key.shared rfl (by simp[go_sem]) (by simp[go_sem]) (by simp[go_sem])
   ·simp only[h0,if_false,decide_false]at key ⊢
    refine key.shared (s':=?_) (y:= .agg [.sc (.string w),.list false false (G.1.map aO)]) (by simp[go_sem,cA];rfl) (by simp[go_sem]) (by simp[go_sem]) (by simp[go_sem])
abbrev fR (s:ByteArray) (i:Nat):AObj:=⟨false,false,false,2,[.agg [.sc (.string s),nt .i64 i]],0⟩
theorem bMq (s:ByteArray) (hs:s.size<=1000000) (i:Nat) (w:ByteArray) (hi:i<=s.size):MCall prog 55 [.ptr 1000 0 0,.sc (.string w)] (aC s i) (fun r o'=>r=bH (jS s w i).1/\o'=aC s (jS s w i).2):=by
 have ht:=P1 s hs (s.size+1) i w (by omega) hi
 have htl:=yH (s:=s) (w:=w) hi
 unfold jS
 generalize dK s w i=q at*
 obtain⟨H,j⟩:=q
 dsimp only at*
 generalize hG:jC s [] j=G at*
 have hY:bH ⟨H,G.1⟩=Ab.loose (.agg [.sc (.string H.name),.list false false (H.args.map aO),.list false (decide (G.1.length=0)) (G.1.map cF)]):=rfl
 rw[hY]
 have key:MCall prog 55 [.ptr 1000 0 0,.sc (.string w)] (aC s i) (fun r o'=>r= .agg [.sc (.string H.name),.list false false (H.args.map aO),if G.1.length=0 then .list false true []else .ref 900 0 G.1.length]/\o'=(4,⟨false,false,false,3,[.agg [.sc (.string H.name),.list false false (H.args.map aO),if G.1.length=0 then .list false true []else .ref 900 0 G.1.length]],0⟩)::(1000,aB s G.2)::(if G.1.length=0 then[]else[(900,⟨true,false,false,3,G.1.map cF,0⟩)])):=by
  refine dC func55 call55 rfl (by simp[ntmps55]) ?_;simp only[ntmps55,results55]
  skip
  skip
  repeat' (first|(refine aA fun _ _=>?_)|refine zHg ?_|simp(disch:=omega) [go_sem,aC,aB])
  refine aX [] [] 10000 _ _ (Fits.mk' (by simp[go_sem,aC,aB]) (by simp[go_sem,aC,aB])) (by simp[go_sem,aC,aB]) (by simp[go_sem,aC,aB]) (ht) (by simp[go_sem,aC,aB]) (by simp[go_sem,aC,aB]) ?_
  repeat' (first|(refine aA fun _ _=>?_)|refine zHg ?_|simp(disch:=omega) [go_sem,aC,aB])
  refine bL [0,4,5] [5,900,1000] (fun y:List Lt×Nat=> []) (fun y:List Lt×Nat=>(5,⟨false,false,false,3,[.agg [.sc (.string H.name),.list false false (H.args.map aO),if y.1.length=0 then .list false true []else .ref 900 0 y.1.length]],0⟩)::(1000,aB s y.2)::(if y.1.length=0 then[]else[(900,⟨true,false,false,3,y.1.map cF,0⟩)])) (fun y:List Lt×Nat=>s.size - y.2) (fun y:List Lt×Nat=>y.2<=s.size/\y.1.length<=y.2/\jC s y.1 y.2=G) (([],j)) (Le.sub4 rfl (by simp[go_sem,aC,aB])) ⟨?_⟩ ?_
  ·exact⟨htl,Nat.zero_le _,hG⟩
  intro y ⟨hy2,hy3,hag⟩ AA hAA;simp only[kL,Nat.reduceBEq,Nat.reduceEqDiff]
  obtain⟨a,k⟩:=y
  dsimp only at hy2 hy3 hag ⊢
  clear hG ht
  by_cases hlt:k<s.size
  ·have hsg:=C9 s k 46 hs hy2
   have hsl:=sI (s:=s) (c:=46) hy2
   have hsge:=sH (s:=s) (c:=46) (i:=k)
   have hlim:a.length<=1000000:=by omega
   cases hb:dL s 46 k
   ·rw[hb]at hsg
    have hw1:=D0 s (aT s 46 k) hs hsl
    have hl1:=mO (s:=s) hsl
    have hg1:=mN (s:=s) (i:=aT s 46 k)
    have hw2:=D0 s (aR s (aT s 46 k)) hs hl1
    have hl2:=mO (s:=s) hl1
    have hg2:=mN (s:=s) (i:=aR s (aT s 46 k))
    have hw3:=D0 s (aR s (aR s (aT s 46 k))) hs hl2
    have hl3:=mO (s:=s) hl2
    have hg3:=mN (s:=s) (i:=aR s (aR s (aT s 46 k)))
    have hvoid:=fun hz=>bMn (s:=s) (a:=a) (i:=k) hlt hb hz
    have hgo:=fun hz=>aCv (s:=s) (a:=a) (i:=k) hlt hb hz
    have hgt:=fun hz=>aCu (s:=s) (i:=aT s 46 k) hz
    unfold eX at hvoid hgo hgt
    by_cases hnot:bK s (aR s (aT s 46 k))=aLk
    ·simp only[hnot,if_true,if_false]at hvoid hgo hgt
     rw[hnot]at hw2
     have ht:=P1 s hs (s.size+1) (aR s (aR s (aR s (aT s 46 k)))) (bK s (aR s (aR s (aT s 46 k)))) (by omega) hl3
     have htl2:=yH (s:=s) (w:=bK s (aR s (aR s (aT s 46 k)))) hl3
     have htg:=wB (s:=s) (w:=bK s (aR s (aR s (aT s 46 k)))) (i:=aR s (aR s (aR s (aT s 46 k))))
     by_cases hz:(bK s (aR s (aR s (aT s 46 k)))).size=0
     ·rw[hvoid hz]at hag
      subst hag
      have hz':bK s (aR s (aR s (aT s 46 k)))=⟨#[]⟩:=by
       refine ByteArray.ext ?_
       exact Array.eq_empty_of_size_eq_zero hz
      clear hvoid hgo hgt ht htl2 htg hz
      rw[hz']at hw3
      clear hz'
      generalize aR s (aR s (aR s (aT s 46 k)))=k4 at*
      generalize aR s (aR s (aT s 46 k))=k3 at*
      generalize aR s (aT s 46 k)=k2 at*
      generalize bK s (aT s 46 k)=w1 at*
      generalize aT s 46 k=k1 at*
      dsimp only at*
      by_cases h0:a.length=0
      ·obtain rfl:=List.eq_nil_of_length_eq_zero h0
       all_goals repeat' (first|(refine aA fun _ _=>?_)|refine zHg ?_|simp(disch:=omega) [go_sem,hlt,aC,aB]|refine zDn 11 15 aS ?_|fail)
       all_goals refine aX [] [] 10000 _ _ (Fits.mk' (by simp[go_sem,aC,aB]) (by simp[go_sem,aC,aB])) (by simp[go_sem,aC,aB]) (by simp[go_sem,aC,aB]) (hsg) (by simp[go_sem,aC,aB]) (by simp[go_sem,aC,aB]) ?_
       all_goals repeat' (first|(refine aA fun _ _=>?_)|refine zHg ?_|simp(disch:=omega) [go_sem,hlt,aC,aB])
       all_goals refine aX [] [] 10000 _ _ (Fits.mk' (by simp[go_sem,aC,aB]) (by simp[go_sem,aC,aB])) (by simp[go_sem,aC,aB]) (by simp[go_sem,aC,aB]) (hw1) (by simp[go_sem,aC,aB]) (by simp[go_sem,aC,aB]) ?_
       all_goals repeat' (first|(refine aA fun _ _=>?_)|refine zHg ?_|simp(disch:=omega) [go_sem,hlt,aC,aB])
       all_goals refine aX [] [] 10000 _ _ (Fits.mk' (by simp[go_sem,aC,aB]) (by simp[go_sem,aC,aB])) (by simp[go_sem,aC,aB]) (by simp[go_sem,aC,aB]) (hw2) (by simp[go_sem,aC,aB]) (by simp[go_sem,aC,aB]) ?_
       all_goals repeat' (first|(refine aA fun _ _=>?_)|refine zHg ?_|simp(disch:=omega) [go_sem,hlt,aC,aB])
       all_goals refine aX [] [] 10000 _ _ (Fits.mk' (by simp[go_sem,aC,aB]) (by simp[go_sem,aC,aB])) (by simp[go_sem,aC,aB]) (by simp[go_sem,aC,aB]) (hw3) (by simp[go_sem,aC,aB]) (by simp[go_sem,aC,aB]) ?_
       all_goals repeat' (first|(refine aA fun _ _=>?_)|refine zHg ?_|simp(disch:=omega) [go_sem,hlt,aC,aB])
       all_goals refine cJ ⟨50,[(4,.ptr 4 0 0)],(4,⟨false,false,false,3,[.agg [.sc (.string H.name),.list false false (H.args.map aO),.list false true []]],0⟩)::(1000,aB s k4):: []⟩ [.agg [.sc (.string H.name),.list false false (H.args.map aO),.list false true []]] (Le.renSub [] [] (by simp[go_sem,aC,aB]) (by simp[go_sem,aC,aB]) (Le.sub4 rfl (by simp[go_sem,aC,aB]))) (by simp[go_sem,aC,aB]) ⟨rfl,rfl⟩
      ·have h0': ¬a= []:=fun h=>h0 (by rw[h];rfl)
       all_goals repeat' (first|(refine aA fun _ _=>?_)|refine zHg ?_|simp(disch:=omega) [go_sem,hlt,h0,h0',aC,aB]|refine zDn 11 15 aS ?_|fail)
       all_goals refine aX [] [] 10000 _ _ (Fits.mk' (by simp[go_sem,aC,aB]) (by simp[go_sem,aC,aB])) (by simp[go_sem,aC,aB]) (by simp[go_sem,aC,aB]) (hsg) (by simp[go_sem,aC,aB]) (by simp[go_sem,aC,aB]) ?_
       all_goals repeat' (first|(refine aA fun _ _=>?_)|refine zHg ?_|simp(disch:=omega) [go_sem,hlt,h0,h0',aC,aB])
       all_goals refine aX [] [] 10000 _ _ (Fits.mk' (by simp[go_sem,aC,aB]) (by simp[go_sem,aC,aB])) (by simp[go_sem,aC,aB]) (by simp[go_sem,aC,aB]) (hw1) (by simp[go_sem,aC,aB]) (by simp[go_sem,aC,aB]) ?_
       all_goals repeat' (first|(refine aA fun _ _=>?_)|refine zHg ?_|simp(disch:=omega) [go_sem,hlt,h0,h0',aC,aB])
       all_goals refine aX [] [] 10000 _ _ (Fits.mk' (by simp[go_sem,aC,aB]) (by simp[go_sem,aC,aB])) (by simp[go_sem,aC,aB]) (by simp[go_sem,aC,aB]) (hw2) (by simp[go_sem,aC,aB]) (by simp[go_sem,aC,aB]) ?_
       all_goals repeat' (first|(refine aA fun _ _=>?_)|refine zHg ?_|simp(disch:=omega) [go_sem,hlt,h0,h0',aC,aB])
       all_goals refine aX [] [] 10000 _ _ (Fits.mk' (by simp[go_sem,aC,aB]) (by simp[go_sem,aC,aB])) (by simp[go_sem,aC,aB]) (by simp[go_sem,aC,aB]) (hw3) (by simp[go_sem,aC,aB]) (by simp[go_sem,aC,aB]) ?_
       all_goals repeat' (first|(refine aA fun _ _=>?_)|refine zHg ?_|simp(disch:=omega) [go_sem,hlt,h0,h0',aC,aB])
       all_goals refine cJ ⟨50,[(4,.ptr 4 0 0)],(4,⟨false,false,false,3,[.agg [.sc (.string H.name),.list false false (H.args.map aO),.ref 900 0 a.length]],0⟩)::(1000,aB s k4):: [(900,⟨true,false,false,3,a.map cF,0⟩)]⟩ [.agg [.sc (.string H.name),.list false false (H.args.map aO),.ref 900 0 a.length]] (Le.renSub [] [] (by simp[go_sem,aC,aB]) (by simp[go_sem,aC,aB]) (Le.sub4 rfl (by simp[go_sem,aC,aB]))) (by simp[go_sem,aC,aB]) ⟨rfl,rfl⟩
     ·rw[hgo hz]at hag
      have hgt1:=hgt hz
      have hz': ¬bK s (aR s (aR s (aT s 46 k)))=⟨#[]⟩:=fun h=>hz (by rw[h];rfl)
      clear hvoid hgo hgt hz
      generalize dK s (bK s (aR s (aR s (aT s 46 k)))) (aR s (aR s (aR s (aT s 46 k))))=q at*
      generalize hwd:bK s (aR s (aR s (aT s 46 k)))=wd at*
      clear hwd
      generalize aR s (aR s (aR s (aT s 46 k)))=k4 at*
      generalize aR s (aR s (aT s 46 k))=k3 at*
      generalize aR s (aT s 46 k)=k2 at*
      generalize bK s (aT s 46 k)=w1 at*
      generalize aT s 46 k=k1 at*
      obtain⟨tm,k5⟩:=q
      dsimp only at*
      by_cases h0:a.length=0
      ·obtain rfl:=List.eq_nil_of_length_eq_zero h0
       all_goals repeat' (first|(refine aA fun _ _=>?_)|refine zHg ?_|simp(disch:=omega) [go_sem,hlt,hz',aC,aB]|refine zDn 11 15 aS ?_|fail)
       all_goals refine aX [] [] 10000 _ _ (Fits.mk' (by simp[go_sem,aC,aB]) (by simp[go_sem,aC,aB])) (by simp[go_sem,aC,aB]) (by simp[go_sem,aC,aB]) (hsg) (by simp[go_sem,aC,aB]) (by simp[go_sem,aC,aB]) ?_
       all_goals repeat' (first|(refine aA fun _ _=>?_)|refine zHg ?_|simp(disch:=omega) [go_sem,hlt,hz',aC,aB])
       all_goals refine aX [] [] 10000 _ _ (Fits.mk' (by simp[go_sem,aC,aB]) (by simp[go_sem,aC,aB])) (by simp[go_sem,aC,aB]) (by simp[go_sem,aC,aB]) (hw1) (by simp[go_sem,aC,aB]) (by simp[go_sem,aC,aB]) ?_
       all_goals repeat' (first|(refine aA fun _ _=>?_)|refine zHg ?_|simp(disch:=omega) [go_sem,hlt,hz',aC,aB])
       all_goals refine aX [] [] 10000 _ _ (Fits.mk' (by simp[go_sem,aC,aB]) (by simp[go_sem,aC,aB])) (by simp[go_sem,aC,aB]) (by simp[go_sem,aC,aB]) (hw2) (by simp[go_sem,aC,aB]) (by simp[go_sem,aC,aB]) ?_
       all_goals repeat' (first|(refine aA fun _ _=>?_)|refine zHg ?_|simp(disch:=omega) [go_sem,hlt,hz',aC,aB])
       all_goals refine aX [] [] 10000 _ _ (Fits.mk' (by simp[go_sem,aC,aB]) (by simp[go_sem,aC,aB])) (by simp[go_sem,aC,aB]) (by simp[go_sem,aC,aB]) (hw3) (by simp[go_sem,aC,aB]) (by simp[go_sem,aC,aB]) ?_
       all_goals repeat' (first|(refine aA fun _ _=>?_)|refine zHg ?_|(with_reducible refine cY ?_;first|(exact cV)|(refine zSkip ?_)|(refine cW rfl ?_ ?_))|(with_reducible refine cX ?_;first|(refine zDone ?_)|(refine zQu 0 rfl rfl rfl rfl ?_)|(refine zQu 1 rfl rfl rfl rfl ?_)|(refine zQu 2 rfl rfl rfl rfl ?_)|(refine zQu 3 rfl rfl rfl rfl ?_)|(refine zQu 4 rfl rfl rfl rfl ?_)|(refine zQu 6 rfl rfl rfl rfl ?_)|(refine zQu 7 rfl rfl rfl rfl ?_)|(refine zQu 8 rfl rfl rfl rfl ?_)|(refine zQu 9 rfl rfl rfl rfl ?_)|(refine zQu 10 rfl rfl rfl rfl ?_)|(refine zAll ?_;show cH _ _ _ _ _ _ _))|with_reducible refine dB ?_|simp(disch:=omega) [go_sem,hlt,hz',aC,aB]|refine zAny aS ?_|fail)
       all_goals refine aX [] [] 10000 _ _ (Fits.mk' (by simp[go_sem,aC,aB]) (by simp[go_sem,aC,aB])) (by simp[go_sem,aC,aB]) (by simp[go_sem,aC,aB]) (ht) (by simp[go_sem,aC,aB]) (by simp[go_sem,aC,aB]) ?_
       all_goals repeat' (first|(refine aA fun _ _=>?_)|refine zHg ?_|(with_reducible refine cY ?_;first|(exact cV)|(refine zSkip ?_)|(refine cW rfl ?_ ?_))|(with_reducible refine cX ?_;first|(refine zDone ?_)|(refine zQu 0 rfl rfl rfl rfl ?_)|(refine zQu 1 rfl rfl rfl rfl ?_)|(refine zQu 2 rfl rfl rfl rfl ?_)|(refine zQu 3 rfl rfl rfl rfl ?_)|(refine zQu 4 rfl rfl rfl rfl ?_)|(refine zQu 6 rfl rfl rfl rfl ?_)|(refine zQu 7 rfl rfl rfl rfl ?_)|(refine zQu 8 rfl rfl rfl rfl ?_)|(refine zQu 9 rfl rfl rfl rfl ?_)|(refine zQu 10 rfl rfl rfl rfl ?_)|(refine zAll ?_;show cH _ _ _ _ _ _ _))|with_reducible refine dB ?_|(refine(hAA.next (([⟨true,tm⟩],k5)) (Le.renSub [(47,900)] [(900,47)] (by simp[go_sem]) (by simp[go_sem]) (Le.sub4 rfl (by simp[go_sem]))) (by(try dsimp only);omega) ?_))|simp(disch:=omega) [go_sem,hlt,hz',aC,aB])
       try any_goals omega
       all_goals exact⟨by omega,by(try simp);omega,hag⟩
      ·have h0': ¬a= []:=fun h=>h0 (by rw[h];rfl)
       all_goals repeat' (first|(refine aA fun _ _=>?_)|refine zHg ?_|simp(disch:=omega) [go_sem,hlt,h0,h0',hz',aC,aB]|refine zDn 11 15 aS ?_|fail)
       all_goals refine aX [] [] 10000 _ _ (Fits.mk' (by simp[go_sem,aC,aB]) (by simp[go_sem,aC,aB])) (by simp[go_sem,aC,aB]) (by simp[go_sem,aC,aB]) (hsg) (by simp[go_sem,aC,aB]) (by simp[go_sem,aC,aB]) ?_
       all_goals repeat' (first|(refine aA fun _ _=>?_)|refine zHg ?_|simp(disch:=omega) [go_sem,hlt,h0,h0',hz',aC,aB])
       all_goals refine aX [] [] 10000 _ _ (Fits.mk' (by simp[go_sem,aC,aB]) (by simp[go_sem,aC,aB])) (by simp[go_sem,aC,aB]) (by simp[go_sem,aC,aB]) (hw1) (by simp[go_sem,aC,aB]) (by simp[go_sem,aC,aB]) ?_
       all_goals repeat' (first|(refine aA fun _ _=>?_)|refine zHg ?_|simp(disch:=omega) [go_sem,hlt,h0,h0',hz',aC,aB])
       all_goals refine aX [] [] 10000 _ _ (Fits.mk' (by simp[go_sem,aC,aB]) (by simp[go_sem,aC,aB])) (by simp[go_sem,aC,aB]) (by simp[go_sem,aC,aB]) (hw2) (by simp[go_sem,aC,aB]) (by simp[go_sem,aC,aB]) ?_
       all_goals repeat' (first|(refine aA fun _ _=>?_)|refine zHg ?_|simp(disch:=omega) [go_sem,hlt,h0,h0',hz',aC,aB])
       all_goals refine aX [] [] 10000 _ _ (Fits.mk' (by simp[go_sem,aC,aB]) (by simp[go_sem,aC,aB])) (by simp[go_sem,aC,aB]) (by simp[go_sem,aC,aB]) (hw3) (by simp[go_sem,aC,aB]) (by simp[go_sem,aC,aB]) ?_
       all_goals repeat' (first|(refine aA fun _ _=>?_)|refine zHg ?_|(with_reducible refine cY ?_;first|(exact cV)|(refine zSkip ?_)|(refine cW rfl ?_ ?_))|(with_reducible refine cX ?_;first|(refine zDone ?_)|(refine zQu 0 rfl rfl rfl rfl ?_)|(refine zQu 1 rfl rfl rfl rfl ?_)|(refine zQu 2 rfl rfl rfl rfl ?_)|(refine zQu 3 rfl rfl rfl rfl ?_)|(refine zQu 4 rfl rfl rfl rfl ?_)|(refine zQu 6 rfl rfl rfl rfl ?_)|(refine zQu 7 rfl rfl rfl rfl ?_)|(refine zQu 8 rfl rfl rfl rfl ?_)|(refine zQu 9 rfl rfl rfl rfl ?_)|(refine zQu 10 rfl rfl rfl rfl ?_)|(refine zAll ?_;show cH _ _ _ _ _ _ _))|with_reducible refine dB ?_|simp(disch:=omega) [go_sem,hlt,h0,h0',hz',aC,aB]|refine zAny aS ?_|fail)
       all_goals refine aX [] [] 10000 _ _ (Fits.mk' (by simp[go_sem,aC,aB]) (by simp[go_sem,aC,aB])) (by simp[go_sem,aC,aB]) (by simp[go_sem,aC,aB]) (ht) (by simp[go_sem,aC,aB]) (by simp[go_sem,aC,aB]) ?_
       all_goals repeat' (first|(refine aA fun _ _=>?_)|refine zHg ?_|(with_reducible refine cY ?_;first|(exact cV)|(refine zSkip ?_)|(refine cW rfl ?_ ?_))|(with_reducible refine cX ?_;first|(refine zDone ?_)|(refine zQu 0 rfl rfl rfl rfl ?_)|(refine zQu 1 rfl rfl rfl rfl ?_)|(refine zQu 2 rfl rfl rfl rfl ?_)|(refine zQu 3 rfl rfl rfl rfl ?_)|(refine zQu 4 rfl rfl rfl rfl ?_)|(refine zQu 6 rfl rfl rfl rfl ?_)|(refine zQu 7 rfl rfl rfl rfl ?_)|(refine zQu 8 rfl rfl rfl rfl ?_)|(refine zQu 9 rfl rfl rfl rfl ?_)|(refine zQu 10 rfl rfl rfl rfl ?_)|(refine zAll ?_;show cH _ _ _ _ _ _ _))|with_reducible refine dB ?_|(refine(hAA.next ((a++ [⟨true,tm⟩],k5)) (Le.sub4 rfl (by simp[go_sem])) (by(try dsimp only);omega) ?_))|simp(disch:=omega) [go_sem,hlt,h0,h0',hz',aC,aB]|refine zAo ?_|fail)
       try any_goals omega
       all_goals exact⟨by omega,by(try simp);omega,hag⟩
    ·simp only[hnot,if_false]at hvoid hgo hgt
     have ht:=P1 s hs (s.size+1) (aR s (aR s (aT s 46 k))) (bK s (aR s (aT s 46 k))) (by omega) hl2
     have htl2:=yH (s:=s) (w:=bK s (aR s (aT s 46 k))) hl2
     have htg:=wB (s:=s) (w:=bK s (aR s (aT s 46 k))) (i:=aR s (aR s (aT s 46 k)))
     by_cases hz:(bK s (aR s (aT s 46 k))).size=0
     ·rw[hvoid hz]at hag
      subst hag
      have hz':bK s (aR s (aT s 46 k))=⟨#[]⟩:=by
       refine ByteArray.ext ?_
       exact Array.eq_empty_of_size_eq_zero hz
      clear hvoid hgo hgt ht htl2 htg hz
      rw[hz']at hw2 hnot
      clear hz'
      generalize aR s (aR s (aT s 46 k))=k3 at*
      generalize aR s (aT s 46 k)=k2 at*
      generalize bK s (aT s 46 k)=w1 at*
      generalize aT s 46 k=k1 at*
      dsimp only at*
      by_cases h0:a.length=0
      ·obtain rfl:=List.eq_nil_of_length_eq_zero h0
       all_goals repeat' (first|(refine aA fun _ _=>?_)|refine zHg ?_|simp(disch:=omega) [go_sem,hlt,aC,aB]|refine zDn 11 15 aS ?_|fail)
       all_goals refine aX [] [] 10000 _ _ (Fits.mk' (by simp[go_sem,aC,aB]) (by simp[go_sem,aC,aB])) (by simp[go_sem,aC,aB]) (by simp[go_sem,aC,aB]) (hsg) (by simp[go_sem,aC,aB]) (by simp[go_sem,aC,aB]) ?_
       all_goals repeat' (first|(refine aA fun _ _=>?_)|refine zHg ?_|simp(disch:=omega) [go_sem,hlt,aC,aB])
       all_goals refine aX [] [] 10000 _ _ (Fits.mk' (by simp[go_sem,aC,aB]) (by simp[go_sem,aC,aB])) (by simp[go_sem,aC,aB]) (by simp[go_sem,aC,aB]) (hw1) (by simp[go_sem,aC,aB]) (by simp[go_sem,aC,aB]) ?_
       all_goals repeat' (first|(refine aA fun _ _=>?_)|refine zHg ?_|simp(disch:=omega) [go_sem,hlt,aC,aB])
       all_goals refine aX [] [] 10000 _ _ (Fits.mk' (by simp[go_sem,aC,aB]) (by simp[go_sem,aC,aB])) (by simp[go_sem,aC,aB]) (by simp[go_sem,aC,aB]) (hw2) (by simp[go_sem,aC,aB]) (by simp[go_sem,aC,aB]) ?_
       all_goals repeat' (first|(refine aA fun _ _=>?_)|refine zHg ?_|simp(disch:=omega) [go_sem,hlt,aC,aB])
       all_goals refine cJ ⟨50,[(4,.ptr 4 0 0)],(4,⟨false,false,false,3,[.agg [.sc (.string H.name),.list false false (H.args.map aO),.list false true []]],0⟩)::(1000,aB s k3):: []⟩ [.agg [.sc (.string H.name),.list false false (H.args.map aO),.list false true []]] (Le.renSub [] [] (by simp[go_sem,aC,aB]) (by simp[go_sem,aC,aB]) (Le.sub4 rfl (by simp[go_sem,aC,aB]))) (by simp[go_sem,aC,aB]) ⟨rfl,rfl⟩
      ·have h0': ¬a= []:=fun h=>h0 (by rw[h];rfl)
       all_goals repeat' (first|(refine aA fun _ _=>?_)|refine zHg ?_|simp(disch:=omega) [go_sem,hlt,h0,h0',aC,aB]|refine zDn 11 15 aS ?_|fail)
       all_goals refine aX [] [] 10000 _ _ (Fits.mk' (by simp[go_sem,aC,aB]) (by simp[go_sem,aC,aB])) (by simp[go_sem,aC,aB]) (by simp[go_sem,aC,aB]) (hsg) (by simp[go_sem,aC,aB]) (by simp[go_sem,aC,aB]) ?_
       all_goals repeat' (first|(refine aA fun _ _=>?_)|refine zHg ?_|simp(disch:=omega) [go_sem,hlt,h0,h0',aC,aB])
       all_goals refine aX [] [] 10000 _ _ (Fits.mk' (by simp[go_sem,aC,aB]) (by simp[go_sem,aC,aB])) (by simp[go_sem,aC,aB]) (by simp[go_sem,aC,aB]) (hw1) (by simp[go_sem,aC,aB]) (by simp[go_sem,aC,aB]) ?_
       all_goals repeat' (first|(refine aA fun _ _=>?_)|refine zHg ?_|simp(disch:=omega) [go_sem,hlt,h0,h0',aC,aB])
       all_goals refine aX [] [] 10000 _ _ (Fits.mk' (by simp[go_sem,aC,aB]) (by simp[go_sem,aC,aB])) (by simp[go_sem,aC,aB]) (by simp[go_sem,aC,aB]) (hw2) (by simp[go_sem,aC,aB]) (by simp[go_sem,aC,aB]) ?_
       all_goals repeat' (first|(refine aA fun _ _=>?_)|refine zHg ?_|simp(disch:=omega) [go_sem,hlt,h0,h0',aC,aB])
       all_goals refine cJ ⟨50,[(4,.ptr 4 0 0)],(4,⟨false,false,false,3,[.agg [.sc (.string H.name),.list false false (H.args.map aO),.ref 900 0 a.length]],0⟩)::(1000,aB s k3):: [(900,⟨true,false,false,3,a.map cF,0⟩)]⟩ [.agg [.sc (.string H.name),.list false false (H.args.map aO),.ref 900 0 a.length]] (Le.renSub [] [] (by simp[go_sem,aC,aB]) (by simp[go_sem,aC,aB]) (Le.sub4 rfl (by simp[go_sem,aC,aB]))) (by simp[go_sem,aC,aB]) ⟨rfl,rfl⟩
     ·rw[hgo hz]at hag
      have hgt1:=hgt hz
      have hz': ¬bK s (aR s (aT s 46 k))=⟨#[]⟩:=fun h=>hz (by rw[h];rfl)
      clear hvoid hgo hgt hz
      generalize dK s (bK s (aR s (aT s 46 k))) (aR s (aR s (aT s 46 k)))=q at*
      generalize hwd:bK s (aR s (aT s 46 k))=wd at*
      clear hwd
      generalize aR s (aR s (aT s 46 k))=k3 at*
      generalize aR s (aT s 46 k)=k2 at*
      generalize bK s (aT s 46 k)=w1 at*
      generalize aT s 46 k=k1 at*
      obtain⟨tm,k5⟩:=q
      dsimp only at*
      by_cases h0:a.length=0
      ·obtain rfl:=List.eq_nil_of_length_eq_zero h0
       all_goals repeat' (first|(refine aA fun _ _=>?_)|refine zHg ?_|simp(disch:=omega) [go_sem,hlt,hz',hnot,aC,aB]|refine zDn 11 15 aS ?_|fail)
       all_goals refine aX [] [] 10000 _ _ (Fits.mk' (by simp[go_sem,aC,aB]) (by simp[go_sem,aC,aB])) (by simp[go_sem,aC,aB]) (by simp[go_sem,aC,aB]) (hsg) (by simp[go_sem,aC,aB]) (by simp[go_sem,aC,aB]) ?_
       all_goals repeat' (first|(refine aA fun _ _=>?_)|refine zHg ?_|simp(disch:=omega) [go_sem,hlt,hz',hnot,aC,aB])
       all_goals refine aX [] [] 10000 _ _ (Fits.mk' (by simp[go_sem,aC,aB]) (by simp[go_sem,aC,aB])) (by simp[go_sem,aC,aB]) (by simp[go_sem,aC,aB]) (hw1) (by simp[go_sem,aC,aB]) (by simp[go_sem,aC,aB]) ?_
       all_goals repeat' (first|(refine aA fun _ _=>?_)|refine zHg ?_|simp(disch:=omega) [go_sem,hlt,hz',hnot,aC,aB])
       all_goals refine aX [] [] 10000 _ _ (Fits.mk' (by simp[go_sem,aC,aB]) (by simp[go_sem,aC,aB])) (by simp[go_sem,aC,aB]) (by simp[go_sem,aC,aB]) (hw2) (by simp[go_sem,aC,aB]) (by simp[go_sem,aC,aB]) ?_
       all_goals repeat' (first|(refine aA fun _ _=>?_)|refine zHg ?_|(with_reducible refine cY ?_;first|(exact cV)|(refine zSkip ?_)|(refine cW rfl ?_ ?_))|(with_reducible refine cX ?_;first|(refine zDone ?_)|(refine zQu 0 rfl rfl rfl rfl ?_)|(refine zQu 1 rfl rfl rfl rfl ?_)|(refine zQu 2 rfl rfl rfl rfl ?_)|(refine zQu 3 rfl rfl rfl rfl ?_)|(refine zQu 4 rfl rfl rfl rfl ?_)|(refine zQu 6 rfl rfl rfl rfl ?_)|(refine zQu 7 rfl rfl rfl rfl ?_)|(refine zQu 8 rfl rfl rfl rfl ?_)|(refine zQu 9 rfl rfl rfl rfl ?_)|(refine zQu 10 rfl rfl rfl rfl ?_)|(refine zAll ?_;show cH _ _ _ _ _ _ _))|with_reducible refine dB ?_|simp(disch:=omega) [go_sem,hlt,hz',hnot,aC,aB]|refine zAny aS ?_|fail)
       all_goals refine aX [] [] 10000 _ _ (Fits.mk' (by simp[go_sem,aC,aB]) (by simp[go_sem,aC,aB])) (by simp[go_sem,aC,aB]) (by simp[go_sem,aC,aB]) (ht) (by simp[go_sem,aC,aB]) (by simp[go_sem,aC,aB]) ?_
       all_goals repeat' (first|(refine aA fun _ _=>?_)|refine zHg ?_|(with_reducible refine cY ?_;first|(exact cV)|(refine zSkip ?_)|(refine cW rfl ?_ ?_))|(with_reducible refine cX ?_;first|(refine zDone ?_)|(refine zQu 0 rfl rfl rfl rfl ?_)|(refine zQu 1 rfl rfl rfl rfl ?_)|(refine zQu 2 rfl rfl rfl rfl ?_)|(refine zQu 3 rfl rfl rfl rfl ?_)|(refine zQu 4 rfl rfl rfl rfl ?_)|(refine zQu 6 rfl rfl rfl rfl ?_)|(refine zQu 7 rfl rfl rfl rfl ?_)|(refine zQu 8 rfl rfl rfl rfl ?_)|(refine zQu 9 rfl rfl rfl rfl ?_)|(refine zQu 10 rfl rfl rfl rfl ?_)|(refine zAll ?_;show cH _ _ _ _ _ _ _))|with_reducible refine dB ?_|(refine(hAA.next (([⟨false,tm⟩],k5)) (Le.renSub [(47,900)] [(900,47)] (by simp[go_sem]) (by simp[go_sem]) (Le.sub4 rfl (by simp[go_sem]))) (by(try dsimp only);omega) ?_))|simp(disch:=omega) [go_sem,hlt,hz',hnot,aC,aB])
       try any_goals omega
       all_goals exact⟨by omega,by(try simp);omega,hag⟩
      ·have h0': ¬a= []:=fun h=>h0 (by rw[h];rfl)
       all_goals repeat' (first|(refine aA fun _ _=>?_)|refine zHg ?_|simp(disch:=omega) [go_sem,hlt,h0,h0',hz',hnot,aC,aB]|refine zDn 11 15 aS ?_|fail)
       all_goals refine aX [] [] 10000 _ _ (Fits.mk' (by simp[go_sem,aC,aB]) (by simp[go_sem,aC,aB])) (by simp[go_sem,aC,aB]) (by simp[go_sem,aC,aB]) (hsg) (by simp[go_sem,aC,aB]) (by simp[go_sem,aC,aB]) ?_
       all_goals repeat' (first|(refine aA fun _ _=>?_)|refine zHg ?_|simp(disch:=omega) [go_sem,hlt,h0,h0',hz',hnot,aC,aB])
       all_goals refine aX [] [] 10000 _ _ (Fits.mk' (by simp[go_sem,aC,aB]) (by simp[go_sem,aC,aB])) (by simp[go_sem,aC,aB]) (by simp[go_sem,aC,aB]) (hw1) (by simp[go_sem,aC,aB]) (by simp[go_sem,aC,aB]) ?_
       all_goals repeat' (first|(refine aA fun _ _=>?_)|refine zHg ?_|simp(disch:=omega) [go_sem,hlt,h0,h0',hz',hnot,aC,aB])
       all_goals refine aX [] [] 10000 _ _ (Fits.mk' (by simp[go_sem,aC,aB]) (by simp[go_sem,aC,aB])) (by simp[go_sem,aC,aB]) (by simp[go_sem,aC,aB]) (hw2) (by simp[go_sem,aC,aB]) (by simp[go_sem,aC,aB]) ?_
       all_goals repeat' (first|(refine aA fun _ _=>?_)|refine zHg ?_|(with_reducible refine cY ?_;first|(exact cV)|(refine zSkip ?_)|(refine cW rfl ?_ ?_))|(with_reducible refine cX ?_;first|(refine zDone ?_)|(refine zQu 0 rfl rfl rfl rfl ?_)|(refine zQu 1 rfl rfl rfl rfl ?_)|(refine zQu 2 rfl rfl rfl rfl ?_)|(refine zQu 3 rfl rfl rfl rfl ?_)|(refine zQu 4 rfl rfl rfl rfl ?_)|(refine zQu 6 rfl rfl rfl rfl ?_)|(refine zQu 7 rfl rfl rfl rfl ?_)|(refine zQu 8 rfl rfl rfl rfl ?_)|(refine zQu 9 rfl rfl rfl rfl ?_)|(refine zQu 10 rfl rfl rfl rfl ?_)|(refine zAll ?_;show cH _ _ _ _ _ _ _))|with_reducible refine dB ?_|simp(disch:=omega) [go_sem,hlt,h0,h0',hz',hnot,aC,aB]|refine zAny aS ?_|fail)
       all_goals refine aX [] [] 10000 _ _ (Fits.mk' (by simp[go_sem,aC,aB]) (by simp[go_sem,aC,aB])) (by simp[go_sem,aC,aB]) (by simp[go_sem,aC,aB]) (ht) (by simp[go_sem,aC,aB]) (by simp[go_sem,aC,aB]) ?_
       all_goals repeat' (first|(refine aA fun _ _=>?_)|refine zHg ?_|(with_reducible refine cY ?_;first|(exact cV)|(refine zSkip ?_)|(refine cW rfl ?_ ?_))|(with_reducible refine cX ?_;first|(refine zDone ?_)|(refine zQu 0 rfl rfl rfl rfl ?_)|(refine zQu 1 rfl rfl rfl rfl ?_)|(refine zQu 2 rfl rfl rfl rfl ?_)|(refine zQu 3 rfl rfl rfl rfl ?_)|(refine zQu 4 rfl rfl rfl rfl ?_)|(refine zQu 6 rfl rfl rfl rfl ?_)|(refine zQu 7 rfl rfl rfl rfl ?_)|(refine zQu 8 rfl rfl rfl rfl ?_)|(refine zQu 9 rfl rfl rfl rfl ?_)|(refine zQu 10 rfl rfl rfl rfl ?_)|(refine zAll ?_;show cH _ _ _ _ _ _ _))|with_reducible refine dB ?_|(refine(hAA.next ((a++ [⟨false,tm⟩],k5)) (Le.sub4 rfl (by simp[go_sem])) (by(try dsimp only);omega) ?_))|simp(disch:=omega) [go_sem,hlt,h0,h0',hz',hnot,aC,aB]|refine zAo ?_|fail)
       try any_goals omega
       all_goals exact⟨by omega,by(try simp);omega,hag⟩
   ·rw[C7 hlt hb]at hag
    subst hag
    rw[hb]at hsg
    generalize aT s 46 k=k1 at*
    dsimp only at*
    by_cases h0:a.length=0
    ·obtain rfl:=List.eq_nil_of_length_eq_zero h0
     all_goals repeat' (first|(refine aA fun _ _=>?_)|refine zHg ?_|simp(disch:=omega) [go_sem,hlt,aC,aB]|refine zDn 11 15 aS ?_|fail)
     all_goals refine aX [] [] 10000 _ _ (Fits.mk' (by simp[go_sem,aC,aB]) (by simp[go_sem,aC,aB])) (by simp[go_sem,aC,aB]) (by simp[go_sem,aC,aB]) (hsg) (by simp[go_sem,aC,aB]) (by simp[go_sem,aC,aB]) ?_
     all_goals repeat' (first|(refine aA fun _ _=>?_)|refine zHg ?_|simp(disch:=omega) [go_sem,hlt,aC,aB])
     all_goals refine cJ ⟨50,[(4,.ptr 4 0 0)],(4,⟨false,false,false,3,[.agg [.sc (.string H.name),.list false false (H.args.map aO),.list false true []]],0⟩)::(1000,aB s k1):: []⟩ [.agg [.sc (.string H.name),.list false false (H.args.map aO),.list false true []]] (Le.renSub [] [] (by simp[go_sem,aC,aB]) (by simp[go_sem,aC,aB]) (Le.sub4 rfl (by simp[go_sem,aC,aB]))) (by simp[go_sem,aC,aB]) ⟨rfl,rfl⟩
    ·have h0': ¬a= []:=fun h=>h0 (by rw[h];rfl)
     all_goals repeat' (first|(refine aA fun _ _=>?_)|refine zHg ?_|simp(disch:=omega) [go_sem,hlt,h0,h0',aC,aB]|refine zDn 11 15 aS ?_|fail)
     all_goals refine aX [] [] 10000 _ _ (Fits.mk' (by simp[go_sem,aC,aB]) (by simp[go_sem,aC,aB])) (by simp[go_sem,aC,aB]) (by simp[go_sem,aC,aB]) (hsg) (by simp[go_sem,aC,aB]) (by simp[go_sem,aC,aB]) ?_
     all_goals repeat' (first|(refine aA fun _ _=>?_)|refine zHg ?_|simp(disch:=omega) [go_sem,hlt,h0,h0',aC,aB])
     all_goals refine cJ ⟨50,[(4,.ptr 4 0 0)],(4,⟨false,false,false,3,[.agg [.sc (.string H.name),.list false false (H.args.map aO),.ref 900 0 a.length]],0⟩)::(1000,aB s k1):: [(900,⟨true,false,false,3,a.map cF,0⟩)]⟩ [.agg [.sc (.string H.name),.list false false (H.args.map aO),.ref 900 0 a.length]] (Le.renSub [] [] (by simp[go_sem,aC,aB]) (by simp[go_sem,aC,aB]) (Le.sub4 rfl (by simp[go_sem,aC,aB]))) (by simp[go_sem,aC,aB]) ⟨rfl,rfl⟩
  ·rw[bMm hlt]at hag
   subst hag
   dsimp only at*
   by_cases h0:a.length=0
   ·obtain rfl:=List.eq_nil_of_length_eq_zero h0
    all_goals repeat' (first|(refine aA fun _ _=>?_)|refine zHg ?_|simp(disch:=omega) [go_sem,hlt,aC,aB]|refine zDn 11 15 aS ?_|fail)
    all_goals refine cJ ⟨50,[(4,.ptr 4 0 0)],(4,⟨false,false,false,3,[.agg [.sc (.string H.name),.list false false (H.args.map aO),.list false true []]],0⟩)::(1000,aB s k):: []⟩ [.agg [.sc (.string H.name),.list false false (H.args.map aO),.list false true []]] (Le.renSub [] [] (by simp[go_sem,aC,aB]) (by simp[go_sem,aC,aB]) (Le.sub4 rfl (by simp[go_sem,aC,aB]))) (by simp[go_sem,aC,aB]) ⟨rfl,rfl⟩
   ·have h0': ¬a= []:=fun h=>h0 (by rw[h];rfl)
    all_goals repeat' (first|(refine aA fun _ _=>?_)|refine zHg ?_|simp(disch:=omega) [go_sem,hlt,h0,h0',aC,aB]|refine zDn 11 15 aS ?_|fail)
    all_goals refine cJ ⟨50,[(4,.ptr 4 0 0)],(4,⟨false,false,false,3,[.agg [.sc (.string H.name),.list false false (H.args.map aO),.ref 900 0 a.length]],0⟩)::(1000,aB s k):: [(900,⟨true,false,false,3,a.map cF,0⟩)]⟩ [.agg [.sc (.string H.name),.list false false (H.args.map aO),.ref 900 0 a.length]] (Le.renSub [] [] (by simp[go_sem,aC,aB]) (by simp[go_sem,aC,aB]) (Le.sub4 rfl (by simp[go_sem,aC,aB]))) (by simp[go_sem,aC,aB]) ⟨rfl,rfl⟩
 by_cases h0:G.1.length=0
 ·have hn:=List.eq_nil_of_length_eq_zero h0
  simp only[hn,List.length_nil,if_true,decide_true,List.map_nil]at key ⊢
  exact key.shared rfl (by simp[go_sem]) (by simp[go_sem]) (by simp[go_sem])
 ·simp only[h0,if_false,decide_false]at key ⊢
  refine key.shared (s':=?_) (y:= .agg [.sc (.string H.name),.list false false (H.args.map aO),.list false false (G.1.map cF)]) (by simp[go_sem,cA];rfl) (by simp[go_sem]) (by simp[go_sem]) (by simp[go_sem])
theorem aLq (s:ByteArray) (hs:s.size<=1000000):ACall prog 23 [.sc (.string s)] (fun r=>r= .own 3 ((mQ s [] 0).map bH)):=by
 generalize hG:mQ s [] 0=G at*
 refine ACall.own_nil ?_
 refine aQ func23 call23 rfl (by simp[ntmps23]) ?_;simp only[ntmps23,results23]
 repeat' (first|(refine aA fun _ _=>?_)|refine zHg ?_|simp(disch:=omega) [go_sem])
 refine bL [3] [8,900] (fun y:List Rl×Nat=> [(4,.ref 900 0 y.1.length)]) (fun y:List Rl×Nat=> [(8,fR s y.2),(900,⟨true,false,false,3,y.1.map bH,0⟩)]) (fun y:List Rl×Nat=>s.size - y.2) (fun y:List Rl×Nat=>y.2<=s.size/\y.1.length<=y.2/\mQ s y.1 y.2=G) (([],0)) (by refine Le.trans ?_ (Le.nil (i:=4) (T:=900) (es:=3) rfl);exact(Le.sub4 rfl (by simp[go_sem,fR,List.map_nil,List.length_nil]))) ⟨?_⟩ ?_
 ·exact⟨Nat.zero_le _,Nat.zero_le _,hG⟩
 intro y ⟨hy2,hy3,hag⟩ AA hAA;simp only[kL,Nat.reduceBEq,Nat.reduceEqDiff]
 obtain⟨a,k⟩:=y
 dsimp only at hy2 hy3 hag ⊢
 clear hG
 have hwd:=D0 s k hs hy2
 have hwl:=mO (s:=s) hy2
 by_cases hz:(bK s k).size=0
 ·rw[aCy hz]at hag
  subst hag
  have hz':bK s k=⟨#[]⟩:=by
   refine ByteArray.ext ?_
   exact Array.eq_empty_of_size_eq_zero hz
  rw[hz']at hwd
  clear hz hz'
  generalize aR s k=k1 at*
  try dsimp only at*
  repeat' (first|(refine aA fun _ _=>?_)|refine zHg ?_|simp(disch:=omega) [go_sem,fR])
  refine aX [(1000,8)] [(8,1000)] 10000 _ _ (Fits.mk' (by simp[go_sem,aC,aB,fR]) (by simp[go_sem,aC,aB,fR])) (by simp[go_sem,aC,aB,fR]) (by simp[go_sem,aC,aB,fR]) (hwd) (by simp[go_sem,aC,aB,fR]) (by simp[go_sem,aC,aB,fR]) ?_
  repeat' (first|(refine aA fun _ _=>?_)|refine zHg ?_|(refine aM [] ?_;simp[go_sem,fR])|simp(disch:=omega) [go_sem,fR])
 ·rw[C8 hy2 hz]at hag
  have hgt:=C6 hz
  have hru:=bMq s hs (aR s k) (bK s k) hwl
  have hrl:=aCx (s:=s) (w:=bK s k) hwl
  have hrg:=aCw (s:=s) (w:=bK s k) (i:=aR s k)
  have hlim:a.length<=1000000:=by omega
  have hz': ¬bK s k=⟨#[]⟩:=fun h=>hz (by rw[h];rfl)
  clear hz
  generalize jS s (bK s k) (aR s k)=q at*
  generalize bK s k=wd at*
  generalize aR s k=k1 at*
  obtain⟨r,k2⟩:=q
  try dsimp only at*
  repeat' (first|(refine aA fun _ _=>?_)|refine zHg ?_|simp(disch:=omega) [go_sem,fR,hz'])
  refine aX [(1000,8)] [(8,1000)] 10000 _ _ (Fits.mk' (by simp[go_sem,aC,aB,fR]) (by simp[go_sem,aC,aB,fR])) (by simp[go_sem,aC,aB,fR]) (by simp[go_sem,aC,aB,fR]) (hwd) (by simp[go_sem,aC,aB,fR]) (by simp[go_sem,aC,aB,fR]) ?_
  repeat' (first|(refine aA fun _ _=>?_)|refine zHg ?_|simp(disch:=omega) [go_sem,fR,hz'])
  refine aX [(1000,8)] [(8,1000)] 10000 _ _ (Fits.mk' (by simp[go_sem,aC,aB,fR]) (by simp[go_sem,aC,aB,fR])) (by simp[go_sem,aC,aB,fR]) (by simp[go_sem,aC,aB,fR]) (hru) (by simp[go_sem,aC,aB,fR]) (by simp[go_sem,aC,aB,fR]) ?_
  repeat' (first|(refine aA fun _ _=>?_)|refine zHg ?_|(refine(hAA.next ((a++ [r],k2)) (Le.sub4 rfl (by simp[go_sem,fR])) (by(try dsimp only);omega) ?_))|simp(disch:=omega) [go_sem,fR,hz']|refine zAo ?_|fail)
  try any_goals omega
  exact⟨by omega,by(try simp);omega,hag⟩
set_option maxHeartbeats 8000000
def aI (s:ByteArray):AV:= .sc (.string s)
mutual
def lB:Tm->List ByteArray
 | .mk s ts=>if ts.length=0 then[s]else dM ts
def dM:List Tm->List ByteArray
 | []=> []
 |t::r=>lB t++dM r
end
theorem D1 {s:ByteArray} {ts:List Tm}:lB (.mk s ts)=if ts.length=0 then[s]else dM ts:=rfl
theorem P2: ∀a b:List Tm,dM (a++b)=dM a++dM b
 | [],b=>by simp[dM]
 |t::r,b=>by simp[dM,P2 r b]
theorem D2 {ts:List Tm} {i:Nat} (h:i<ts.length):dM (ts.take (i+1))=dM (ts.take i)++lB ts[i]:=by
 rw[eZ h,P2];simp[dM]
theorem P3 (ts:List Tm) (i:Nat):(dM (ts.take i)).length<=(dM ts).length:=by
 have:=P2 (ts.take i) (ts.drop i)
 rw[List.take_append_drop]at this
 simp only[this,List.length_append];omega
theorem bMr: ∀t:Tm,0<(lB t).length:=by
 refine fL fun t ih=>?_
 obtain⟨s,ts⟩:=t
 simp only[bX]at ih
 rw[D1]
 split
 ·simp
 ·cases ts with
  |nil=>simp at*
  |cons u r=>
   have:=ih u (by simp)
   simp only[dM,List.length_append];omega
theorem P4: ∀ts:List Tm,ts.length<=(dM ts).length
 | []=>Nat.le_refl _
 |t::r=>by
  have:=P4 r
  have:=bMr t
  simp only[dM,List.length_append,List.length_cons];omega
theorem bMs: ∀t:Tm,∀xs:List ByteArray,xs.length+(lB t).length<=1000000->MCall prog 128 [.ref 1000 0 xs.length,eT t] [(1000,⟨true,false,true,1,xs.map aI,0⟩)] (fun r o'=>r= .ref 1001 0 (xs++lB t).length/\o'= [(1001,⟨true,false,false,1,(xs++lB t).map aI,0⟩)]):=by
 refine fL fun t ih xs hb=>?_
 obtain⟨s,ts⟩:=t
 simp only[bX,iT]at*
 rw[D1]at*
 by_cases h0:ts.length=0
 ·rw[if_pos h0]at hb ⊢
  simp only[List.length_cons,List.length_nil]at hb
  refine dC func128 call128 rfl (by simp[ntmps128]) ?_;simp only[ntmps128,results128]
  repeat' (first|(refine aA fun _ _=>?_)|refine zHg ?_|simp(disch:=omega) [go_sem,h0]|refine zAo ?_|fail)
  refine cJ ⟨28,[(4,.ref 1001 0 (xs++ [s]).length)],[(1001,⟨true,false,false,1,(xs++ [s]).map aI,0⟩)]⟩ [.ref 1001 0 (xs++ [s]).length] (Le.renSub [(15,1001)] [(1001,15)] (by simp[go_sem,aI]) (by simp[go_sem,aI]) (Le.sub4 rfl (by simp[go_sem,aI]))) (by simp[go_sem,aI]) ⟨by simp[iS],by simp⟩
 ·rw[if_neg h0]at hb ⊢
  have hle:=P3 ts
  have hge:=P4 ts
  refine dC func128 call128 rfl (by simp[ntmps128]) ?_;simp only[ntmps128,results128]
  repeat' (first|(refine aA fun _ _=>?_)|refine zHg ?_|simp(disch:=omega) [go_sem,h0])
  refine bL [17,18] [900,1000] (fun i:Nat=> [(19,nt .i64 i),(0,.ref 900 0 (xs++dM (ts.take i)).length)]) (fun i:Nat=> [(900,⟨true,false,false,1,(xs++dM (ts.take i)).map aI,0⟩)]) (fun i:Nat=>ts.length - i) (fun i:Nat=>i<=ts.length) (0) (by refine Le.trans ?_ (Le.move (i:=0) (T:=1000) (T':=900) rfl (by show(0:Nat)≠1;decide) rfl rfl rfl);exact(Le.sub4 rfl (by simp[go_sem,List.take_zero,dM]))) ⟨?_⟩ ?_
  ·exact Nat.zero_le _
  intro i hi AA hAA;simp only[kL,Nat.reduceBEq,Nat.reduceEqDiff]
  by_cases hlt:i<ts.length
  ·have hn:=D2 hlt
   have hl1:=hle (i+1)
   rw[hn]at hl1
   rw[List.length_append]at hl1
   have hu:=ih ts[i] (List.getElem_mem hlt) (xs++dM (ts.take i)) (by rw[List.length_append];omega)
   rw[List.append_assoc,<-hn]at hu
   generalize xs++dM (ts.take i)=A at*
   repeat' (first|(refine aA fun _ _=>?_)|refine zHg ?_|simp(disch:=omega) [go_sem,hlt])
   refine aX [(1000,900)] [(900,1000)] 10000 _ _ (Fits.mk' (by simp[go_sem]) (by simp[go_sem])) (by simp[go_sem]) (by simp[go_sem]) (hu) (by simp[go_sem]) (by simp[go_sem]) ?_
   repeat' (first|(refine aA fun _ _=>?_)|refine zHg ?_|(refine(hAA.next (i+1) (Le.renSub [(11001,900)] [(900,11001)] (by simp[go_sem]) (by simp[go_sem]) (Le.sub4 rfl (by simp[go_sem]))) (by(try dsimp only);omega) ?_))|simp(disch:=omega) [go_sem,hlt])
   try any_goals omega
   exact⟨hlt⟩
  ·obtain rfl:i=ts.length:=by omega
   rw[List.take_length]
   repeat' (first|(refine aA fun _ _=>?_)|refine zHg ?_|simp(disch:=omega) [go_sem])
   refine cJ ⟨28,[(4,.ref 1001 0 (xs++dM ts).length)],[(1001,⟨true,false,false,1,(xs++dM ts).map aI,0⟩)]⟩ [.ref 1001 0 (xs++dM ts).length] (Le.renSub [(900,1001)] [(1001,900)] (by simp[go_sem]) (by simp[go_sem]) (Le.sub4 rfl (by simp[go_sem]))) (by simp[go_sem]) ⟨by simp[iS],by simp⟩
theorem bMt (t:Tm) (hb:(lB t).length<=1000000):ACall prog 128 [.list false true [],eT t] (fun r=>r= .own 1 ((lB t).map aI)):=by
 obtain⟨s,ts⟩:=t
 rw[D1]at*
 by_cases h0:ts.length=0
 ·rw[if_pos h0]at hb ⊢
  refine aQ func128 call128 rfl (by simp[ntmps128]) ?_;simp only[ntmps128,results128]
  repeat' (first|(refine aA fun _ _=>?_)|refine zHg ?_|(refine aM [] ?_;simp[go_sem,h0,aI])|simp(disch:=omega) [go_sem,h0,aI])
 ·rw[if_neg h0]at hb ⊢
  have hle:=P3 ts
  have hge:=P4 ts
  refine aQ func128 call128 rfl (by simp[ntmps128]) ?_;simp only[ntmps128,results128]
  repeat' (first|(refine aA fun _ _=>?_)|refine zHg ?_|simp(disch:=omega) [go_sem,h0])
  refine bL [17,18] [900] (fun i:Nat=> [(19,nt .i64 i),(0,.ref 900 0 (dM (ts.take i)).length)]) (fun i:Nat=> [(900,⟨true,false,false,1,(dM (ts.take i)).map aI,0⟩)]) (fun i:Nat=>ts.length - i) (fun i:Nat=>i<=ts.length) (0) (by refine Le.trans ?_ (Le.nil (i:=0) (T:=900) (es:=1) rfl);exact(Le.sub4 rfl (by simp[go_sem,List.take_zero,dM]))) ⟨?_⟩ ?_
  ·exact Nat.zero_le _
  intro i hi AA hAA;simp only[kL,Nat.reduceBEq,Nat.reduceEqDiff]
  by_cases hlt:i<ts.length
  ·have hn:=D2 hlt
   have hl1:=hle (i+1)
   rw[hn]at hl1
   rw[List.length_append]at hl1
   have hu:=bMs ts[i] (dM (ts.take i)) (by omega)
   rw[<-hn]at hu
   generalize dM (ts.take i)=A at*
   repeat' (first|(refine aA fun _ _=>?_)|refine zHg ?_|simp(disch:=omega) [go_sem,hlt])
   refine aX [(1000,900)] [(900,1000)] 10000 _ _ (Fits.mk' (by simp[go_sem]) (by simp[go_sem])) (by simp[go_sem]) (by simp[go_sem]) (hu) (by simp[go_sem]) (by simp[go_sem]) ?_
   repeat' (first|(refine aA fun _ _=>?_)|refine zHg ?_|(refine(hAA.next (i+1) (Le.renSub [(11001,900)] [(900,11001)] (by simp[go_sem]) (by simp[go_sem]) (Le.sub4 rfl (by simp[go_sem]))) (by(try dsimp only);omega) ?_))|simp(disch:=omega) [go_sem,hlt])
   try any_goals omega
   exact⟨hlt⟩
  ·obtain rfl:i=ts.length:=by omega
   rw[List.take_length]
   repeat' (first|(refine aA fun _ _=>?_)|refine zHg ?_|(refine aM [] ?_;simp[go_sem])|simp(disch:=omega) [go_sem])
open Go.Ab
set_option maxRecDepth 100000
set_option maxHeartbeats 8000000
def rD (l:List ByteArray) (s:ByteArray):Int:=if l.findIdx (fun u=>decide (u=s))<l.length then l.findIdx (fun u=>decide (u=s))else -1
theorem bMu {l:List ByteArray} {s:ByteArray} {i:Nat} (h:i<l.length) (he:l[i]=s) (hn: ∀(k:Nat) (hk:k<l.length),k<i-> ¬l[k]=s):rD l s=i:=by
 have e:l.findIdx (fun u=>decide (u=s))=i:=by
  rw[List.findIdx_eq h]
  exact⟨by simp[he],fun j hj=>by simpa using hn j (by omega) hj⟩
 unfold rD
 rw[e,if_pos h]
theorem bMv {l:List ByteArray} {s:ByteArray} (hn: ∀(k:Nat) (hk:k<l.length),k<l.length-> ¬l[k]=s):rD l s= -1:=by
 unfold rD
 rw[if_neg]
 intro h
 have:=List.findIdx_getElem (w:=h)
 simp only[decide_eq_true_eq]at this
 exact hn _ h h this
theorem bMw {l:List ByteArray} {s:ByteArray}:0<=rD l s↔s∈l:=by
 unfold rD
 by_cases h:s∈l
 ·have:l.findIdx (fun u=>decide (u=s))<l.length:=by
   rw[List.findIdx_lt_length];exact⟨s,h,by simp⟩
  rw[if_pos this]
  simp[h]
 ·rw[if_neg]
  ·simp[h]
  ·rw[List.findIdx_lt_length]
   rintro⟨u,hu,he⟩
   simp only[decide_eq_true_eq]at he
   exact h (he▸hu)
theorem bMx (l:List ByteArray) (s:ByteArray) (le fu:Bool):ACall prog 134 [.list le fu (l.map aI),.sc (.string s)] (fun r=>r=nt .i64 (rD l s)):=by
 refine ACall.bound (i:=0) rfl call134 fun hb=>?_
 rw[List.length_map]at hb
 have hb:l.length<=140737488355328:=hb
 generalize hR:rD l s=R
 refine aQ func134 call134 rfl (by simp[ntmps134]) ?_;simp only[ntmps134,results134]
 repeat' (first|(refine aA fun _ _=>?_)|refine zHg ?_|simp(disch:=omega) [go_sem])
 refine bL [0,1,7] [] (fun i:Nat=> [(8,nt .i64 i)]) (fun i:Nat=> []) (fun i:Nat=>l.length - i) (fun i:Nat=>i<=l.length/\ ∀(k:Nat) (hk:k<l.length),k<i-> ¬l[k]=s) (0) (Le.sub4 rfl (by simp[go_sem])) ⟨?_⟩ ?_
 ·exact⟨Nat.zero_le _,fun k _ hk=>absurd hk (Nat.not_lt_zero _)⟩
 intro i ⟨hi,hn⟩ AA hAA;simp only[kL,Nat.reduceBEq,Nat.reduceEqDiff]
 by_cases hlt:i<l.length
 ·by_cases hq:l[i]=s
  ·have hu:=bMu hlt hq hn
   rw[hR]at hu
   subst hu
   have hq':s=l[i]:=hq.symm
   repeat' (first|(refine aA fun _ _=>?_)|refine zHg ?_|(refine aM [] ?_;simp[go_sem,hlt,aI,hq'])|simp(disch:=omega) [go_sem,hlt,aI,hq'])
  ·have hq': ¬s=l[i]:=fun h=>hq h.symm
   repeat' (first|(refine aA fun _ _=>?_)|refine zHg ?_|(refine(hAA.next (i+1) (Le.sub4 rfl (by simp[go_sem])) (by(try dsimp only);omega) ?_))|simp(disch:=omega) [go_sem,hlt,aI,hq'])
   try any_goals omega
   exact⟨hlt,fun k hk hki=>by rcases Nat.lt_or_eq_of_le (Nat.le_of_lt_succ hki)with h|rfl;exact hn k hk h;exact hq⟩
 ·obtain rfl:i=l.length:=by omega
  have hu:=bMv hn
  rw[hR]at hu
  subst hu
  repeat' (first|(refine aA fun _ _=>?_)|refine zHg ?_|(refine aM [] ?_;simp[go_sem])|simp(disch:=omega) [go_sem])
def fS (l:List ByteArray) (s:ByteArray):Bool:=l.any fun u=>decide (u=s)
theorem D3 {l:List ByteArray} {s:ByteArray}:fS l s=true↔s∈l:=by
 unfold fS
 rw[List.any_eq_true]
 constructor
 ·rintro⟨u,hu,he⟩
  simp only[decide_eq_true_eq]at he
  exact he▸hu
 ·intro h
  exact⟨s,h,by simp⟩
theorem aCz (l:List ByteArray) (s:ByteArray) (le fu:Bool):ACall prog 92 [.list le fu (l.map aI),.sc (.string s)] (fun r=>r=bl (fS l s)):=by
 have h:=bMx l s le fu
 rw[show fS l s=decide (0<=rD l s)from by rw[Bool.eq_iff_iff,D3,decide_eq_true_eq];exact bMw.symm]
 generalize rD l s=R at*
 refine aQ func92 call92 rfl (by simp[ntmps92]) ?_;simp only[ntmps92,results92]
 repeat' (first|(refine aA fun _ _=>?_)|refine zHg ?_|(refine aM [] ?_;simp[go_sem])|refine aH rfl (h) (by simp) ?_|simp(disch:=omega) [go_sem])
def wG (acc:List ByteArray) (s:ByteArray):List ByteArray:=if qB s=true/\fS acc s=false then acc++ [s]else acc
def iI (l:List Tm):List ByteArray:=(dM l).foldl wG []
def jD (acc:List ByteArray) (l:List ByteArray) (i:Nat):List ByteArray:=(l.take i).foldl wG acc
theorem aC0 {acc l}:jD acc l 0=acc:=rfl
theorem aLr {acc l} {i:Nat} (h:i<l.length):jD acc l (i+1)=wG (jD acc l i) l[i]:=by
 unfold jD
 rw[eZ h,List.foldl_append];rfl
theorem aLs {acc l}:jD acc l l.length=l.foldl wG acc:=by unfold jD;rw[List.take_length]
theorem bMy {l:List Tm} {i:Nat} (h:i<l.length):iI (l.take (i+1))=jD (iI (l.take i)) (lB l[i]) (lB l[i]).length:=by
 unfold iI
 rw[D2 h,List.foldl_append,aLs]
theorem bMz (acc:List ByteArray) (s:ByteArray):(wG acc s).length<=acc.length+1:=by
 unfold wG;split<;>simp
theorem P5 {acc l:List ByteArray}: ∀i,(jD acc l i).length<=acc.length+i
 |0=>Nat.le_refl _
 |i+1=>by
  by_cases h:i<l.length
  ·rw[aLr h]
   have:=bMz (jD acc l i) l[i]
   have:=P5 (acc:=acc) (l:=l) i
   omega
  ·have e:jD acc l (i+1)=jD acc l i:=by unfold jD;rw[List.take_of_length_le (by omega),List.take_of_length_le (by omega)]
   rw[e]
   have:=P5 (acc:=acc) (l:=l) i
   omega
theorem aC1 (l:List Tm):(iI l).length<=(dM l).length:=by
 have:=P5 (acc:= []) (l:=dM l) (dM l).length
 rw[aLs]at this
 unfold iI
 simpa using this
theorem bM0:iI []= []:=rfl
theorem bM1 {l:List Tm} {i:Nat} (h:i<l.length):(lB l[i]).length<=(dM l).length:=by
 have:=P3 l (i+1)
 rw[D2 h,List.length_append]at this
 omega
theorem aC2 (l:List Tm) (le fu:Bool) (hb:(dM l).length<=1000000):ACall prog 82 [.list le fu (l.map aO)] (fun r=>r= .own 1 ((iI l).map aI)):=by
 have hge:=P4 l
 refine ACall.own_nil ?_
 refine aQ func82 call82 rfl (by simp[ntmps82]) ?_;simp only[ntmps82,results82]
 repeat' (first|(refine aA fun _ _=>?_)|refine zHg ?_|simp(disch:=omega) [go_sem])
 refine bL [8,9] [900] (fun i:Nat=> [(10,nt .i64 i),(3,.ref 900 0 (iI (l.take i)).length)]) (fun i:Nat=> [(900,⟨true,false,false,1,(iI (l.take i)).map aI,0⟩)]) (fun i:Nat=>l.length - i) (fun i:Nat=>i<=l.length) (0) (by refine Le.trans ?_ (Le.nil (i:=3) (T:=900) (es:=1) rfl);exact(Le.sub4 rfl (by simp[go_sem,bM0,List.take_zero,List.map_nil]))) ⟨?_⟩ ?_
 ·exact Nat.zero_le _
 intro i hi AA hAA;simp only[kL,Nat.reduceBEq,Nat.reduceEqDiff]
 by_cases hlt:i<l.length
 ·have hB:=hAA
  have hlv:=bM1 hlt
  have hcl:=bMt l[i] (by omega)
  have hn:=bMy hlt
  have hl0:=aC1 (l.take i)
  have hl2:=P3 l (i+1)
  rw[D2 hlt,List.length_append]at hl2
  generalize iI (l.take i)=A at*
  generalize lB l[i]=L at*
  repeat' (first|(refine aA fun _ _=>?_)|refine zHg ?_|refine aH rfl (hcl) (by simp) ?_|simp(disch:=omega) [go_sem,hlt])
  refine bL [8,9,10,15,16] [900,5] (fun j:Nat=> [(17,nt .i64 j),(3,.ref 900 0 (jD A L j).length)]) (fun j:Nat=> [(900,⟨true,false,false,1,(jD A L j).map aI,0⟩)]) (fun j:Nat=>L.length - j) (fun j:Nat=>j<=L.length) (0) (Le.renSub [] [] (by simp[go_sem,aC0]) (by simp[go_sem,aC0]) (Le.sub4 rfl (by simp[go_sem,aC0]))) ⟨?_⟩ ?_
  ·exact Nat.zero_le _
  intro j hj AA hAA;simp only[kL,Nat.reduceBEq,Nat.reduceEqDiff]
  by_cases hjl:j<L.length
  ·have hlenT:True:=trivial
   have h1:=aB8 L[j]
   have h2:=aCz (jD A L j) L[j] true false
   have hz:=aLr (acc:=A) hjl
   have hfl:=P5 (acc:=A) (l:=L) j
   unfold wG at hz
   by_cases hv:qB L[j]=true
   ·by_cases hm:fS (jD A L j) L[j]=true
    ·rw[if_neg (by simp[hm])]at hz
     rw[hv]at h1
     rw[hm]at h2
     generalize jD A L j=X at*
     repeat' (first|(refine aA fun _ _=>?_)|refine zHg ?_|refine aH rfl (h1) (by simp) ?_|(refine aH ?hl (h2) (by simp) ?_;(case hl=>(simp[go_sem,hjl,aI,hlenT];done)))|(refine(hAA.next (j+1) (Le.sub4 rfl (by simp[go_sem,hz])) (by(try dsimp only);omega) ?_))|simp(disch:=omega) [go_sem,hjl,aI,hlenT])
     try any_goals omega
     exact⟨hjl⟩
    ·have hm:=Bool.eq_false_iff.2 hm
     rw[if_pos ⟨hv,hm⟩]at hz
     rw[hv]at h1
     rw[hm]at h2
     generalize jD A L j=X at*
     repeat' (first|(refine aA fun _ _=>?_)|refine zHg ?_|refine aH rfl (h1) (by simp) ?_|(refine aH ?hl (h2) (by simp) ?_;(case hl=>(simp[go_sem,hjl,aI,hlenT];done)))|(refine(hAA.next (j+1) (Le.sub4 rfl (by simp[go_sem,hz,aI])) (by(try dsimp only);omega) ?_))|simp(disch:=omega) [go_sem,hjl,aI,hlenT]|refine zAo ?_|fail)
     try any_goals omega
     exact⟨hjl⟩
   ·rw[if_neg (by simp[hv])]at hz
    rw[show qB L[j]=false from by simpa using hv]at h1
    generalize jD A L j=X at*
    repeat' (first|(refine aA fun _ _=>?_)|refine zHg ?_|refine aH rfl (h1) (by simp) ?_|(refine(hAA.next (j+1) (Le.sub4 rfl (by simp[go_sem,hz])) (by(try dsimp only);omega) ?_))|simp(disch:=omega) [go_sem,hjl,aI,hlenT])
    try any_goals omega
    exact⟨hjl⟩
  ·obtain rfl:j=L.length:=by omega
   rw[<-hn]
   repeat' (first|(refine aA fun _ _=>?_)|refine zHg ?_|(refine(hB.next (i+1) (Le.sub4 rfl (by simp[go_sem])) (by(try dsimp only);omega) ?_))|simp(disch:=omega) [go_sem])
   try any_goals omega
   exact⟨hlt⟩
 ·obtain rfl:i=l.length:=by omega
  rw[List.take_length]
  repeat' (first|(refine aA fun _ _=>?_)|refine zHg ?_|(refine aM [] ?_;simp[go_sem])|simp(disch:=omega) [go_sem])
theorem aLt {F:Bool->aZ} {loc:Nat->Option LI} {s:ByteArray} {a b:Bool} {v:Value} (h:RV F loc (.agg [.sc (.string s),.list a b []]) v):RV F loc (.agg [.sc (.string s),.list false false []]) v:=by
 cases h with
 |agg h1 h2 h3=>
  refine .agg h1 (fun i x u hx hu=>?_) h3
  rcases i with _|_|i
  ·exact h2 0 x u hx hu
  ·simp at hx;subst hx
   exact(h2 1 _ u rfl hu).void rfl
  ·simp at hx
theorem bM2 (x y:ByteArray) (a b c d:Bool):ACall prog 64 [.agg [.sc (.string x),.list a b []],.agg [.sc (.string y),.list c d []]] (fun r=>r=nt .i64 (dJ (.mk x []) (.mk y []))):=by
 refine(aCd (.mk x []) (.mk y [])).args rfl fun F i p q v hp hq h=>?_
 rcases i with _|_|i
 ·simp at hp hq;subst hp;subst hq;exact aLt h
 ·simp at hp hq;subst hp;subst hq;exact aLt h
 ·simp at hp
def jT (x y:ByteArray):Int:=dJ (.mk x []) (.mk y [])
theorem bM3:ACall prog 112 [nt .u64 0] (fun r=>r=nt .i64 0):=by
 refine aQ func112 call112 rfl (by simp[ntmps112]) ?_;simp only[ntmps112,results112]
 repeat' (first|(refine aA fun _ _=>?_)|refine zHg ?_|(refine aM [] ?_;simp[go_sem])|simp(disch:=omega) [go_sem])
 all_goals(first|rfl|decide+kernel)
theorem aC3:ACall prog 63 [nt .u64 0] (fun r=>r=nt .i64 0):=by
 have h:=bM3
 refine aQ func63 call63 rfl (by simp[ntmps63]) ?_;simp only[ntmps63,results63]
 repeat' (first|(refine aA fun _ _=>?_)|refine zHg ?_|(refine aM [] ?_;simp[go_sem])|refine aH rfl (h) (by simp) ?_|simp(disch:=omega) [go_sem])
theorem bM4 (f:FuncId):MCall prog 103 [.ref 1000 0 0,nt .i64 0,nt .i64 0,.clo f []] [(1000,bB aI 1 0 [])] (fun r o'=>r= .tup []/\o'= [(1000,bB aI 1 0 [])]):=by
 refine dC func103 call103 rfl (by simp[ntmps103]) ?_;simp only[ntmps103,results103]
 repeat' (first|(refine aA fun _ _=>?_)|refine zHg ?_|simp(disch:=omega) [go_sem])
 refine bL [0,1,2,3] [] (fun u:Unit=> [(8,nt .i64 1)]) (fun u:Unit=> []) (fun u:Unit=>0) (fun u:Unit=>True) (()) (Le.sub4 rfl (by simp[go_sem])) ⟨?_⟩ ?_
 ·trivial
 intro u hu AA hAA;simp only[kL,Nat.reduceBEq,Nat.reduceEqDiff]
 repeat' (first|(refine aA fun _ _=>?_)|refine zHg ?_|simp(disch:=omega) [go_sem])
 refine nS ⟨53,[],[(1000,bB aI 1 0 [])]⟩ [] (Le.renSub [] [] (by simp[go_sem]) (by simp[go_sem]) (Le.sub4 rfl (by simp[go_sem]))) (by simp[go_sem]) ⟨rfl,rfl⟩
theorem bM5 (f:FuncId):MCall prog 62 [.ref 1000 0 0,nt .i64 0,nt .i64 0,nt .i64 0,.clo f []] [(1000,bB aI 1 0 [])] (fun r o'=>r= .tup []/\o'= [(1000,bB aI 1 0 [])]):=by
 have hi:=bM4 f
 refine dC func62 call62 rfl (by simp[ntmps62]) ?_;simp only[ntmps62,results62]
 repeat' (first|(refine aA fun _ _=>?_)|refine zHg ?_|simp(disch:=omega) [go_sem])
 refine bL [0,4] [] (fun u:Unit=> [(1,nt .i64 0),(2,nt .i64 0),(3,nt .i64 0),(10,bl true),(11,bl true)]) (fun u:Unit=> []) (fun u:Unit=>0) (fun u:Unit=>True) (()) (Le.sub4 rfl (by simp[go_sem])) ⟨?_⟩ ?_
 ·trivial
 intro u hu AA hAA;simp only[kL,Nat.reduceBEq,Nat.reduceEqDiff]
 repeat' (first|(refine aA fun _ _=>?_)|refine zHg ?_|simp(disch:=omega) [go_sem])
 refine aX [] [] 10000 _ _ (Fits.mk' (by simp[go_sem]) (by simp[go_sem])) (by simp[go_sem]) (by simp[go_sem]) (hi) (by simp[go_sem]) (by simp[go_sem]) ?_
 repeat' (first|(refine aA fun _ _=>?_)|refine zHg ?_|simp(disch:=omega) [go_sem])
 refine cJ ⟨148,[],[(1000,bB aI 1 0 [])]⟩ [] (Le.renSub [] [] (by simp[go_sem]) (by simp[go_sem]) (Le.sub4 rfl (by simp[go_sem]))) (by simp[go_sem]) ⟨rfl,rfl⟩
theorem bM6 (f:FuncId):MCall prog 27 [.ref 1000 0 0,.clo f []] [(1000,bB aI 1 0 [])] (fun r o'=>r= .tup []/\o'= [(1000,bB aI 1 0 [])]):=by
 have hi:=bM5 f
 have hl:=aC3
 refine dC func27 call27 rfl (by simp[ntmps27]) ?_;simp only[ntmps27,results27]
 repeat' (first|(refine aA fun _ _=>?_)|refine zHg ?_|refine aH rfl (hl) (by simp) ?_|simp(disch:=omega) [go_sem])
 refine aX [] [] 10000 _ _ (Fits.mk' (by simp[go_sem]) (by simp[go_sem])) (by simp[go_sem]) (by simp[go_sem]) (hi) (by simp[go_sem]) (by simp[go_sem]) ?_
 repeat' (first|(refine aA fun _ _=>?_)|refine zHg ?_|simp(disch:=omega) [go_sem])
 refine nS ⟨14,[],[(1000,bB aI 1 0 [])]⟩ [] (Le.renSub [] [] (by simp[go_sem]) (by simp[go_sem]) (Le.sub4 rfl (by simp[go_sem]))) (by simp[go_sem]) ⟨rfl,rfl⟩
set_option maxHeartbeats 4000000
set_option maxHeartbeats 8000000
def wH:List AV:= [.list false true [],.list false true [.sc (.string ⟨#[100,114,111,112,32,114,117,108,101,32]⟩),.sc (.string ⟨#[82]⟩)],.list false true [.sc (.string ⟨#[100,114,111,112,32,108,105,116,101,114,97,108,32]⟩),.sc (.string ⟨#[73]⟩),.sc (.string ⟨#[32,111,102,32,114,117,108,101,32]⟩),.sc (.string ⟨#[82]⟩)],.list false true [.sc (.string ⟨#[110,101,103,97,116,101,32,108,105,116,101,114,97,108,32]⟩),.sc (.string ⟨#[73]⟩),.sc (.string ⟨#[32,111,102,32,114,117,108,101,32]⟩),.sc (.string ⟨#[82]⟩)],.list false true [.sc (.string ⟨#[114,101,112,108,97,99,101,32,99,111,110,115,116,97,110,116,32]⟩),.sc (.string ⟨#[73]⟩),.sc (.string ⟨#[32,111,102,32,114,117,108,101,32]⟩),.sc (.string ⟨#[82]⟩)],.list false true [.sc (.string ⟨#[115,119,97,112,32,97,114,103,117,109,101,110,116,115,32]⟩),.sc (.string ⟨#[73]⟩),.sc (.string ⟨#[32,111,102,32,114,117,108,101,32]⟩),.sc (.string ⟨#[82]⟩)]]
class PhG [Glob prog]:Prop where
 tab:Glob.tab prog 0=some (.iptr false [.agg wH] 0 0)
theorem bM7 [PhG]:Glob.tab prog 0=some (.iptr false [.agg wH] 0 0):=PhG.tab
attribute [go_sem] bM7
end Go.Proofs.YtbgckcdddlmiaaaGreatDoor
