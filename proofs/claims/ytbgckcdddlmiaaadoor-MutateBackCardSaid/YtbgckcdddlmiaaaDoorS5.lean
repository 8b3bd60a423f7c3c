import Derived.Test.YtbgckcdddlmiaaaDoorS3
import Derived.Test.YtbgckcdddlmiaaaDoorS4
import Derived.Test.YtbgckcdddlmiaaaDoorA13
import Derived.Test.YtbgckcdddlmiaaaDoorS2
import Derived.Test.YtbgckcdddlmiaaaDoorA7
import Derived.Test.YtbgckcdddlmiaaaDoorA6
import Derived.Test.YtbgckcdddlmiaaaDoorA5
set_option linter.unusedSimpArgs false
set_option linter.unusedVariables false
open Go.Proofs.Tryd
namespace Go.Proofs.YtbgckcdddlmiaaaDoor
open Go.Ab
set_option maxRecDepth 100000
set_option maxHeartbeats 16000000
theorem bU5 (s:ByteArray) (hs:s.size≤1000000) (i:Nat) (w:ByteArray) (hi:i≤s.size):MCall prog 28 [.ptr 1000 0 0,.sc (.string w)] (aB s i) (fun r o'=>r=bZ (iC s w i).1∧o'=aB s (iC s w i).2):=by
 have ht:=zP s hs (s.size+1) i w (by omega) hi
 have htl:=tG (s:=s) (w:=w) hi
 unfold iC
 generalize cJ s w i=q at*
 obtain⟨H,j⟩:=q
 dsimp only at*
 generalize hG:gP s [] j=G at*
 have hY:bZ ⟨H,G.1⟩=Ab.loose (.agg [.sc (.string H.name),.list false false (H.args.map aL),.list false (decide (G.1.length=0)) (G.1.map bT)]):=rfl
 rw[hY]
 have key:MCall prog 28 [.ptr 1000 0 0,.sc (.string w)] (aB s i) (fun r o'=>r= .agg [.sc (.string H.name),.list false false (H.args.map aL),if G.1.length=0 then .list false true []else .ref 900 0 G.1.length]∧o'=(4,⟨false,false,false,3,[.agg [.sc (.string H.name),.list false false (H.args.map aL),if G.1.length=0 then .list false true []else .ref 900 0 G.1.length]],0⟩)::(1000,aA s G.2)::(if G.1.length=0 then[]else[(900,⟨true,false,false,3,G.1.map bT,0⟩)])):=by
  refine eM func28 call28 rfl (by simp[ntmps28]) ?_;simp only[ntmps28,results28]
  skip
  skip
  repeat' (first|(refine aC fun _ _=>?_)|refine zHg ?_|simp(disch:=omega) [go_sem,aB,aA])
  refine bG [] [] 10000 _ _ (Fits.mk' (by simp[go_sem,aB,aA]) (by simp[go_sem,aB,aA])) (by simp[go_sem,aB,aA]) (by simp[go_sem,aB,aA]) (ht) (by simp[go_sem,aB,aA]) (by simp[go_sem,aB,aA]) ?_
  repeat' (first|(refine aC fun _ _=>?_)|refine zHg ?_|simp(disch:=omega) [go_sem,aB,aA])
  refine cL [0,4,5] [5,900,1000] (fun y:List Lt×Nat=> []) (fun y:List Lt×Nat=>(5,⟨false,false,false,3,[.agg [.sc (.string H.name),.list false false (H.args.map aL),if y.1.length=0 then .list false true []else .ref 900 0 y.1.length]],0⟩)::(1000,aA s y.2)::(if y.1.length=0 then[]else[(900,⟨true,false,false,3,y.1.map bT,0⟩)])) (fun y:List Lt×Nat=>s.size - y.2) (fun y:List Lt×Nat=>y.2≤s.size∧y.1.length≤y.2∧gP s y.1 y.2=G) (([],j)) (Le.sub4 rfl (by simp[go_sem,aB,aA])) ⟨?_⟩ ?_
  ·exact⟨htl,Nat.zero_le _,hG⟩
  intro y ⟨hy2,hy3,hag⟩ AA hAA;simp only[kL,Nat.reduceBEq,Nat.reduceEqDiff,if_true,if_false,List.cons_append,List.nil_append,List.append_nil]
  obtain⟨a,k⟩:=y
  dsimp only at hy2 hy3 hag ⊢
  clear hG ht
  by_cases hlt:k<s.size
  ·have hsg:=wE s k 46 hs hy2
   have hsl:=pI (s:=s) (c:=46) hy2
   have hsge:=pH (s:=s) (c:=46) (i:=k)
   have hlim:a.length≤1000000:=by omega
   cases hb:cN s 46 k
   ·rw[hb]at hsg
    have hw1:=wG s (aM s 46 k) hs hsl
    have hl1:=kM (s:=s) hsl
    have hg1:=kK (s:=s) (i:=aM s 46 k)
    have hw2:=wG s (aK s (aM s 46 k)) hs hl1
    have hl2:=kM (s:=s) hl1
    have hg2:=kK (s:=s) (i:=aK s (aM s 46 k))
    have hw3:=wG s (aK s (aK s (aM s 46 k))) hs hl2
    have hl3:=kM (s:=s) hl2
    have hg3:=kK (s:=s) (i:=aK s (aK s (aM s 46 k)))
    have hvoid:=fun hz=>bU2 (s:=s) (a:=a) (i:=k) hlt hb hz
    have hgo:=fun hz=>N1 (s:=s) (a:=a) (i:=k) hlt hb hz
    have hgt:=fun hz=>N0 (s:=s) (i:=aM s 46 k) hz
    unfold dS at hvoid hgo hgt
    by_cases hnot:bH s (aK s (aM s 46 k))=aDc
    ·simp only[hnot,if_true,if_false]at hvoid hgo hgt
     rw[hnot]at hw2
     have ht:=zP s hs (s.size+1) (aK s (aK s (aK s (aM s 46 k)))) (bH s (aK s (aK s (aM s 46 k)))) (by omega) hl3
     have htl2:=tG (s:=s) (w:=bH s (aK s (aK s (aM s 46 k)))) hl3
     have htg:=rR (s:=s) (w:=bH s (aK s (aK s (aM s 46 k)))) (i:=aK s (aK s (aK s (aM s 46 k))))
     by_cases hz:(bH s (aK s (aK s (aM s 46 k)))).size=0
     ·rw[hvoid hz]at hag
      subst hag
      have hz':bH s (aK s (aK s (aM s 46 k)))=⟨#[]⟩:=by
       refine ByteArray.ext ?_
       exact Array.eq_empty_of_size_eq_zero hz
      clear hvoid hgo hgt ht htl2 htg hz
      rw[hz']at hw3
      clear hz'
      generalize aK s (aK s (aK s (aM s 46 k)))=k4 at*
      generalize aK s (aK s (aM s 46 k))=k3 at*
      generalize aK s (aM s 46 k)=k2 at*
      generalize bH s (aM s 46 k)=w1 at*
      generalize aM s 46 k=k1 at*
      dsimp only at*
      by_cases h0:a.length=0
      ·obtain rfl:=List.eq_nil_of_length_eq_zero h0
       all_goals repeat' (first|(refine aC fun _ _=>?_)|refine zHg ?_|simp(disch:=omega) [go_sem,hlt,aB,aA]|refine zDn 11 15 aT ?_|fail)
       all_goals refine bG [] [] 10000 _ _ (Fits.mk' (by simp[go_sem,aB,aA]) (by simp[go_sem,aB,aA])) (by simp[go_sem,aB,aA]) (by simp[go_sem,aB,aA]) (hsg) (by simp[go_sem,aB,aA]) (by simp[go_sem,aB,aA]) ?_
       all_goals repeat' (first|(refine aC fun _ _=>?_)|refine zHg ?_|simp(disch:=omega) [go_sem,hlt,aB,aA])
       all_goals refine bG [] [] 10000 _ _ (Fits.mk' (by simp[go_sem,aB,aA]) (by simp[go_sem,aB,aA])) (by simp[go_sem,aB,aA]) (by simp[go_sem,aB,aA]) (hw1) (by simp[go_sem,aB,aA]) (by simp[go_sem,aB,aA]) ?_
       all_goals repeat' (first|(refine aC fun _ _=>?_)|refine zHg ?_|simp(disch:=omega) [go_sem,hlt,aB,aA])
       all_goals refine bG [] [] 10000 _ _ (Fits.mk' (by simp[go_sem,aB,aA]) (by simp[go_sem,aB,aA])) (by simp[go_sem,aB,aA]) (by simp[go_sem,aB,aA]) (hw2) (by simp[go_sem,aB,aA]) (by simp[go_sem,aB,aA]) ?_
       all_goals repeat' (first|(refine aC fun _ _=>?_)|refine zHg ?_|simp(disch:=omega) [go_sem,hlt,aB,aA])
       all_goals refine bG [] [] 10000 _ _ (Fits.mk' (by simp[go_sem,aB,aA]) (by simp[go_sem,aB,aA])) (by simp[go_sem,aB,aA]) (by simp[go_sem,aB,aA]) (hw3) (by simp[go_sem,aB,aA]) (by simp[go_sem,aB,aA]) ?_
       all_goals repeat' (first|(refine aC fun _ _=>?_)|refine zHg ?_|simp(disch:=omega) [go_sem,hlt,aB,aA])
       all_goals refine cV ⟨50,[(4,.ptr 4 0 0)],(4,⟨false,false,false,3,[.agg [.sc (.string H.name),.list false false (H.args.map aL),.list false true []]],0⟩)::(1000,aA s k4):: []⟩ [.agg [.sc (.string H.name),.list false false (H.args.map aL),.list false true []]] (Le.renSub [] [] (by simp[go_sem,aB,aA]) (by simp[go_sem,aB,aA]) (Le.sub4 rfl (by simp[go_sem,aB,aA]))) (by simp[go_sem,aB,aA]) ⟨rfl,rfl⟩
      ·have h0': ¬a= []:=fun h=>h0 (by rw[h];rfl)
       all_goals repeat' (first|(refine aC fun _ _=>?_)|refine zHg ?_|simp(disch:=omega) [go_sem,hlt,h0,h0',aB,aA]|refine zDn 11 15 aT ?_|fail)
       all_goals refine bG [] [] 10000 _ _ (Fits.mk' (by simp[go_sem,aB,aA]) (by simp[go_sem,aB,aA])) (by simp[go_sem,aB,aA]) (by simp[go_sem,aB,aA]) (hsg) (by simp[go_sem,aB,aA]) (by simp[go_sem,aB,aA]) ?_
       all_goals repeat' (first|(refine aC fun _ _=>?_)|refine zHg ?_|simp(disch:=omega) [go_sem,hlt,h0,h0',aB,aA])
       all_goals refine bG [] [] 10000 _ _ (Fits.mk' (by simp[go_sem,aB,aA]) (by simp[go_sem,aB,aA])) (by simp[go_sem,aB,aA]) (by simp[go_sem,aB,aA]) (hw1) (by simp[go_sem,aB,aA]) (by simp[go_sem,aB,aA]) ?_
       all_goals repeat' (first|(refine aC fun _ _=>?_)|refine zHg ?_|simp(disch:=omega) [go_sem,hlt,h0,h0',aB,aA])
       all_goals refine bG [] [] 10000 _ _ (Fits.mk' (by simp[go_sem,aB,aA]) (by simp[go_sem,aB,aA])) (by simp[go_sem,aB,aA]) (by simp[go_sem,aB,aA]) (hw2) (by simp[go_sem,aB,aA]) (by simp[go_sem,aB,aA]) ?_
       all_goals repeat' (first|(refine aC fun _ _=>?_)|refine zHg ?_|simp(disch:=omega) [go_sem,hlt,h0,h0',aB,aA])
       all_goals refine bG [] [] 10000 _ _ (Fits.mk' (by simp[go_sem,aB,aA]) (by simp[go_sem,aB,aA])) (by simp[go_sem,aB,aA]) (by simp[go_sem,aB,aA]) (hw3) (by simp[go_sem,aB,aA]) (by simp[go_sem,aB,aA]) ?_
       all_goals repeat' (first|(refine aC fun _ _=>?_)|refine zHg ?_|simp(disch:=omega) [go_sem,hlt,h0,h0',aB,aA])
       all_goals refine cV ⟨50,[(4,.ptr 4 0 0)],(4,⟨false,false,false,3,[.agg [.sc (.string H.name),.list false false (H.args.map aL),.ref 900 0 a.length]],0⟩)::(1000,aA s k4):: [(900,⟨true,false,false,3,a.map bT,0⟩)]⟩ [.agg [.sc (.string H.name),.list false false (H.args.map aL),.ref 900 0 a.length]] (Le.renSub [] [] (by simp[go_sem,aB,aA]) (by simp[go_sem,aB,aA]) (Le.sub4 rfl (by simp[go_sem,aB,aA]))) (by simp[go_sem,aB,aA]) ⟨rfl,rfl⟩
     ·rw[hgo hz]at hag
      have hgt1:=hgt hz
      have hz': ¬bH s (aK s (aK s (aM s 46 k)))=⟨#[]⟩:=fun h=>hz (by rw[h];rfl)
      clear hvoid hgo hgt hz
      generalize cJ s (bH s (aK s (aK s (aM s 46 k)))) (aK s (aK s (aK s (aM s 46 k))))=q at*
      generalize hwd:bH s (aK s (aK s (aM s 46 k)))=wd at*
      clear hwd
      generalize aK s (aK s (aK s (aM s 46 k)))=k4 at*
      generalize aK s (aK s (aM s 46 k))=k3 at*
      generalize aK s (aM s 46 k)=k2 at*
      generalize bH s (aM s 46 k)=w1 at*
      generalize aM s 46 k=k1 at*
      obtain⟨tm,k5⟩:=q
      dsimp only at*
      by_cases h0:a.length=0
      ·obtain rfl:=List.eq_nil_of_length_eq_zero h0
       all_goals repeat' (first|(refine aC fun _ _=>?_)|refine zHg ?_|simp(disch:=omega) [go_sem,hlt,hz',aB,aA]|refine zDn 11 15 aT ?_|fail)
       all_goals refine bG [] [] 10000 _ _ (Fits.mk' (by simp[go_sem,aB,aA]) (by simp[go_sem,aB,aA])) (by simp[go_sem,aB,aA]) (by simp[go_sem,aB,aA]) (hsg) (by simp[go_sem,aB,aA]) (by simp[go_sem,aB,aA]) ?_
       all_goals repeat' (first|(refine aC fun _ _=>?_)|refine zHg ?_|simp(disch:=omega) [go_sem,hlt,hz',aB,aA])
       all_goals refine bG [] [] 10000 _ _ (Fits.mk' (by simp[go_sem,aB,aA]) (by simp[go_sem,aB,aA])) (by simp[go_sem,aB,aA]) (by simp[go_sem,aB,aA]) (hw1) (by simp[go_sem,aB,aA]) (by simp[go_sem,aB,aA]) ?_
       all_goals repeat' (first|(refine aC fun _ _=>?_)|refine zHg ?_|simp(disch:=omega) [go_sem,hlt,hz',aB,aA])
       all_goals refine bG [] [] 10000 _ _ (Fits.mk' (by simp[go_sem,aB,aA]) (by simp[go_sem,aB,aA])) (by simp[go_sem,aB,aA]) (by simp[go_sem,aB,aA]) (hw2) (by simp[go_sem,aB,aA]) (by simp[go_sem,aB,aA]) ?_
       all_goals repeat' (first|(refine aC fun _ _=>?_)|refine zHg ?_|simp(disch:=omega) [go_sem,hlt,hz',aB,aA])
       all_goals refine bG [] [] 10000 _ _ (Fits.mk' (by simp[go_sem,aB,aA]) (by simp[go_sem,aB,aA])) (by simp[go_sem,aB,aA]) (by simp[go_sem,aB,aA]) (hw3) (by simp[go_sem,aB,aA]) (by simp[go_sem,aB,aA]) ?_
       all_goals repeat' (first|(refine aC fun _ _=>?_)|refine zHg ?_|(with_reducible refine dA ?_;first|(exact cX)|(refine zSkip ?_)|(refine cY rfl ?_ ?_))|(with_reducible refine cZ ?_;first|(refine zDone ?_)|(refine aD 0 rfl (by decide+kernel) (by decide+kernel) rfl rfl rfl ?_)|(refine aD 1 rfl (by decide+kernel) (by decide+kernel) rfl rfl rfl ?_)|(refine aD 2 rfl (by decide+kernel) (by decide+kernel) rfl rfl rfl ?_)|(refine aD 3 rfl (by decide+kernel) (by decide+kernel) rfl rfl rfl ?_)|(refine aD 4 rfl (by decide+kernel) (by decide+kernel) rfl rfl rfl ?_)|(refine aD 6 rfl (by decide+kernel) (by decide+kernel) rfl rfl rfl ?_)|(refine aD 7 rfl (by decide+kernel) (by decide+kernel) rfl rfl rfl ?_)|(refine aD 8 rfl (by decide+kernel) (by decide+kernel) rfl rfl rfl ?_)|(refine aD 9 rfl (by decide+kernel) (by decide+kernel) rfl rfl rfl ?_)|(refine aD 10 rfl (by decide+kernel) (by decide+kernel) rfl rfl rfl ?_)|(refine zAll ?_;show cG _ _ _ _ _ _ _))|with_reducible refine dD ?_|simp(disch:=omega) [go_sem,hlt,hz',aB,aA]|refine zAny aT ?_|fail)
       all_goals refine bG [] [] 10000 _ _ (Fits.mk' (by simp[go_sem,aB,aA]) (by simp[go_sem,aB,aA])) (by simp[go_sem,aB,aA]) (by simp[go_sem,aB,aA]) (ht) (by simp[go_sem,aB,aA]) (by simp[go_sem,aB,aA]) ?_
       all_goals repeat' (first|(refine aC fun _ _=>?_)|refine zHg ?_|(with_reducible refine dA ?_;first|(exact cX)|(refine zSkip ?_)|(refine cY rfl ?_ ?_))|(with_reducible refine cZ ?_;first|(refine zDone ?_)|(refine aD 0 rfl (by decide+kernel) (by decide+kernel) rfl rfl rfl ?_)|(refine aD 1 rfl (by decide+kernel) (by decide+kernel) rfl rfl rfl ?_)|(refine aD 2 rfl (by decide+kernel) (by decide+kernel) rfl rfl rfl ?_)|(refine aD 3 rfl (by decide+kernel) (by decide+kernel) rfl rfl rfl ?_)|(refine aD 4 rfl (by decide+kernel) (by decide+kernel) rfl rfl rfl ?_)|(refine aD 6 rfl (by decide+kernel) (by decide+kernel) rfl rfl rfl ?_)|(refine aD 7 rfl (by decide+kernel) (by decide+kernel) rfl rfl rfl ?_)|(refine aD 8 rfl (by decide+kernel) (by decide+kernel) rfl rfl rfl ?_)|(refine aD 9 rfl (by decide+kernel) (by decide+kernel) rfl rfl rfl ?_)|(refine aD 10 rfl (by decide+kernel) (by decide+kernel) rfl rfl rfl ?_)|(refine zAll ?_;show cG _ _ _ _ _ _ _))|with_reducible refine dD ?_|(refine(hAA.next (([⟨true,tm⟩],k5)) (Le.renSub [(47,900)] [(900,47)] (by simp[go_sem]) (by simp[go_sem]) (Le.sub4 rfl (by simp[go_sem]))) (by(try dsimp only);omega) ?_))|simp(disch:=omega) [go_sem,hlt,hz',aB,aA])
       all_goals(first|omega|skip)
       all_goals exact⟨by omega,by(try simp);omega,hag⟩
      ·have h0': ¬a= []:=fun h=>h0 (by rw[h];rfl)
       all_goals repeat' (first|(refine aC fun _ _=>?_)|refine zHg ?_|simp(disch:=omega) [go_sem,hlt,h0,h0',hz',aB,aA]|refine zDn 11 15 aT ?_|fail)
       all_goals refine bG [] [] 10000 _ _ (Fits.mk' (by simp[go_sem,aB,aA]) (by simp[go_sem,aB,aA])) (by simp[go_sem,aB,aA]) (by simp[go_sem,aB,aA]) (hsg) (by simp[go_sem,aB,aA]) (by simp[go_sem,aB,aA]) ?_
       all_goals repeat' (first|(refine aC fun _ _=>?_)|refine zHg ?_|simp(disch:=omega) [go_sem,hlt,h0,h0',hz',aB,aA])
       all_goals refine bG [] [] 10000 _ _ (Fits.mk' (by simp[go_sem,aB,aA]) (by simp[go_sem,aB,aA])) (by simp[go_sem,aB,aA]) (by simp[go_sem,aB,aA]) (hw1) (by simp[go_sem,aB,aA]) (by simp[go_sem,aB,aA]) ?_
       all_goals repeat' (first|(refine aC fun _ _=>?_)|refine zHg ?_|simp(disch:=omega) [go_sem,hlt,h0,h0',hz',aB,aA])
       all_goals refine bG [] [] 10000 _ _ (Fits.mk' (by simp[go_sem,aB,aA]) (by simp[go_sem,aB,aA])) (by simp[go_sem,aB,aA]) (by simp[go_sem,aB,aA]) (hw2) (by simp[go_sem,aB,aA]) (by simp[go_sem,aB,aA]) ?_
       all_goals repeat' (first|(refine aC fun _ _=>?_)|refine zHg ?_|simp(disch:=omega) [go_sem,hlt,h0,h0',hz',aB,aA])
       all_goals refine bG [] [] 10000 _ _ (Fits.mk' (by simp[go_sem,aB,aA]) (by simp[go_sem,aB,aA])) (by simp[go_sem,aB,aA]) (by simp[go_sem,aB,aA]) (hw3) (by simp[go_sem,aB,aA]) (by simp[go_sem,aB,aA]) ?_
       all_goals repeat' (first|(refine aC fun _ _=>?_)|refine zHg ?_|(with_reducible refine dA ?_;first|(exact cX)|(refine zSkip ?_)|(refine cY rfl ?_ ?_))|(with_reducible refine cZ ?_;first|(refine zDone ?_)|(refine aD 0 rfl (by decide+kernel) (by decide+kernel) rfl rfl rfl ?_)|(refine aD 1 rfl (by decide+kernel) (by decide+kernel) rfl rfl rfl ?_)|(refine aD 2 rfl (by decide+kernel) (by decide+kernel) rfl rfl rfl ?_)|(refine aD 3 rfl (by decide+kernel) (by decide+kernel) rfl rfl rfl ?_)|(refine aD 4 rfl (by decide+kernel) (by decide+kernel) rfl rfl rfl ?_)|(refine aD 6 rfl (by decide+kernel) (by decide+kernel) rfl rfl rfl ?_)|(refine aD 7 rfl (by decide+kernel) (by decide+kernel) rfl rfl rfl ?_)|(refine aD 8 rfl (by decide+kernel) (by decide+kernel) rfl rfl rfl ?_)|(refine aD 9 rfl (by decide+kernel) (by decide+kernel) rfl rfl rfl ?_)|(refine aD 10 rfl (by decide+kernel) (by decide+kernel) rfl rfl rfl ?_)|(refine zAll ?_;show cG _ _ _ _ _ _ _))|with_reducible refine dD ?_|simp(disch:=omega) [go_sem,hlt,h0,h0',hz',aB,aA]|refine zAny aT ?_|fail)
       all_goals refine bG [] [] 10000 _ _ (Fits.mk' (by simp[go_sem,aB,aA]) (by simp[go_sem,aB,aA])) (by simp[go_sem,aB,aA]) (by simp[go_sem,aB,aA]) (ht) (by simp[go_sem,aB,aA]) (by simp[go_sem,aB,aA]) ?_
       all_goals repeat' (first|(refine aC fun _ _=>?_)|refine zHg ?_|(with_reducible refine dA ?_;first|(exact cX)|(refine zSkip ?_)|(refine cY rfl ?_ ?_))|(with_reducible refine cZ ?_;first|(refine zDone ?_)|(refine aD 0 rfl (by decide+kernel) (by decide+kernel) rfl rfl rfl ?_)|(refine aD 1 rfl (by decide+kernel) (by decide+kernel) rfl rfl rfl ?_)|(refine aD 2 rfl (by decide+kernel) (by decide+kernel) rfl rfl rfl ?_)|(refine aD 3 rfl (by decide+kernel) (by decide+kernel) rfl rfl rfl ?_)|(refine aD 4 rfl (by decide+kernel) (by decide+kernel) rfl rfl rfl ?_)|(refine aD 6 rfl (by decide+kernel) (by decide+kernel) rfl rfl rfl ?_)|(refine aD 7 rfl (by decide+kernel) (by decide+kernel) rfl rfl rfl ?_)|(refine aD 8 rfl (by decide+kernel) (by decide+kernel) rfl rfl rfl ?_)|(refine aD 9 rfl (by decide+kernel) (by decide+kernel) rfl rfl rfl ?_)|(refine aD 10 rfl (by decide+kernel) (by decide+kernel) rfl rfl rfl ?_)|(refine zAll ?_;show cG _ _ _ _ _ _ _))|with_reducible refine dD ?_|(refine(hAA.next ((a++ [⟨true,tm⟩],k5)) (Le.sub4 rfl (by simp[go_sem])) (by(try dsimp only);omega) ?_))|simp(disch:=omega) [go_sem,hlt,h0,h0',hz',aB,aA]|refine zAo ?_|fail)
       all_goals(first|omega|skip)
       all_goals exact⟨by omega,by(try simp);omega,hag⟩
    ·simp only[hnot,if_false]at hvoid hgo hgt
     have ht:=zP s hs (s.size+1) (aK s (aK s (aM s 46 k))) (bH s (aK s (aM s 46 k))) (by omega) hl2
     have htl2:=tG (s:=s) (w:=bH s (aK s (aM s 46 k))) hl2
     have htg:=rR (s:=s) (w:=bH s (aK s (aM s 46 k))) (i:=aK s (aK s (aM s 46 k)))
     by_cases hz:(bH s (aK s (aM s 46 k))).size=0
     ·rw[hvoid hz]at hag
      subst hag
      have hz':bH s (aK s (aM s 46 k))=⟨#[]⟩:=by
       refine ByteArray.ext ?_
       exact Array.eq_empty_of_size_eq_zero hz
      clear hvoid hgo hgt ht htl2 htg hz
      rw[hz']at hw2 hnot
      clear hz'
      generalize aK s (aK s (aM s 46 k))=k3 at*
      generalize aK s (aM s 46 k)=k2 at*
      generalize bH s (aM s 46 k)=w1 at*
      generalize aM s 46 k=k1 at*
      dsimp only at*
      by_cases h0:a.length=0
      ·obtain rfl:=List.eq_nil_of_length_eq_zero h0
       all_goals repeat' (first|(refine aC fun _ _=>?_)|refine zHg ?_|simp(disch:=omega) [go_sem,hlt,aB,aA]|refine zDn 11 15 aT ?_|fail)
       all_goals refine bG [] [] 10000 _ _ (Fits.mk' (by simp[go_sem,aB,aA]) (by simp[go_sem,aB,aA])) (by simp[go_sem,aB,aA]) (by simp[go_sem,aB,aA]) (hsg) (by simp[go_sem,aB,aA]) (by simp[go_sem,aB,aA]) ?_
       all_goals repeat' (first|(refine aC fun _ _=>?_)|refine zHg ?_|simp(disch:=omega) [go_sem,hlt,aB,aA])
       all_goals refine bG [] [] 10000 _ _ (Fits.mk' (by simp[go_sem,aB,aA]) (by simp[go_sem,aB,aA])) (by simp[go_sem,aB,aA]) (by simp[go_sem,aB,aA]) (hw1) (by simp[go_sem,aB,aA]) (by simp[go_sem,aB,aA]) ?_
       all_goals repeat' (first|(refine aC fun _ _=>?_)|refine zHg ?_|simp(disch:=omega) [go_sem,hlt,aB,aA])
       all_goals refine bG [] [] 10000 _ _ (Fits.mk' (by simp[go_sem,aB,aA]) (by simp[go_sem,aB,aA])) (by simp[go_sem,aB,aA]) (by simp[go_sem,aB,aA]) (hw2) (by simp[go_sem,aB,aA]) (by simp[go_sem,aB,aA]) ?_
       all_goals repeat' (first|(refine aC fun _ _=>?_)|refine zHg ?_|simp(disch:=omega) [go_sem,hlt,aB,aA])
       all_goals refine cV ⟨50,[(4,.ptr 4 0 0)],(4,⟨false,false,false,3,[.agg [.sc (.string H.name),.list false false (H.args.map aL),.list false true []]],0⟩)::(1000,aA s k3):: []⟩ [.agg [.sc (.string H.name),.list false false (H.args.map aL),.list false true []]] (Le.renSub [] [] (by simp[go_sem,aB,aA]) (by simp[go_sem,aB,aA]) (Le.sub4 rfl (by simp[go_sem,aB,aA]))) (by simp[go_sem,aB,aA]) ⟨rfl,rfl⟩
      ·have h0': ¬a= []:=fun h=>h0 (by rw[h];rfl)
       all_goals repeat' (first|(refine aC fun _ _=>?_)|refine zHg ?_|simp(disch:=omega) [go_sem,hlt,h0,h0',aB,aA]|refine zDn 11 15 aT ?_|fail)
       all_goals refine bG [] [] 10000 _ _ (Fits.mk' (by simp[go_sem,aB,aA]) (by simp[go_sem,aB,aA])) (by simp[go_sem,aB,aA]) (by simp[go_sem,aB,aA]) (hsg) (by simp[go_sem,aB,aA]) (by simp[go_sem,aB,aA]) ?_
       all_goals repeat' (first|(refine aC fun _ _=>?_)|refine zHg ?_|simp(disch:=omega) [go_sem,hlt,h0,h0',aB,aA])
       all_goals refine bG [] [] 10000 _ _ (Fits.mk' (by simp[go_sem,aB,aA]) (by simp[go_sem,aB,aA])) (by simp[go_sem,aB,aA]) (by simp[go_sem,aB,aA]) (hw1) (by simp[go_sem,aB,aA]) (by simp[go_sem,aB,aA]) ?_
       all_goals repeat' (first|(refine aC fun _ _=>?_)|refine zHg ?_|simp(disch:=omega) [go_sem,hlt,h0,h0',aB,aA])
       all_goals refine bG [] [] 10000 _ _ (Fits.mk' (by simp[go_sem,aB,aA]) (by simp[go_sem,aB,aA])) (by simp[go_sem,aB,aA]) (by simp[go_sem,aB,aA]) (hw2) (by simp[go_sem,aB,aA]) (by simp[go_sem,aB,aA]) ?_
       all_goals repeat' (first|(refine aC fun _ _=>?_)|refine zHg ?_|simp(disch:=omega) [go_sem,hlt,h0,h0',aB,aA])
       all_goals refine cV ⟨50,[(4,.ptr 4 0 0)],(4,⟨false,false,false,3,[.agg [.sc (.string H.name),.list false false (H.args.map aL),.ref 900 0 a.length]],0⟩)::(1000,aA s k3):: [(900,⟨true,false,false,3,a.map bT,0⟩)]⟩ [.agg [.sc (.string H.name),.list false false (H.args.map aL),.ref 900 0 a.length]] (Le.renSub [] [] (by simp[go_sem,aB,aA]) (by simp[go_sem,aB,aA]) (Le.sub4 rfl (by simp[go_sem,aB,aA]))) (by simp[go_sem,aB,aA]) ⟨rfl,rfl⟩
     ·rw[hgo hz]at hag
      have hgt1:=hgt hz
      have hz': ¬bH s (aK s (aM s 46 k))=⟨#[]⟩:=fun h=>hz (by rw[h];rfl)
      clear hvoid hgo hgt hz
      generalize cJ s (bH s (aK s (aM s 46 k))) (aK s (aK s (aM s 46 k)))=q at*
      generalize hwd:bH s (aK s (aM s 46 k))=wd at*
      clear hwd
      generalize aK s (aK s (aM s 46 k))=k3 at*
      generalize aK s (aM s 46 k)=k2 at*
      generalize bH s (aM s 46 k)=w1 at*
      generalize aM s 46 k=k1 at*
      obtain⟨tm,k5⟩:=q
      dsimp only at*
      by_cases h0:a.length=0
      ·obtain rfl:=List.eq_nil_of_length_eq_zero h0
       all_goals repeat' (first|(refine aC fun _ _=>?_)|refine zHg ?_|simp(disch:=omega) [go_sem,hlt,hz',hnot,aB,aA]|refine zDn 11 15 aT ?_|fail)
       all_goals refine bG [] [] 10000 _ _ (Fits.mk' (by simp[go_sem,aB,aA]) (by simp[go_sem,aB,aA])) (by simp[go_sem,aB,aA]) (by simp[go_sem,aB,aA]) (hsg) (by simp[go_sem,aB,aA]) (by simp[go_sem,aB,aA]) ?_
       all_goals repeat' (first|(refine aC fun _ _=>?_)|refine zHg ?_|simp(disch:=omega) [go_sem,hlt,hz',hnot,aB,aA])
       all_goals refine bG [] [] 10000 _ _ (Fits.mk' (by simp[go_sem,aB,aA]) (by simp[go_sem,aB,aA])) (by simp[go_sem,aB,aA]) (by simp[go_sem,aB,aA]) (hw1) (by simp[go_sem,aB,aA]) (by simp[go_sem,aB,aA]) ?_
       all_goals repeat' (first|(refine aC fun _ _=>?_)|refine zHg ?_|simp(disch:=omega) [go_sem,hlt,hz',hnot,aB,aA])
       all_goals refine bG [] [] 10000 _ _ (Fits.mk' (by simp[go_sem,aB,aA]) (by simp[go_sem,aB,aA])) (by simp[go_sem,aB,aA]) (by simp[go_sem,aB,aA]) (hw2) (by simp[go_sem,aB,aA]) (by simp[go_sem,aB,aA]) ?_
       all_goals repeat' (first|(refine aC fun _ _=>?_)|refine zHg ?_|(with_reducible refine dA ?_;first|(exact cX)|(refine zSkip ?_)|(refine cY rfl ?_ ?_))|(with_reducible refine cZ ?_;first|(refine zDone ?_)|(refine aD 0 rfl (by decide+kernel) (by decide+kernel) rfl rfl rfl ?_)|(refine aD 1 rfl (by decide+kernel) (by decide+kernel) rfl rfl rfl ?_)|(refine aD 2 rfl (by decide+kernel) (by decide+kernel) rfl rfl rfl ?_)|(refine aD 3 rfl (by decide+kernel) (by decide+kernel) rfl rfl rfl ?_)|(refine aD 4 rfl (by decide+kernel) (by decide+kernel) rfl rfl rfl ?_)|(refine aD 6 rfl (by decide+kernel) (by decide+kernel) rfl rfl rfl ?_)|(refine aD 7 rfl (by decide+kernel) (by decide+kernel) rfl rfl rfl ?_)|(refine aD 8 rfl (by decide+kernel) (by decide+kernel) rfl rfl rfl ?_)|(refine aD 9 rfl (by decide+kernel) (by decide+kernel) rfl rfl rfl ?_)|(refine aD 10 rfl (by decide+kernel) (by decide+kernel) rfl rfl rfl ?_)|(refine zAll ?_;show cG _ _ _ _ _ _ _))|with_reducible refine dD ?_|simp(disch:=omega) [go_sem,hlt,hz',hnot,aB,aA]|refine zAny aT ?_|fail)
       all_goals refine bG [] [] 10000 _ _ (Fits.mk' (by simp[go_sem,aB,aA]) (by simp[go_sem,aB,aA])) (by simp[go_sem,aB,aA]) (by simp[go_sem,aB,aA]) (ht) (by simp[go_sem,aB,aA]) (by simp[go_sem,aB,aA]) ?_
       all_goals repeat' (first|(refine aC fun _ _=>?_)|refine zHg ?_|(with_reducible refine dA ?_;first|(exact cX)|(refine zSkip ?_)|(refine cY rfl ?_ ?_))|(with_reducible refine cZ ?_;first|(refine zDone ?_)|(refine aD 0 rfl (by decide+kernel) (by decide+kernel) rfl rfl rfl ?_)|(refine aD 1 rfl (by decide+kernel) (by decide+kernel) rfl rfl rfl ?_)|(refine aD 2 rfl (by decide+kernel) (by decide+kernel) rfl rfl rfl ?_)|(refine aD 3 rfl (by decide+kernel) (by decide+kernel) rfl rfl rfl ?_)|(refine aD 4 rfl (by decide+kernel) (by decide+kernel) rfl rfl rfl ?_)|(refine aD 6 rfl (by decide+kernel) (by decide+kernel) rfl rfl rfl ?_)|(refine aD 7 rfl (by decide+kernel) (by decide+kernel) rfl rfl rfl ?_)|(refine aD 8 rfl (by decide+kernel) (by decide+kernel) rfl rfl rfl ?_)|(refine aD 9 rfl (by decide+kernel) (by decide+kernel) rfl rfl rfl ?_)|(refine aD 10 rfl (by decide+kernel) (by decide+kernel) rfl rfl rfl ?_)|(refine zAll ?_;show cG _ _ _ _ _ _ _))|with_reducible refine dD ?_|(refine(hAA.next (([⟨false,tm⟩],k5)) (Le.renSub [(47,900)] [(900,47)] (by simp[go_sem]) (by simp[go_sem]) (Le.sub4 rfl (by simp[go_sem]))) (by(try dsimp only);omega) ?_))|simp(disch:=omega) [go_sem,hlt,hz',hnot,aB,aA])
       all_goals(first|omega|skip)
       all_goals exact⟨by omega,by(try simp);omega,hag⟩
      ·have h0': ¬a= []:=fun h=>h0 (by rw[h];rfl)
       all_goals repeat' (first|(refine aC fun _ _=>?_)|refine zHg ?_|simp(disch:=omega) [go_sem,hlt,h0,h0',hz',hnot,aB,aA]|refine zDn 11 15 aT ?_|fail)
       all_goals refine bG [] [] 10000 _ _ (Fits.mk' (by simp[go_sem,aB,aA]) (by simp[go_sem,aB,aA])) (by simp[go_sem,aB,aA]) (by simp[go_sem,aB,aA]) (hsg) (by simp[go_sem,aB,aA]) (by simp[go_sem,aB,aA]) ?_
       all_goals repeat' (first|(refine aC fun _ _=>?_)|refine zHg ?_|simp(disch:=omega) [go_sem,hlt,h0,h0',hz',hnot,aB,aA])
       all_goals refine bG [] [] 10000 _ _ (Fits.mk' (by simp[go_sem,aB,aA]) (by simp[go_sem,aB,aA])) (by simp[go_sem,aB,aA]) (by simp[go_sem,aB,aA]) (hw1) (by simp[go_sem,aB,aA]) (by simp[go_sem,aB,aA]) ?_
       all_goals repeat' (first|(refine aC fun _ _=>?_)|refine zHg ?_|simp(disch:=omega) [go_sem,hlt,h0,h0',hz',hnot,aB,aA])
       all_goals refine bG [] [] 10000 _ _ (Fits.mk' (by simp[go_sem,aB,aA]) (by simp[go_sem,aB,aA])) (by simp[go_sem,aB,aA]) (by simp[go_sem,aB,aA]) (hw2) (by simp[go_sem,aB,aA]) (by simp[go_sem,aB,aA]) ?_
       all_goals repeat' (first|(refine aC fun _ _=>?_)|refine zHg ?_|(with_reducible refine dA ?_;first|(exact cX)|(refine zSkip ?_)|(refine cY rfl ?_ ?_))|(with_reducible refine cZ ?_;first|(refine zDone ?_)|(refine aD 0 rfl (by decide+kernel) (by decide+kernel) rfl rfl rfl ?_)|(refine aD 1 rfl (by decide+kernel) (by decide+kernel) rfl rfl rfl ?_)|(refine aD 2 rfl (by decide+kernel) (by decide+kernel) rfl rfl rfl ?_)|(refine aD 3 rfl (by decide+kernel) (by decide+kernel) rfl rfl rfl ?_)|(refine aD 4 rfl (by decide+kernel) (by decide+kernel) rfl rfl rfl ?_)|(refine aD 6 rfl (by decide+kernel) (by decide+kernel) rfl rfl rfl ?_)|(refine aD 7 rfl (by decide+kernel) (by decide+kernel) rfl rfl rfl ?_)|(refine aD 8 rfl (by decide+kernel) (by decide+kernel) rfl rfl rfl ?_)|(refine aD 9 rfl (by decide+kernel) (by decide+kernel) rfl rfl rfl ?_)|(refine aD 10 rfl (by decide+kernel) (by decide+kernel) rfl rfl rfl ?_)|(refine zAll ?_;show cG _ _ _ _ _ _ _))|with_reducible refine dD ?_|simp(disch:=omega) [go_sem,hlt,h0,h0',hz',hnot,aB,aA]|refine zAny aT ?_|fail)
       all_goals refine bG [] [] 10000 _ _ (Fits.mk' (by simp[go_sem,aB,aA]) (by simp[go_sem,aB,aA])) (by simp[go_sem,aB,aA]) (by simp[go_sem,aB,aA]) (ht) (by simp[go_sem,aB,aA]) (by simp[go_sem,aB,aA]) ?_
       all_goals repeat' (first|(refine aC fun _ _=>?_)|refine zHg ?_|(with_reducible refine dA ?_;first|(exact cX)|(refine zSkip ?_)|(refine cY rfl ?_ ?_))|(with_reducible refine cZ ?_;first|(refine zDone ?_)|(refine aD 0 rfl (by decide+kernel) (by decide+kernel) rfl rfl rfl ?_)|(refine aD 1 rfl (by decide+kernel) (by decide+kernel) rfl rfl rfl ?_)|(refine aD 2 rfl (by decide+kernel) (by decide+kernel) rfl rfl rfl ?_)|(refine aD 3 rfl (by decide+kernel) (by decide+kernel) rfl rfl rfl ?_)|(refine aD 4 rfl (by decide+kernel) (by decide+kernel) rfl rfl rfl ?_)|(refine aD 6 rfl (by decide+kernel) (by decide+kernel) rfl rfl rfl ?_)|(refine aD 7 rfl (by decide+kernel) (by decide+kernel) rfl rfl rfl ?_)|(refine aD 8 rfl (by decide+kernel) (by decide+kernel) rfl rfl rfl ?_)|(refine aD 9 rfl (by decide+kernel) (by decide+kernel) rfl rfl rfl ?_)|(refine aD 10 rfl (by decide+kernel) (by decide+kernel) rfl rfl rfl ?_)|(refine zAll ?_;show cG _ _ _ _ _ _ _))|with_reducible refine dD ?_|(refine(hAA.next ((a++ [⟨false,tm⟩],k5)) (Le.sub4 rfl (by simp[go_sem])) (by(try dsimp only);omega) ?_))|simp(disch:=omega) [go_sem,hlt,h0,h0',hz',hnot,aB,aA]|refine zAo ?_|fail)
       all_goals(first|omega|skip)
       all_goals exact⟨by omega,by(try simp);omega,hag⟩
   ·rw[wC hlt hb]at hag
    subst hag
    rw[hb]at hsg
    generalize aM s 46 k=k1 at*
    dsimp only at*
    by_cases h0:a.length=0
    ·obtain rfl:=List.eq_nil_of_length_eq_zero h0
     all_goals repeat' (first|(refine aC fun _ _=>?_)|refine zHg ?_|simp(disch:=omega) [go_sem,hlt,aB,aA]|refine zDn 11 15 aT ?_|fail)
     all_goals refine bG [] [] 10000 _ _ (Fits.mk' (by simp[go_sem,aB,aA]) (by simp[go_sem,aB,aA])) (by simp[go_sem,aB,aA]) (by simp[go_sem,aB,aA]) (hsg) (by simp[go_sem,aB,aA]) (by simp[go_sem,aB,aA]) ?_
     all_goals repeat' (first|(refine aC fun _ _=>?_)|refine zHg ?_|simp(disch:=omega) [go_sem,hlt,aB,aA])
     all_goals refine cV ⟨50,[(4,.ptr 4 0 0)],(4,⟨false,false,false,3,[.agg [.sc (.string H.name),.list false false (H.args.map aL),.list false true []]],0⟩)::(1000,aA s k1):: []⟩ [.agg [.sc (.string H.name),.list false false (H.args.map aL),.list false true []]] (Le.renSub [] [] (by simp[go_sem,aB,aA]) (by simp[go_sem,aB,aA]) (Le.sub4 rfl (by simp[go_sem,aB,aA]))) (by simp[go_sem,aB,aA]) ⟨rfl,rfl⟩
    ·have h0': ¬a= []:=fun h=>h0 (by rw[h];rfl)
     all_goals repeat' (first|(refine aC fun _ _=>?_)|refine zHg ?_|simp(disch:=omega) [go_sem,hlt,h0,h0',aB,aA]|refine zDn 11 15 aT ?_|fail)
     all_goals refine bG [] [] 10000 _ _ (Fits.mk' (by simp[go_sem,aB,aA]) (by simp[go_sem,aB,aA])) (by simp[go_sem,aB,aA]) (by simp[go_sem,aB,aA]) (hsg) (by simp[go_sem,aB,aA]) (by simp[go_sem,aB,aA]) ?_
     all_goals repeat' (first|(refine aC fun _ _=>?_)|refine zHg ?_|simp(disch:=omega) [go_sem,hlt,h0,h0',aB,aA])
     all_goals refine cV ⟨50,[(4,.ptr 4 0 0)],(4,⟨false,false,false,3,[.agg [.sc (.string H.name),.list false false (H.args.map aL),.ref 900 0 a.length]],0⟩)::(1000,aA s k1):: [(900,⟨true,false,false,3,a.map bT,0⟩)]⟩ [.agg [.sc (.string H.name),.list false false (H.args.map aL),.ref 900 0 a.length]] (Le.renSub [] [] (by simp[go_sem,aB,aA]) (by simp[go_sem,aB,aA]) (Le.sub4 rfl (by simp[go_sem,aB,aA]))) (by simp[go_sem,aB,aA]) ⟨rfl,rfl⟩
  ·rw[bU1 hlt]at hag
   subst hag
   dsimp only at*
   by_cases h0:a.length=0
   ·obtain rfl:=List.eq_nil_of_length_eq_zero h0
    all_goals repeat' (first|(refine aC fun _ _=>?_)|refine zHg ?_|simp(disch:=omega) [go_sem,hlt,aB,aA]|refine zDn 11 15 aT ?_|fail)
    all_goals refine cV ⟨50,[(4,.ptr 4 0 0)],(4,⟨false,false,false,3,[.agg [.sc (.string H.name),.list false false (H.args.map aL),.list false true []]],0⟩)::(1000,aA s k):: []⟩ [.agg [.sc (.string H.name),.list false false (H.args.map aL),.list false true []]] (Le.renSub [] [] (by simp[go_sem,aB,aA]) (by simp[go_sem,aB,aA]) (Le.sub4 rfl (by simp[go_sem,aB,aA]))) (by simp[go_sem,aB,aA]) ⟨rfl,rfl⟩
   ·have h0': ¬a= []:=fun h=>h0 (by rw[h];rfl)
    all_goals repeat' (first|(refine aC fun _ _=>?_)|refine zHg ?_|simp(disch:=omega) [go_sem,hlt,h0,h0',aB,aA]|refine zDn 11 15 aT ?_|fail)
    all_goals refine cV ⟨50,[(4,.ptr 4 0 0)],(4,⟨false,false,false,3,[.agg [.sc (.string H.name),.list false false (H.args.map aL),.ref 900 0 a.length]],0⟩)::(1000,aA s k):: [(900,⟨true,false,false,3,a.map bT,0⟩)]⟩ [.agg [.sc (.string H.name),.list false false (H.args.map aL),.ref 900 0 a.length]] (Le.renSub [] [] (by simp[go_sem,aB,aA]) (by simp[go_sem,aB,aA]) (Le.sub4 rfl (by simp[go_sem,aB,aA]))) (by simp[go_sem,aB,aA]) ⟨rfl,rfl⟩
 by_cases h0:G.1.length=0
 ·have hn:=List.eq_nil_of_length_eq_zero h0
  simp only[hn,List.length_nil,if_true,decide_true,List.map_nil]at key ⊢
  exact key.shared rfl (by simp[go_sem]) (by simp[go_sem]) (by simp[go_sem])
 ·simp only[h0,if_false,decide_false]at key ⊢
  refine key.shared (s':=?_) (y:= .agg [.sc (.string H.name),.list false false (H.args.map aL),.list false false (G.1.map bT)]) (by simp[go_sem,bS];rfl) (by simp[go_sem]) (by simp[go_sem]) (by simp[go_sem])
theorem aDi (s:ByteArray) (hs:s.size≤1000000):ACall prog 13 [.sc (.string s)] (fun r=>r= .own 3 ((kO s [] 0).map bZ)):=by
 generalize hG:kO s [] 0=G at*
 refine ACall.own_nil ?_
 refine bF func13 call13 rfl (by simp[ntmps13]) ?_;simp only[ntmps13,results13]
 repeat' (first|(refine aC fun _ _=>?_)|refine zHg ?_|simp(disch:=omega) [go_sem])
 refine cL [3] [8,900] (fun y:List Rl×Nat=> [(4,.ref 900 0 y.1.length)]) (fun y:List Rl×Nat=> [(8,eL s y.2),(900,⟨true,false,false,3,y.1.map bZ,0⟩)]) (fun y:List Rl×Nat=>s.size - y.2) (fun y:List Rl×Nat=>y.2≤s.size∧y.1.length≤y.2∧kO s y.1 y.2=G) (([],0)) (by refine Le.trans ?_ (Le.nil (i:=4) (T:=900) (es:=3) rfl);exact(Le.sub4 rfl (by simp[go_sem,eL,List.map_nil,List.length_nil]))) ⟨?_⟩ ?_
 ·exact⟨Nat.zero_le _,Nat.zero_le _,hG⟩
 intro y ⟨hy2,hy3,hag⟩ AA hAA;simp only[kL,Nat.reduceBEq,Nat.reduceEqDiff,if_true,if_false,List.cons_append,List.nil_append,List.append_nil]
 obtain⟨a,k⟩:=y
 dsimp only at hy2 hy3 hag ⊢
 clear hG
 have hwd:=wG s k hs hy2
 have hwl:=kM (s:=s) hy2
 by_cases hz:(bH s k).size=0
 ·rw[N4 hz]at hag
  subst hag
  have hz':bH s k=⟨#[]⟩:=by
   refine ByteArray.ext ?_
   exact Array.eq_empty_of_size_eq_zero hz
  rw[hz']at hwd
  clear hz hz'
  generalize aK s k=k1 at*
  try dsimp only at*
  repeat' (first|(refine aC fun _ _=>?_)|refine zHg ?_|simp(disch:=omega) [go_sem,eL])
  refine bG [(1000,8)] [(8,1000)] 10000 _ _ (Fits.mk' (by simp[go_sem,aB,aA,eL]) (by simp[go_sem,aB,aA,eL])) (by simp[go_sem,aB,aA,eL]) (by simp[go_sem,aB,aA,eL]) (hwd) (by simp[go_sem,aB,aA,eL]) (by simp[go_sem,aB,aA,eL]) ?_
  repeat' (first|(refine aC fun _ _=>?_)|refine zHg ?_|(refine aU [] ?_;simp[go_sem,eL])|simp(disch:=omega) [go_sem,eL])
 ·rw[wD hy2 hz]at hag
  have hgt:=wB hz
  have hru:=bU5 s hs (aK s k) (bH s k) hwl
  have hrl:=N3 (s:=s) (w:=bH s k) hwl
  have hrg:=N2 (s:=s) (w:=bH s k) (i:=aK s k)
  have hlim:a.length≤1000000:=by omega
  have hz': ¬bH s k=⟨#[]⟩:=fun h=>hz (by rw[h];rfl)
  clear hz
  generalize iC s (bH s k) (aK s k)=q at*
  generalize bH s k=wd at*
  generalize aK s k=k1 at*
  obtain⟨r,k2⟩:=q
  try dsimp only at*
  repeat' (first|(refine aC fun _ _=>?_)|refine zHg ?_|simp(disch:=omega) [go_sem,eL,hz'])
  refine bG [(1000,8)] [(8,1000)] 10000 _ _ (Fits.mk' (by simp[go_sem,aB,aA,eL]) (by simp[go_sem,aB,aA,eL])) (by simp[go_sem,aB,aA,eL]) (by simp[go_sem,aB,aA,eL]) (hwd) (by simp[go_sem,aB,aA,eL]) (by simp[go_sem,aB,aA,eL]) ?_
  repeat' (first|(refine aC fun _ _=>?_)|refine zHg ?_|simp(disch:=omega) [go_sem,eL,hz'])
  refine bG [(1000,8)] [(8,1000)] 10000 _ _ (Fits.mk' (by simp[go_sem,aB,aA,eL]) (by simp[go_sem,aB,aA,eL])) (by simp[go_sem,aB,aA,eL]) (by simp[go_sem,aB,aA,eL]) (hru) (by simp[go_sem,aB,aA,eL]) (by simp[go_sem,aB,aA,eL]) ?_
  repeat' (first|(refine aC fun _ _=>?_)|refine zHg ?_|(refine(hAA.next ((a++ [r],k2)) (Le.sub4 rfl (by simp[go_sem,eL])) (by(try dsimp only);omega) ?_))|simp(disch:=omega) [go_sem,eL,hz']|refine zAo ?_|fail)
  all_goals(first|omega|skip)
  exact⟨by omega,by(try simp);omega,hag⟩
set_option maxHeartbeats 8000000
def bM (s:ByteArray):AV:= .sc (.string s)
mutual
def N5:Tm→List ByteArray
 | .mk s ts=>if ts.length=0 then[s]else nX ts
def nX:List Tm→List ByteArray
 | []=> []
 |t::r=>N5 t++nX r
end
theorem bU6 {s:ByteArray} {ts:List Tm}:N5 (.mk s ts)=if ts.length=0 then[s]else nX ts:=rfl
theorem aDj: ∀a b:List Tm,nX (a++b)=nX a++nX b
 | [],b=>by simp[nX]
 |t::r,b=>by simp[nX,aDj r b]
open Go.Ab
set_option maxRecDepth 100000
set_option maxHeartbeats 8000000
theorem aDk {F:Bool→aY} {loc:Nat→Option LI} {s:ByteArray} {a b:Bool} {v:Value} (h:RV F loc (.agg [.sc (.string s),.list a b []]) v):RV F loc (.agg [.sc (.string s),.list false false []]) v:=by
 cases h with
 |agg h1 h2 h3=>
  refine .agg h1 (fun i x u hx hu=>?_) h3
  rcases i with _|_|i
  ·exact h2 0 x u hx hu
  ·simp at hx;subst hx
   exact(h2 1 _ u rfl hu).void rfl
  ·simp at hx
theorem bU7 (x y:ByteArray) (a b c d:Bool):ACall prog 52 [.agg [.sc (.string x),.list a b []],.agg [.sc (.string y),.list c d []]] (fun r=>r=nt .i64 (cT (.mk x []) (.mk y []))):=by
 refine(aCo (.mk x []) (.mk y [])).args rfl fun F i p q v hp hq h=>?_
 rcases i with _|_|i
 ·simp at hp hq;subst hp;subst hq;exact aDk h
 ·simp at hp hq;subst hp;subst hq;exact aDk h
 ·simp at hp
def iD (x y:ByteArray):Int:=cT (.mk x []) (.mk y [])
theorem bU8:ACall prog 66 [nt .u64 0] (fun r=>r=nt .i64 0):=by
 refine bF func66 call66 rfl (by simp[ntmps66]) ?_;simp only[ntmps66,results66]
 repeat' (first|(refine aC fun _ _=>?_)|refine zHg ?_|(refine aU [] ?_;simp[go_sem])|simp(disch:=omega) [go_sem])
 all_goals(first|rfl|decide+kernel)
theorem bU9:ACall prog 51 [nt .u64 0] (fun r=>r=nt .i64 0):=by
 have h:=bU8
 refine bF func51 call51 rfl (by simp[ntmps51]) ?_;simp only[ntmps51,results51]
 repeat' (first|(refine aC fun _ _=>?_)|refine zHg ?_|(refine aU [] ?_;simp[go_sem])|refine aV rfl (h) (by simp) ?_|simp(disch:=omega) [go_sem])
theorem bVa (f:FuncId):MCall prog 57 [.ref 1000 0 0,nt .i64 0,nt .i64 0,.clo f []] [(1000,cQ bM 1 0 [])] (fun r o'=>r= .tup []∧o'= [(1000,cQ bM 1 0 [])]):=by
 refine eM func57 call57 rfl (by simp[ntmps57]) ?_;simp only[ntmps57,results57]
 repeat' (first|(refine aC fun _ _=>?_)|refine zHg ?_|simp(disch:=omega) [go_sem])
 refine cL [0,1,2,3] [] (fun u:Unit=> [(8,nt .i64 1)]) (fun u:Unit=> []) (fun u:Unit=>0) (fun u:Unit=>True) (()) (Le.sub4 rfl (by simp[go_sem])) ⟨?_⟩ ?_
 ·trivial
 intro u hu AA hAA;simp only[kL,Nat.reduceBEq,Nat.reduceEqDiff,if_true,if_false,List.cons_append,List.nil_append,List.append_nil]
 repeat' (first|(refine aC fun _ _=>?_)|refine zHg ?_|simp(disch:=omega) [go_sem])
 refine rI ⟨53,[],[(1000,cQ bM 1 0 [])]⟩ [] (Le.renSub [] [] (by simp[go_sem]) (by simp[go_sem]) (Le.sub4 rfl (by simp[go_sem]))) (by simp[go_sem]) ⟨rfl,rfl⟩
theorem bVb (f:FuncId):MCall prog 50 [.ref 1000 0 0,nt .i64 0,nt .i64 0,nt .i64 0,.clo f []] [(1000,cQ bM 1 0 [])] (fun r o'=>r= .tup []∧o'= [(1000,cQ bM 1 0 [])]):=by
 have hi:=bVa f
 refine eM func50 call50 rfl (by simp[ntmps50]) ?_;simp only[ntmps50,results50]
 repeat' (first|(refine aC fun _ _=>?_)|refine zHg ?_|simp(disch:=omega) [go_sem])
 refine cL [0,4] [] (fun u:Unit=> [(1,nt .i64 0),(2,nt .i64 0),(3,nt .i64 0),(10,bl true),(11,bl true)]) (fun u:Unit=> []) (fun u:Unit=>0) (fun u:Unit=>True) (()) (Le.sub4 rfl (by simp[go_sem])) ⟨?_⟩ ?_
 ·trivial
 intro u hu AA hAA;simp only[kL,Nat.reduceBEq,Nat.reduceEqDiff,if_true,if_false,List.cons_append,List.nil_append,List.append_nil]
 repeat' (first|(refine aC fun _ _=>?_)|refine zHg ?_|simp(disch:=omega) [go_sem])
 refine bG [] [] 10000 _ _ (Fits.mk' (by simp[go_sem]) (by simp[go_sem])) (by simp[go_sem]) (by simp[go_sem]) (hi) (by simp[go_sem]) (by simp[go_sem]) ?_
 repeat' (first|(refine aC fun _ _=>?_)|refine zHg ?_|simp(disch:=omega) [go_sem])
 refine cV ⟨148,[],[(1000,cQ bM 1 0 [])]⟩ [] (Le.renSub [] [] (by simp[go_sem]) (by simp[go_sem]) (Le.sub4 rfl (by simp[go_sem]))) (by simp[go_sem]) ⟨rfl,rfl⟩
theorem bVc (f:FuncId):MCall prog 31 [.ref 1000 0 0,.clo f []] [(1000,cQ bM 1 0 [])] (fun r o'=>r= .tup []∧o'= [(1000,cQ bM 1 0 [])]):=by
 have hi:=bVb f
 have hl:=bU9
 refine eM func31 call31 rfl (by simp[ntmps31]) ?_;simp only[ntmps31,results31]
 repeat' (first|(refine aC fun _ _=>?_)|refine zHg ?_|refine aV rfl (hl) (by simp) ?_|simp(disch:=omega) [go_sem])
 refine bG [] [] 10000 _ _ (Fits.mk' (by simp[go_sem]) (by simp[go_sem])) (by simp[go_sem]) (by simp[go_sem]) (hi) (by simp[go_sem]) (by simp[go_sem]) ?_
 repeat' (first|(refine aC fun _ _=>?_)|refine zHg ?_|simp(disch:=omega) [go_sem])
 refine rI ⟨14,[],[(1000,cQ bM 1 0 [])]⟩ [] (Le.renSub [] [] (by simp[go_sem]) (by simp[go_sem]) (Le.sub4 rfl (by simp[go_sem]))) (by simp[go_sem]) ⟨rfl,rfl⟩
set_option maxHeartbeats 4000000
set_option maxHeartbeats 8000000
end Go.Proofs.YtbgckcdddlmiaaaDoor
