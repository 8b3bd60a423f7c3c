import Derived.Test.YtbgckcdddlmiaaaGreatDoorS4
import Derived.Test.YtbgckcdddlmiaaaGreatDoorA13
import Derived.ChangeMaps5
import Derived.SevenTiedAt
import Derived.LaidMore
import Derived.LaidLaws
import Derived.Handed
set_option linter.unusedSectionVars false
set_option linter.unusedSimpArgs false
set_option linter.unusedVariables false
open Go.Proofs.Tryz
namespace Go.Proofs.YtbgckcdddlmiaaaGreatDoor
open Go.Ab
variable [Glob prog]
set_option maxRecDepth 100000
set_option maxHeartbeats 16000000
theorem bJj (s:ByteArray) (hs:s.size<=1000000) (i:Nat) (w:ByteArray) (hi:i<=s.size):MCall prog 55 [.ptr 1000 0 0,.sc (.string w)] (aB s i) (fun r o'=>r=bX (iZ s w i).1/\o'=aB s (iZ s w i).2):=by
 have ht:=F4 s hs (s.size+1) i w (by omega) hi
 have htl:=vF (s:=s) (w:=w) hi
 unfold iZ
 generalize cR s w i=q at*
 obtain⟨H,j⟩:=q
 dsimp only at*
 generalize hG:iL s [] j=G at*
 have hY:bX ⟨H,G.1⟩=Ab.loose (.agg [.sc (.string H.name),.list false false (H.args.map aI),.list false (decide (G.1.length=0)) (G.1.map bP)]):=rfl
 rw[hY]
 have key:MCall prog 55 [.ptr 1000 0 0,.sc (.string w)] (aB s i) (fun r o'=>r= .agg [.sc (.string H.name),.list false false (H.args.map aI),if G.1.length=0 then .list false true []else .ref 900 0 G.1.length]/\o'=(4,⟨false,false,false,3,[.agg [.sc (.string H.name),.list false false (H.args.map aI),if G.1.length=0 then .list false true []else .ref 900 0 G.1.length]],0⟩)::(1000,aA s G.2)::(if G.1.length=0 then[]else[(900,⟨true,false,false,3,G.1.map bP,0⟩)])):=by
  refine eW func55 call55 rfl (by simp[ntmps55]) ?_;simp only[ntmps55,results55]
  skip
  skip
  repeat' (first|(refine aC fun _ _=>?_)|refine zHg ?_|simp(disch:=omega) [go_sem,aB,aA])
  refine bH [] [] 10000 _ _ (Fits.mk' (by simp[go_sem,aB,aA]) (by simp[go_sem,aB,aA])) (by simp[go_sem,aB,aA]) (by simp[go_sem,aB,aA]) (ht) (by simp[go_sem,aB,aA]) (by simp[go_sem,aB,aA]) ?_
  repeat' (first|(refine aC fun _ _=>?_)|refine zHg ?_|simp(disch:=omega) [go_sem,aB,aA])
  refine bS [0,4,5] [5,900,1000] (fun y:List Lt×Nat=> []) (fun y:List Lt×Nat=>(5,⟨false,false,false,3,[.agg [.sc (.string H.name),.list false false (H.args.map aI),if y.1.length=0 then .list false true []else .ref 900 0 y.1.length]],0⟩)::(1000,aA s y.2)::(if y.1.length=0 then[]else[(900,⟨true,false,false,3,y.1.map bP,0⟩)])) (fun y:List Lt×Nat=>s.size - y.2) (fun y:List Lt×Nat=>y.2<=s.size/\y.1.length<=y.2/\iL s y.1 y.2=G) (([],j)) (Le.sub4 rfl (by simp[go_sem,aB,aA])) ⟨?_⟩ ?_
  ·exact⟨htl,Nat.zero_le _,hG⟩
  intro y ⟨hy2,hy3,hag⟩ AA hAA;simp only[kL,Nat.reduceBEq,Nat.reduceEqDiff]
  obtain⟨a,k⟩:=y
  dsimp only at hy2 hy3 hag ⊢
  clear hG ht
  by_cases hlt:k<s.size
  ·have hsg:=xZ s k 46 hs hy2
   have hsl:=qL (s:=s) (c:=46) hy2
   have hsge:=qK (s:=s) (c:=46) (i:=k)
   have hlim:a.length<=1000000:=by omega
   cases hb:cT s 46 k
   ·rw[hb]at hsg
    have hw1:=yA s (aR s 46 k) hs hsl
    have hl1:=lN (s:=s) hsl
    have hg1:=lM (s:=s) (i:=aR s 46 k)
    have hw2:=yA s (aP s (aR s 46 k)) hs hl1
    have hl2:=lN (s:=s) hl1
    have hg2:=lM (s:=s) (i:=aP s (aR s 46 k))
    have hw3:=yA s (aP s (aP s (aR s 46 k))) hs hl2
    have hl3:=lN (s:=s) hl2
    have hg3:=lM (s:=s) (i:=aP s (aP s (aR s 46 k)))
    have hvoid:=fun hz=>bJg (s:=s) (a:=a) (i:=k) hlt hb hz
    have hgo:=fun hz=>V3 (s:=s) (a:=a) (i:=k) hlt hb hz
    have hgt:=fun hz=>V2 (s:=s) (i:=aR s 46 k) hz
    unfold eE at hvoid hgo hgt
    by_cases hnot:bJ s (aP s (aR s 46 k))=aG5
    ·simp only[hnot,if_true,if_false]at hvoid hgo hgt
     rw[hnot]at hw2
     have ht:=F4 s hs (s.size+1) (aP s (aP s (aP s (aR s 46 k)))) (bJ s (aP s (aP s (aR s 46 k)))) (by omega) hl3
     have htl2:=vF (s:=s) (w:=bJ s (aP s (aP s (aR s 46 k)))) hl3
     have htg:=tF (s:=s) (w:=bJ s (aP s (aP s (aR s 46 k)))) (i:=aP s (aP s (aP s (aR s 46 k))))
     by_cases hz:(bJ s (aP s (aP s (aR s 46 k)))).size=0
     ·rw[hvoid hz]at hag
      subst hag
      have hz':bJ s (aP s (aP s (aR s 46 k)))=⟨#[]⟩:=by
       refine ByteArray.ext ?_
       exact Array.eq_empty_of_size_eq_zero hz
      clear hvoid hgo hgt ht htl2 htg hz
      rw[hz']at hw3
      clear hz'
      generalize aP s (aP s (aP s (aR s 46 k)))=k4 at*
      generalize aP s (aP s (aR s 46 k))=k3 at*
      generalize aP s (aR s 46 k)=k2 at*
      generalize bJ s (aR s 46 k)=w1 at*
      generalize aR s 46 k=k1 at*
      dsimp only at*
      by_cases h0:a.length=0
      ·obtain rfl:=List.eq_nil_of_length_eq_zero h0
       all_goals repeat' (first|(refine aC fun _ _=>?_)|refine zHg ?_|simp(disch:=omega) [go_sem,hlt,aB,aA]|refine zDn 11 15 aQ ?_|fail)
       all_goals refine bH [] [] 10000 _ _ (Fits.mk' (by simp[go_sem,aB,aA]) (by simp[go_sem,aB,aA])) (by simp[go_sem,aB,aA]) (by simp[go_sem,aB,aA]) (hsg) (by simp[go_sem,aB,aA]) (by simp[go_sem,aB,aA]) ?_
       all_goals repeat' (first|(refine aC fun _ _=>?_)|refine zHg ?_|simp(disch:=omega) [go_sem,hlt,aB,aA])
       all_goals refine bH [] [] 10000 _ _ (Fits.mk' (by simp[go_sem,aB,aA]) (by simp[go_sem,aB,aA])) (by simp[go_sem,aB,aA]) (by simp[go_sem,aB,aA]) (hw1) (by simp[go_sem,aB,aA]) (by simp[go_sem,aB,aA]) ?_
       all_goals repeat' (first|(refine aC fun _ _=>?_)|refine zHg ?_|simp(disch:=omega) [go_sem,hlt,aB,aA])
       all_goals refine bH [] [] 10000 _ _ (Fits.mk' (by simp[go_sem,aB,aA]) (by simp[go_sem,aB,aA])) (by simp[go_sem,aB,aA]) (by simp[go_sem,aB,aA]) (hw2) (by simp[go_sem,aB,aA]) (by simp[go_sem,aB,aA]) ?_
       all_goals repeat' (first|(refine aC fun _ _=>?_)|refine zHg ?_|simp(disch:=omega) [go_sem,hlt,aB,aA])
       all_goals refine bH [] [] 10000 _ _ (Fits.mk' (by simp[go_sem,aB,aA]) (by simp[go_sem,aB,aA])) (by simp[go_sem,aB,aA]) (by simp[go_sem,aB,aA]) (hw3) (by simp[go_sem,aB,aA]) (by simp[go_sem,aB,aA]) ?_
       all_goals repeat' (first|(refine aC fun _ _=>?_)|refine zHg ?_|simp(disch:=omega) [go_sem,hlt,aB,aA])
       all_goals refine cV ⟨50,[(4,.ptr 4 0 0)],(4,⟨false,false,false,3,[.agg [.sc (.string H.name),.list false false (H.args.map aI),.list false true []]],0⟩)::(1000,aA s k4):: []⟩ [.agg [.sc (.string H.name),.list false false (H.args.map aI),.list false true []]] (Le.renSub [] [] (by simp[go_sem,aB,aA]) (by simp[go_sem,aB,aA]) (Le.sub4 rfl (by simp[go_sem,aB,aA]))) (by simp[go_sem,aB,aA]) ⟨rfl,rfl⟩
      ·have h0': ¬a= []:=fun h=>h0 (by rw[h];rfl)
       all_goals repeat' (first|(refine aC fun _ _=>?_)|refine zHg ?_|simp(disch:=omega) [go_sem,hlt,h0,h0',aB,aA]|refine zDn 11 15 aQ ?_|fail)
       all_goals refine bH [] [] 10000 _ _ (Fits.mk' (by simp[go_sem,aB,aA]) (by simp[go_sem,aB,aA])) (by simp[go_sem,aB,aA]) (by simp[go_sem,aB,aA]) (hsg) (by simp[go_sem,aB,aA]) (by simp[go_sem,aB,aA]) ?_
       all_goals repeat' (first|(refine aC fun _ _=>?_)|refine zHg ?_|simp(disch:=omega) [go_sem,hlt,h0,h0',aB,aA])
       all_goals refine bH [] [] 10000 _ _ (Fits.mk' (by simp[go_sem,aB,aA]) (by simp[go_sem,aB,aA])) (by simp[go_sem,aB,aA]) (by simp[go_sem,aB,aA]) (hw1) (by simp[go_sem,aB,aA]) (by simp[go_sem,aB,aA]) ?_
       all_goals repeat' (first|(refine aC fun _ _=>?_)|refine zHg ?_|simp(disch:=omega) [go_sem,hlt,h0,h0',aB,aA])
       all_goals refine bH [] [] 10000 _ _ (Fits.mk' (by simp[go_sem,aB,aA]) (by simp[go_sem,aB,aA])) (by simp[go_sem,aB,aA]) (by simp[go_sem,aB,aA]) (hw2) (by simp[go_sem,aB,aA]) (by simp[go_sem,aB,aA]) ?_
       all_goals repeat' (first|(refine aC fun _ _=>?_)|refine zHg ?_|simp(disch:=omega) [go_sem,hlt,h0,h0',aB,aA])
       all_goals refine bH [] [] 10000 _ _ (Fits.mk' (by simp[go_sem,aB,aA]) (by simp[go_sem,aB,aA])) (by simp[go_sem,aB,aA]) (by simp[go_sem,aB,aA]) (hw3) (by simp[go_sem,aB,aA]) (by simp[go_sem,aB,aA]) ?_
       all_goals repeat' (first|(refine aC fun _ _=>?_)|refine zHg ?_|simp(disch:=omega) [go_sem,hlt,h0,h0',aB,aA])
       all_goals refine cV ⟨50,[(4,.ptr 4 0 0)],(4,⟨false,false,false,3,[.agg [.sc (.string H.name),.list false false (H.args.map aI),.ref 900 0 a.length]],0⟩)::(1000,aA s k4):: [(900,⟨true,false,false,3,a.map bP,0⟩)]⟩ [.agg [.sc (.string H.name),.list false false (H.args.map aI),.ref 900 0 a.length]] (Le.renSub [] [] (by simp[go_sem,aB,aA]) (by simp[go_sem,aB,aA]) (Le.sub4 rfl (by simp[go_sem,aB,aA]))) (by simp[go_sem,aB,aA]) ⟨rfl,rfl⟩
     ·rw[hgo hz]at hag
      have hgt1:=hgt hz
      have hz': ¬bJ s (aP s (aP s (aR s 46 k)))=⟨#[]⟩:=fun h=>hz (by rw[h];rfl)
      clear hvoid hgo hgt hz
      generalize cR s (bJ s (aP s (aP s (aR s 46 k)))) (aP s (aP s (aP s (aR s 46 k))))=q at*
      generalize hwd:bJ s (aP s (aP s (aR s 46 k)))=wd at*
      clear hwd
      generalize aP s (aP s (aP s (aR s 46 k)))=k4 at*
      generalize aP s (aP s (aR s 46 k))=k3 at*
      generalize aP s (aR s 46 k)=k2 at*
      generalize bJ s (aR s 46 k)=w1 at*
      generalize aR s 46 k=k1 at*
      obtain⟨tm,k5⟩:=q
      dsimp only at*
      by_cases h0:a.length=0
      ·obtain rfl:=List.eq_nil_of_length_eq_zero h0
       all_goals repeat' (first|(refine aC fun _ _=>?_)|refine zHg ?_|simp(disch:=omega) [go_sem,hlt,hz',aB,aA]|refine zDn 11 15 aQ ?_|fail)
       all_goals refine bH [] [] 10000 _ _ (Fits.mk' (by simp[go_sem,aB,aA]) (by simp[go_sem,aB,aA])) (by simp[go_sem,aB,aA]) (by simp[go_sem,aB,aA]) (hsg) (by simp[go_sem,aB,aA]) (by simp[go_sem,aB,aA]) ?_
       all_goals repeat' (first|(refine aC fun _ _=>?_)|refine zHg ?_|simp(disch:=omega) [go_sem,hlt,hz',aB,aA])
       all_goals refine bH [] [] 10000 _ _ (Fits.mk' (by simp[go_sem,aB,aA]) (by simp[go_sem,aB,aA])) (by simp[go_sem,aB,aA]) (by simp[go_sem,aB,aA]) (hw1) (by simp[go_sem,aB,aA]) (by simp[go_sem,aB,aA]) ?_
       all_goals repeat' (first|(refine aC fun _ _=>?_)|refine zHg ?_|simp(disch:=omega) [go_sem,hlt,hz',aB,aA])
       all_goals refine bH [] [] 10000 _ _ (Fits.mk' (by simp[go_sem,aB,aA]) (by simp[go_sem,aB,aA])) (by simp[go_sem,aB,aA]) (by simp[go_sem,aB,aA]) (hw2) (by simp[go_sem,aB,aA]) (by simp[go_sem,aB,aA]) ?_
       all_goals repeat' (first|(refine aC fun _ _=>?_)|refine zHg ?_|simp(disch:=omega) [go_sem,hlt,hz',aB,aA])
       all_goals refine bH [] [] 10000 _ _ (Fits.mk' (by simp[go_sem,aB,aA]) (by simp[go_sem,aB,aA])) (by simp[go_sem,aB,aA]) (by simp[go_sem,aB,aA]) (hw3) (by simp[go_sem,aB,aA]) (by simp[go_sem,aB,aA]) ?_
       all_goals repeat' (first|(refine aC fun _ _=>?_)|refine zHg ?_|(with_reducible refine dF ?_;first|(exact dC)|(refine zSkip ?_)|(refine dD rfl ?_ ?_))|(with_reducible refine dE ?_;first|(refine zDone ?_)|(refine zQu 0 rfl rfl rfl rfl ?_)|(refine zQu 1 rfl rfl rfl rfl ?_)|(refine zQu 2 rfl rfl rfl rfl ?_)|(refine zQu 3 rfl rfl rfl rfl ?_)|(refine zQu 4 rfl rfl rfl rfl ?_)|(refine zQu 6 rfl rfl rfl rfl ?_)|(refine zQu 7 rfl rfl rfl rfl ?_)|(refine zQu 8 rfl rfl rfl rfl ?_)|(refine zQu 9 rfl rfl rfl rfl ?_)|(refine zQu 10 rfl rfl rfl rfl ?_)|(refine zAll ?_;show cO _ _ _ _ _ _ _))|with_reducible refine dH ?_|simp(disch:=omega) [go_sem,hlt,hz',aB,aA]|refine zAny aQ ?_|fail)
       all_goals refine bH [] [] 10000 _ _ (Fits.mk' (by simp[go_sem,aB,aA]) (by simp[go_sem,aB,aA])) (by simp[go_sem,aB,aA]) (by simp[go_sem,aB,aA]) (ht) (by simp[go_sem,aB,aA]) (by simp[go_sem,aB,aA]) ?_
       all_goals repeat' (first|(refine aC fun _ _=>?_)|refine zHg ?_|(with_reducible refine dF ?_;first|(exact dC)|(refine zSkip ?_)|(refine dD rfl ?_ ?_))|(with_reducible refine dE ?_;first|(refine zDone ?_)|(refine zQu 0 rfl rfl rfl rfl ?_)|(refine zQu 1 rfl rfl rfl rfl ?_)|(refine zQu 2 rfl rfl rfl rfl ?_)|(refine zQu 3 rfl rfl rfl rfl ?_)|(refine zQu 4 rfl rfl rfl rfl ?_)|(refine zQu 6 rfl rfl rfl rfl ?_)|(refine zQu 7 rfl rfl rfl rfl ?_)|(refine zQu 8 rfl rfl rfl rfl ?_)|(refine zQu 9 rfl rfl rfl rfl ?_)|(refine zQu 10 rfl rfl rfl rfl ?_)|(refine zAll ?_;show cO _ _ _ _ _ _ _))|with_reducible refine dH ?_|(refine(hAA.next (([⟨true,tm⟩],k5)) (Le.renSub [(47,900)] [(900,47)] (by simp[go_sem]) (by simp[go_sem]) (Le.sub4 rfl (by simp[go_sem]))) (by(try dsimp only);omega) ?_))|simp(disch:=omega) [go_sem,hlt,hz',aB,aA])
       try any_goals omega
       all_goals exact⟨by omega,by(try simp);omega,hag⟩
      ·have h0': ¬a= []:=fun h=>h0 (by rw[h];rfl)
       all_goals repeat' (first|(refine aC fun _ _=>?_)|refine zHg ?_|simp(disch:=omega) [go_sem,hlt,h0,h0',hz',aB,aA]|refine zDn 11 15 aQ ?_|fail)
       all_goals refine bH [] [] 10000 _ _ (Fits.mk' (by simp[go_sem,aB,aA]) (by simp[go_sem,aB,aA])) (by simp[go_sem,aB,aA]) (by simp[go_sem,aB,aA]) (hsg) (by simp[go_sem,aB,aA]) (by simp[go_sem,aB,aA]) ?_
       all_goals repeat' (first|(refine aC fun _ _=>?_)|refine zHg ?_|simp(disch:=omega) [go_sem,hlt,h0,h0',hz',aB,aA])
       all_goals refine bH [] [] 10000 _ _ (Fits.mk' (by simp[go_sem,aB,aA]) (by simp[go_sem,aB,aA])) (by simp[go_sem,aB,aA]) (by simp[go_sem,aB,aA]) (hw1) (by simp[go_sem,aB,aA]) (by simp[go_sem,aB,aA]) ?_
       all_goals repeat' (first|(refine aC fun _ _=>?_)|refine zHg ?_|simp(disch:=omega) [go_sem,hlt,h0,h0',hz',aB,aA])
       all_goals refine bH [] [] 10000 _ _ (Fits.mk' (by simp[go_sem,aB,aA]) (by simp[go_sem,aB,aA])) (by simp[go_sem,aB,aA]) (by simp[go_sem,aB,aA]) (hw2) (by simp[go_sem,aB,aA]) (by simp[go_sem,aB,aA]) ?_
       all_goals repeat' (first|(refine aC fun _ _=>?_)|refine zHg ?_|simp(disch:=omega) [go_sem,hlt,h0,h0',hz',aB,aA])
       all_goals refine bH [] [] 10000 _ _ (Fits.mk' (by simp[go_sem,aB,aA]) (by simp[go_sem,aB,aA])) (by simp[go_sem,aB,aA]) (by simp[go_sem,aB,aA]) (hw3) (by simp[go_sem,aB,aA]) (by simp[go_sem,aB,aA]) ?_
       all_goals repeat' (first|(refine aC fun _ _=>?_)|refine zHg ?_|(with_reducible refine dF ?_;first|(exact dC)|(refine zSkip ?_)|(refine dD rfl ?_ ?_))|(with_reducible refine dE ?_;first|(refine zDone ?_)|(refine zQu 0 rfl rfl rfl rfl ?_)|(refine zQu 1 rfl rfl rfl rfl ?_)|(refine zQu 2 rfl rfl rfl rfl ?_)|(refine zQu 3 rfl rfl rfl rfl ?_)|(refine zQu 4 rfl rfl rfl rfl ?_)|(refine zQu 6 rfl rfl rfl rfl ?_)|(refine zQu 7 rfl rfl rfl rfl ?_)|(refine zQu 8 rfl rfl rfl rfl ?_)|(refine zQu 9 rfl rfl rfl rfl ?_)|(refine zQu 10 rfl rfl rfl rfl ?_)|(refine zAll ?_;show cO _ _ _ _ _ _ _))|with_reducible refine dH ?_|simp(disch:=omega) [go_sem,hlt,h0,h0',hz',aB,aA]|refine zAny aQ ?_|fail)
       all_goals refine bH [] [] 10000 _ _ (Fits.mk' (by simp[go_sem,aB,aA]) (by simp[go_sem,aB,aA])) (by simp[go_sem,aB,aA]) (by simp[go_sem,aB,aA]) (ht) (by simp[go_sem,aB,aA]) (by simp[go_sem,aB,aA]) ?_
       all_goals repeat' (first|(refine aC fun _ _=>?_)|refine zHg ?_|(with_reducible refine dF ?_;first|(exact dC)|(refine zSkip ?_)|(refine dD rfl ?_ ?_))|(with_reducible refine dE ?_;first|(refine zDone ?_)|(refine zQu 0 rfl rfl rfl rfl ?_)|(refine zQu 1 rfl rfl rfl rfl ?_)|(refine zQu 2 rfl rfl rfl rfl ?_)|(refine zQu 3 rfl rfl rfl rfl ?_)|(refine zQu 4 rfl rfl rfl rfl ?_)|(refine zQu 6 rfl rfl rfl rfl ?_)|(refine zQu 7 rfl rfl rfl rfl ?_)|(refine zQu 8 rfl rfl rfl rfl ?_)|(refine zQu 9 rfl rfl rfl rfl ?_)|(refine zQu 10 rfl rfl rfl rfl ?_)|(refine zAll ?_;show cO _ _ _ _ _ _ _))|with_reducible refine dH ?_|(refine(hAA.next ((a++ [⟨true,tm⟩],k5)) (Le.sub4 rfl (by simp[go_sem])) (by(try dsimp only);omega) ?_))|simp(disch:=omega) [go_sem,hlt,h0,h0',hz',aB,aA]|refine zAo ?_|fail)
       try any_goals omega
       all_goals exact⟨by omega,by(try simp);omega,hag⟩
    ·simp only[hnot,if_false]at hvoid hgo hgt
     have ht:=F4 s hs (s.size+1) (aP s (aP s (aR s 46 k))) (bJ s (aP s (aR s 46 k))) (by omega) hl2
     have htl2:=vF (s:=s) (w:=bJ s (aP s (aR s 46 k))) hl2
     have htg:=tF (s:=s) (w:=bJ s (aP s (aR s 46 k))) (i:=aP s (aP s (aR s 46 k)))
     by_cases hz:(bJ s (aP s (aR s 46 k))).size=0
     ·rw[hvoid hz]at hag
      subst hag
      have hz':bJ s (aP s (aR s 46 k))=⟨#[]⟩:=by
       refine ByteArray.ext ?_
       exact Array.eq_empty_of_size_eq_zero hz
      clear hvoid hgo hgt ht htl2 htg hz
      rw[hz']at hw2 hnot
      clear hz'
      generalize aP s (aP s (aR s 46 k))=k3 at*
      generalize aP s (aR s 46 k)=k2 at*
      generalize bJ s (aR s 46 k)=w1 at*
      generalize aR s 46 k=k1 at*
      dsimp only at*
      by_cases h0:a.length=0
      ·obtain rfl:=List.eq_nil_of_length_eq_zero h0
       all_goals repeat' (first|(refine aC fun _ _=>?_)|refine zHg ?_|simp(disch:=omega) [go_sem,hlt,aB,aA]|refine zDn 11 15 aQ ?_|fail)
       all_goals refine bH [] [] 10000 _ _ (Fits.mk' (by simp[go_sem,aB,aA]) (by simp[go_sem,aB,aA])) (by simp[go_sem,aB,aA]) (by simp[go_sem,aB,aA]) (hsg) (by simp[go_sem,aB,aA]) (by simp[go_sem,aB,aA]) ?_
       all_goals repeat' (first|(refine aC fun _ _=>?_)|refine zHg ?_|simp(disch:=omega) [go_sem,hlt,aB,aA])
       all_goals refine bH [] [] 10000 _ _ (Fits.mk' (by simp[go_sem,aB,aA]) (by simp[go_sem,aB,aA])) (by simp[go_sem,aB,aA]) (by simp[go_sem,aB,aA]) (hw1) (by simp[go_sem,aB,aA]) (by simp[go_sem,aB,aA]) ?_
       all_goals repeat' (first|(refine aC fun _ _=>?_)|refine zHg ?_|simp(disch:=omega) [go_sem,hlt,aB,aA])
       all_goals refine bH [] [] 10000 _ _ (Fits.mk' (by simp[go_sem,aB,aA]) (by simp[go_sem,aB,aA])) (by simp[go_sem,aB,aA]) (by simp[go_sem,aB,aA]) (hw2) (by simp[go_sem,aB,aA]) (by simp[go_sem,aB,aA]) ?_
       all_goals repeat' (first|(refine aC fun _ _=>?_)|refine zHg ?_|simp(disch:=omega) [go_sem,hlt,aB,aA])
       all_goals refine cV ⟨50,[(4,.ptr 4 0 0)],(4,⟨false,false,false,3,[.agg [.sc (.string H.name),.list false false (H.args.map aI),.list false true []]],0⟩)::(1000,aA s k3):: []⟩ [.agg [.sc (.string H.name),.list false false (H.args.map aI),.list false true []]] (Le.renSub [] [] (by simp[go_sem,aB,aA]) (by simp[go_sem,aB,aA]) (Le.sub4 rfl (by simp[go_sem,aB,aA]))) (by simp[go_sem,aB,aA]) ⟨rfl,rfl⟩
      ·have h0': ¬a= []:=fun h=>h0 (by rw[h];rfl)
       all_goals repeat' (first|(refine aC fun _ _=>?_)|refine zHg ?_|simp(disch:=omega) [go_sem,hlt,h0,h0',aB,aA]|refine zDn 11 15 aQ ?_|fail)
       all_goals refine bH [] [] 10000 _ _ (Fits.mk' (by simp[go_sem,aB,aA]) (by simp[go_sem,aB,aA])) (by simp[go_sem,aB,aA]) (by simp[go_sem,aB,aA]) (hsg) (by simp[go_sem,aB,aA]) (by simp[go_sem,aB,aA]) ?_
       all_goals repeat' (first|(refine aC fun _ _=>?_)|refine zHg ?_|simp(disch:=omega) [go_sem,hlt,h0,h0',aB,aA])
       all_goals refine bH [] [] 10000 _ _ (Fits.mk' (by simp[go_sem,aB,aA]) (by simp[go_sem,aB,aA])) (by simp[go_sem,aB,aA]) (by simp[go_sem,aB,aA]) (hw1) (by simp[go_sem,aB,aA]) (by simp[go_sem,aB,aA]) ?_
       all_goals repeat' (first|(refine aC fun _ _=>?_)|refine zHg ?_|simp(disch:=omega) [go_sem,hlt,h0,h0',aB,aA])
       all_goals refine bH [] [] 10000 _ _ (Fits.mk' (by simp[go_sem,aB,aA]) (by simp[go_sem,aB,aA])) (by simp[go_sem,aB,aA]) (by simp[go_sem,aB,aA]) (hw2) (by simp[go_sem,aB,aA]) (by simp[go_sem,aB,aA]) ?_
       all_goals repeat' (first|(refine aC fun _ _=>?_)|refine zHg ?_|simp(disch:=omega) [go_sem,hlt,h0,h0',aB,aA])
       all_goals refine cV ⟨50,[(4,.ptr 4 0 0)],(4,⟨false,false,false,3,[.agg [.sc (.string H.name),.list false false (H.args.map aI),.ref 900 0 a.length]],0⟩)::(1000,aA s k3):: [(900,⟨true,false,false,3,a.map bP,0⟩)]⟩ [.agg [.sc (.string H.name),.list false false (H.args.map aI),.ref 900 0 a.length]] (Le.renSub [] [] (by simp[go_sem,aB,aA]) (by simp[go_sem,aB,aA]) (Le.sub4 rfl (by simp[go_sem,aB,aA]))) (by simp[go_sem,aB,aA]) ⟨rfl,rfl⟩
     ·rw[hgo hz]at hag
      have hgt1:=hgt hz
      have hz': ¬bJ s (aP s (aR s 46 k))=⟨#[]⟩:=fun h=>hz (by rw[h];rfl)
      clear hvoid hgo hgt hz
      generalize cR s (bJ s (aP s (aR s 46 k))) (aP s (aP s (aR s 46 k)))=q at*
      generalize hwd:bJ s (aP s (aR s 46 k))=wd at*
      clear hwd
      generalize aP s (aP s (aR s 46 k))=k3 at*
      generalize aP s (aR s 46 k)=k2 at*
      generalize bJ s (aR s 46 k)=w1 at*
      generalize aR s 46 k=k1 at*
      obtain⟨tm,k5⟩:=q
      dsimp only at*
      by_cases h0:a.length=0
      ·obtain rfl:=List.eq_nil_of_length_eq_zero h0
       all_goals repeat' (first|(refine aC fun _ _=>?_)|refine zHg ?_|simp(disch:=omega) [go_sem,hlt,hz',hnot,aB,aA]|refine zDn 11 15 aQ ?_|fail)
       all_goals refine bH [] [] 10000 _ _ (Fits.mk' (by simp[go_sem,aB,aA]) (by simp[go_sem,aB,aA])) (by simp[go_sem,aB,aA]) (by simp[go_sem,aB,aA]) (hsg) (by simp[go_sem,aB,aA]) (by simp[go_sem,aB,aA]) ?_
       all_goals repeat' (first|(refine aC fun _ _=>?_)|refine zHg ?_|simp(disch:=omega) [go_sem,hlt,hz',hnot,aB,aA])
       all_goals refine bH [] [] 10000 _ _ (Fits.mk' (by simp[go_sem,aB,aA]) (by simp[go_sem,aB,aA])) (by simp[go_sem,aB,aA]) (by simp[go_sem,aB,aA]) (hw1) (by simp[go_sem,aB,aA]) (by simp[go_sem,aB,aA]) ?_
       all_goals repeat' (first|(refine aC fun _ _=>?_)|refine zHg ?_|simp(disch:=omega) [go_sem,hlt,hz',hnot,aB,aA])
       all_goals refine bH [] [] 10000 _ _ (Fits.mk' (by simp[go_sem,aB,aA]) (by simp[go_sem,aB,aA])) (by simp[go_sem,aB,aA]) (by simp[go_sem,aB,aA]) (hw2) (by simp[go_sem,aB,aA]) (by simp[go_sem,aB,aA]) ?_
       all_goals repeat' (first|(refine aC fun _ _=>?_)|refine zHg ?_|(with_reducible refine dF ?_;first|(exact dC)|(refine zSkip ?_)|(refine dD rfl ?_ ?_))|(with_reducible refine dE ?_;first|(refine zDone ?_)|(refine zQu 0 rfl rfl rfl rfl ?_)|(refine zQu 1 rfl rfl rfl rfl ?_)|(refine zQu 2 rfl rfl rfl rfl ?_)|(refine zQu 3 rfl rfl rfl rfl ?_)|(refine zQu 4 rfl rfl rfl rfl ?_)|(refine zQu 6 rfl rfl rfl rfl ?_)|(refine zQu 7 rfl rfl rfl rfl ?_)|(refine zQu 8 rfl rfl rfl rfl ?_)|(refine zQu 9 rfl rfl rfl rfl ?_)|(refine zQu 10 rfl rfl rfl rfl ?_)|(refine zAll ?_;show cO _ _ _ _ _ _ _))|with_reducible refine dH ?_|simp(disch:=omega) [go_sem,hlt,hz',hnot,aB,aA]|refine zAny aQ ?_|fail)
       all_goals refine bH [] [] 10000 _ _ (Fits.mk' (by simp[go_sem,aB,aA]) (by simp[go_sem,aB,aA])) (by simp[go_sem,aB,aA]) (by simp[go_sem,aB,aA]) (ht) (by simp[go_sem,aB,aA]) (by simp[go_sem,aB,aA]) ?_
       all_goals repeat' (first|(refine aC fun _ _=>?_)|refine zHg ?_|(with_reducible refine dF ?_;first|(exact dC)|(refine zSkip ?_)|(refine dD rfl ?_ ?_))|(with_reducible refine dE ?_;first|(refine zDone ?_)|(refine zQu 0 rfl rfl rfl rfl ?_)|(refine zQu 1 rfl rfl rfl rfl ?_)|(refine zQu 2 rfl rfl rfl rfl ?_)|(refine zQu 3 rfl rfl rfl rfl ?_)|(refine zQu 4 rfl rfl rfl rfl ?_)|(refine zQu 6 rfl rfl rfl rfl ?_)|(refine zQu 7 rfl rfl rfl rfl ?_)|(refine zQu 8 rfl rfl rfl rfl ?_)|(refine zQu 9 rfl rfl rfl rfl ?_)|(refine zQu 10 rfl rfl rfl rfl ?_)|(refine zAll ?_;show cO _ _ _ _ _ _ _))|with_reducible refine dH ?_|(refine(hAA.next (([⟨false,tm⟩],k5)) (Le.renSub [(47,900)] [(900,47)] (by simp[go_sem]) (by simp[go_sem]) (Le.sub4 rfl (by simp[go_sem]))) (by(try dsimp only);omega) ?_))|simp(disch:=omega) [go_sem,hlt,hz',hnot,aB,aA])
       try any_goals omega
       all_goals exact⟨by omega,by(try simp);omega,hag⟩
      ·have h0': ¬a= []:=fun h=>h0 (by rw[h];rfl)
       all_goals repeat' (first|(refine aC fun _ _=>?_)|refine zHg ?_|simp(disch:=omega) [go_sem,hlt,h0,h0',hz',hnot,aB,aA]|refine zDn 11 15 aQ ?_|fail)
       all_goals refine bH [] [] 10000 _ _ (Fits.mk' (by simp[go_sem,aB,aA]) (by simp[go_sem,aB,aA])) (by simp[go_sem,aB,aA]) (by simp[go_sem,aB,aA]) (hsg) (by simp[go_sem,aB,aA]) (by simp[go_sem,aB,aA]) ?_
       all_goals repeat' (first|(refine aC fun _ _=>?_)|refine zHg ?_|simp(disch:=omega) [go_sem,hlt,h0,h0',hz',hnot,aB,aA])
       all_goals refine bH [] [] 10000 _ _ (Fits.mk' (by simp[go_sem,aB,aA]) (by simp[go_sem,aB,aA])) (by simp[go_sem,aB,aA]) (by simp[go_sem,aB,aA]) (hw1) (by simp[go_sem,aB,aA]) (by simp[go_sem,aB,aA]) ?_
       all_goals repeat' (first|(refine aC fun _ _=>?_)|refine zHg ?_|simp(disch:=omega) [go_sem,hlt,h0,h0',hz',hnot,aB,aA])
       all_goals refine bH [] [] 10000 _ _ (Fits.mk' (by simp[go_sem,aB,aA]) (by simp[go_sem,aB,aA])) (by simp[go_sem,aB,aA]) (by simp[go_sem,aB,aA]) (hw2) (by simp[go_sem,aB,aA]) (by simp[go_sem,aB,aA]) ?_
       all_goals repeat' (first|(refine aC fun _ _=>?_)|refine zHg ?_|(with_reducible refine dF ?_;first|(exact dC)|(refine zSkip ?_)|(refine dD rfl ?_ ?_))|(with_reducible refine dE ?_;first|(refine zDone ?_)|(refine zQu 0 rfl rfl rfl rfl ?_)|(refine zQu 1 rfl rfl rfl rfl ?_)|(refine zQu 2 rfl rfl rfl rfl ?_)|(refine zQu 3 rfl rfl rfl rfl ?_)|(refine zQu 4 rfl rfl rfl rfl ?_)|(refine zQu 6 rfl rfl rfl rfl ?_)|(refine zQu 7 rfl rfl rfl rfl ?_)|(refine zQu 8 rfl rfl rfl rfl ?_)|(refine zQu 9 rfl rfl rfl rfl ?_)|(refine zQu 10 rfl rfl rfl rfl ?_)|(refine zAll ?_;show cO _ _ _ _ _ _ _))|with_reducible refine dH ?_|simp(disch:=omega) [go_sem,hlt,h0,h0',hz',hnot,aB,aA]|refine zAny aQ ?_|fail)
       all_goals refine bH [] [] 10000 _ _ (Fits.mk' (by simp[go_sem,aB,aA]) (by simp[go_sem,aB,aA])) (by simp[go_sem,aB,aA]) (by simp[go_sem,aB,aA]) (ht) (by simp[go_sem,aB,aA]) (by simp[go_sem,aB,aA]) ?_
       all_goals repeat' (first|(refine aC fun _ _=>?_)|refine zHg ?_|(with_reducible refine dF ?_;first|(exact dC)|(refine zSkip ?_)|(refine dD rfl ?_ ?_))|(with_reducible refine dE ?_;first|(refine zDone ?_)|(refine zQu 0 rfl rfl rfl rfl ?_)|(refine zQu 1 rfl rfl rfl rfl ?_)|(refine zQu 2 rfl rfl rfl rfl ?_)|(refine zQu 3 rfl rfl rfl rfl ?_)|(refine zQu 4 rfl rfl rfl rfl ?_)|(refine zQu 6 rfl rfl rfl rfl ?_)|(refine zQu 7 rfl rfl rfl rfl ?_)|(refine zQu 8 rfl rfl rfl rfl ?_)|(refine zQu 9 rfl rfl rfl rfl ?_)|(refine zQu 10 rfl rfl rfl rfl ?_)|(refine zAll ?_;show cO _ _ _ _ _ _ _))|with_reducible refine dH ?_|(refine(hAA.next ((a++ [⟨false,tm⟩],k5)) (Le.sub4 rfl (by simp[go_sem])) (by(try dsimp only);omega) ?_))|simp(disch:=omega) [go_sem,hlt,h0,h0',hz',hnot,aB,aA]|refine zAo ?_|fail)
       try any_goals omega
       all_goals exact⟨by omega,by(try simp);omega,hag⟩
   ·rw[xX hlt hb]at hag
    subst hag
    rw[hb]at hsg
    generalize aR s 46 k=k1 at*
    dsimp only at*
    by_cases h0:a.length=0
    ·obtain rfl:=List.eq_nil_of_length_eq_zero h0
     all_goals repeat' (first|(refine aC fun _ _=>?_)|refine zHg ?_|simp(disch:=omega) [go_sem,hlt,aB,aA]|refine zDn 11 15 aQ ?_|fail)
     all_goals refine bH [] [] 10000 _ _ (Fits.mk' (by simp[go_sem,aB,aA]) (by simp[go_sem,aB,aA])) (by simp[go_sem,aB,aA]) (by simp[go_sem,aB,aA]) (hsg) (by simp[go_sem,aB,aA]) (by simp[go_sem,aB,aA]) ?_
     all_goals repeat' (first|(refine aC fun _ _=>?_)|refine zHg ?_|simp(disch:=omega) [go_sem,hlt,aB,aA])
     all_goals refine cV ⟨50,[(4,.ptr 4 0 0)],(4,⟨false,false,false,3,[.agg [.sc (.string H.name),.list false false (H.args.map aI),.list false true []]],0⟩)::(1000,aA s k1):: []⟩ [.agg [.sc (.string H.name),.list false false (H.args.map aI),.list false true []]] (Le.renSub [] [] (by simp[go_sem,aB,aA]) (by simp[go_sem,aB,aA]) (Le.sub4 rfl (by simp[go_sem,aB,aA]))) (by simp[go_sem,aB,aA]) ⟨rfl,rfl⟩
    ·have h0': ¬a= []:=fun h=>h0 (by rw[h];rfl)
     all_goals repeat' (first|(refine aC fun _ _=>?_)|refine zHg ?_|simp(disch:=omega) [go_sem,hlt,h0,h0',aB,aA]|refine zDn 11 15 aQ ?_|fail)
     all_goals refine bH [] [] 10000 _ _ (Fits.mk' (by simp[go_sem,aB,aA]) (by simp[go_sem,aB,aA])) (by simp[go_sem,aB,aA]) (by simp[go_sem,aB,aA]) (hsg) (by simp[go_sem,aB,aA]) (by simp[go_sem,aB,aA]) ?_
     all_goals repeat' (first|(refine aC fun _ _=>?_)|refine zHg ?_|simp(disch:=omega) [go_sem,hlt,h0,h0',aB,aA])
     all_goals refine cV ⟨50,[(4,.ptr 4 0 0)],(4,⟨false,false,false,3,[.agg [.sc (.string H.name),.list false false (H.args.map aI),.ref 900 0 a.length]],0⟩)::(1000,aA s k1):: [(900,⟨true,false,false,3,a.map bP,0⟩)]⟩ [.agg [.sc (.string H.name),.list false false (H.args.map aI),.ref 900 0 a.length]] (Le.renSub [] [] (by simp[go_sem,aB,aA]) (by simp[go_sem,aB,aA]) (Le.sub4 rfl (by simp[go_sem,aB,aA]))) (by simp[go_sem,aB,aA]) ⟨rfl,rfl⟩
  ·rw[bJf hlt]at hag
   subst hag
   dsimp only at*
   by_cases h0:a.length=0
   ·obtain rfl:=List.eq_nil_of_length_eq_zero h0
    all_goals repeat' (first|(refine aC fun _ _=>?_)|refine zHg ?_|simp(disch:=omega) [go_sem,hlt,aB,aA]|refine zDn 11 15 aQ ?_|fail)
    all_goals refine cV ⟨50,[(4,.ptr 4 0 0)],(4,⟨false,false,false,3,[.agg [.sc (.string H.name),.list false false (H.args.map aI),.list false true []]],0⟩)::(1000,aA s k):: []⟩ [.agg [.sc (.string H.name),.list false false (H.args.map aI),.list false true []]] (Le.renSub [] [] (by simp[go_sem,aB,aA]) (by simp[go_sem,aB,aA]) (Le.sub4 rfl (by simp[go_sem,aB,aA]))) (by simp[go_sem,aB,aA]) ⟨rfl,rfl⟩
   ·have h0': ¬a= []:=fun h=>h0 (by rw[h];rfl)
    all_goals repeat' (first|(refine aC fun _ _=>?_)|refine zHg ?_|simp(disch:=omega) [go_sem,hlt,h0,h0',aB,aA]|refine zDn 11 15 aQ ?_|fail)
    all_goals refine cV ⟨50,[(4,.ptr 4 0 0)],(4,⟨false,false,false,3,[.agg [.sc (.string H.name),.list false false (H.args.map aI),.ref 900 0 a.length]],0⟩)::(1000,aA s k):: [(900,⟨true,false,false,3,a.map bP,0⟩)]⟩ [.agg [.sc (.string H.name),.list false false (H.args.map aI),.ref 900 0 a.length]] (Le.renSub [] [] (by simp[go_sem,aB,aA]) (by simp[go_sem,aB,aA]) (Le.sub4 rfl (by simp[go_sem,aB,aA]))) (by simp[go_sem,aB,aA]) ⟨rfl,rfl⟩
 by_cases h0:G.1.length=0
 ·have hn:=List.eq_nil_of_length_eq_zero h0
  simp only[hn,List.length_nil,if_true,decide_true,List.map_nil]at key ⊢
  exact key.shared rfl (by simp[go_sem]) (by simp[go_sem]) (by simp[go_sem])
 ·simp only[h0,if_false,decide_false]at key ⊢
  refine key.shared (s':=?_) (y:= .agg [.sc (.string H.name),.list false false (H.args.map aI),.list false false (G.1.map bP)]) (by simp[go_sem,bY];rfl) (by simp[go_sem]) (by simp[go_sem]) (by simp[go_sem])
theorem aHb (s:ByteArray) (hs:s.size<=1000000):ACall prog 23 [.sc (.string s)] (fun r=>r= .own 3 ((lP s [] 0).map bX)):=by
 generalize hG:lP s [] 0=G at*
 refine ACall.own_nil ?_
 refine aU func23 call23 rfl (by simp[ntmps23]) ?_;simp only[ntmps23,results23]
 repeat' (first|(refine aC fun _ _=>?_)|refine zHg ?_|simp(disch:=omega) [go_sem])
 refine bS [3] [8,900] (fun y:List Rl×Nat=> [(4,.ref 900 0 y.1.length)]) (fun y:List Rl×Nat=> [(8,eY s y.2),(900,⟨true,false,false,3,y.1.map bX,0⟩)]) (fun y:List Rl×Nat=>s.size - y.2) (fun y:List Rl×Nat=>y.2<=s.size/\y.1.length<=y.2/\lP s y.1 y.2=G) (([],0)) (by refine Le.trans ?_ (Le.nil (i:=4) (T:=900) (es:=3) rfl);exact(Le.sub4 rfl (by simp[go_sem,eY,List.map_nil,List.length_nil]))) ⟨?_⟩ ?_
 ·exact⟨Nat.zero_le _,Nat.zero_le _,hG⟩
 intro y ⟨hy2,hy3,hag⟩ AA hAA;simp only[kL,Nat.reduceBEq,Nat.reduceEqDiff]
 obtain⟨a,k⟩:=y
 dsimp only at hy2 hy3 hag ⊢
 clear hG
 have hwd:=yA s k hs hy2
 have hwl:=lN (s:=s) hy2
 by_cases hz:(bJ s k).size=0
 ·rw[V6 hz]at hag
  subst hag
  have hz':bJ s k=⟨#[]⟩:=by
   refine ByteArray.ext ?_
   exact Array.eq_empty_of_size_eq_zero hz
  rw[hz']at hwd
  clear hz hz'
  generalize aP s k=k1 at*
  try dsimp only at*
  repeat' (first|(refine aC fun _ _=>?_)|refine zHg ?_|simp(disch:=omega) [go_sem,eY])
  refine bH [(1000,8)] [(8,1000)] 10000 _ _ (Fits.mk' (by simp[go_sem,aB,aA,eY]) (by simp[go_sem,aB,aA,eY])) (by simp[go_sem,aB,aA,eY]) (by simp[go_sem,aB,aA,eY]) (hwd) (by simp[go_sem,aB,aA,eY]) (by simp[go_sem,aB,aA,eY]) ?_
  repeat' (first|(refine aC fun _ _=>?_)|refine zHg ?_|(refine aN [] ?_;simp[go_sem,eY])|simp(disch:=omega) [go_sem,eY])
 ·rw[xY hy2 hz]at hag
  have hgt:=xW hz
  have hru:=bJj s hs (aP s k) (bJ s k) hwl
  have hrl:=V5 (s:=s) (w:=bJ s k) hwl
  have hrg:=V4 (s:=s) (w:=bJ s k) (i:=aP s k)
  have hlim:a.length<=1000000:=by omega
  have hz': ¬bJ s k=⟨#[]⟩:=fun h=>hz (by rw[h];rfl)
  clear hz
  generalize iZ s (bJ s k) (aP s k)=q at*
  generalize bJ s k=wd at*
  generalize aP s k=k1 at*
  obtain⟨r,k2⟩:=q
  try dsimp only at*
  repeat' (first|(refine aC fun _ _=>?_)|refine zHg ?_|simp(disch:=omega) [go_sem,eY,hz'])
  refine bH [(1000,8)] [(8,1000)] 10000 _ _ (Fits.mk' (by simp[go_sem,aB,aA,eY]) (by simp[go_sem,aB,aA,eY])) (by simp[go_sem,aB,aA,eY]) (by simp[go_sem,aB,aA,eY]) (hwd) (by simp[go_sem,aB,aA,eY]) (by simp[go_sem,aB,aA,eY]) ?_
  repeat' (first|(refine aC fun _ _=>?_)|refine zHg ?_|simp(disch:=omega) [go_sem,eY,hz'])
  refine bH [(1000,8)] [(8,1000)] 10000 _ _ (Fits.mk' (by simp[go_sem,aB,aA,eY]) (by simp[go_sem,aB,aA,eY])) (by simp[go_sem,aB,aA,eY]) (by simp[go_sem,aB,aA,eY]) (hru) (by simp[go_sem,aB,aA,eY]) (by simp[go_sem,aB,aA,eY]) ?_
  repeat' (first|(refine aC fun _ _=>?_)|refine zHg ?_|(refine(hAA.next ((a++ [r],k2)) (Le.sub4 rfl (by simp[go_sem,eY])) (by(try dsimp only);omega) ?_))|simp(disch:=omega) [go_sem,eY,hz']|refine zAo ?_|fail)
  try any_goals omega
  exact⟨by omega,by(try simp);omega,hag⟩
def tG:List AV:= [.list false true [],.list false true [.sc (.string ⟨#[100,114,111,112,32,114,117,108,101,32]⟩),.sc (.string ⟨#[82]⟩)],.list false true [.sc (.string ⟨#[100,114,111,112,32,108,105,116,101,114,97,108,32]⟩),.sc (.string ⟨#[73]⟩),.sc (.string ⟨#[32,111,102,32,114,117,108,101,32]⟩),.sc (.string ⟨#[82]⟩)],.list false true [.sc (.string ⟨#[110,101,103,97,116,101,32,108,105,116,101,114,97,108,32]⟩),.sc (.string ⟨#[73]⟩),.sc (.string ⟨#[32,111,102,32,114,117,108,101,32]⟩),.sc (.string ⟨#[82]⟩)],.list false true [.sc (.string ⟨#[114,101,112,108,97,99,101,32,99,111,110,115,116,97,110,116,32]⟩),.sc (.string ⟨#[73]⟩),.sc (.string ⟨#[32,111,102,32,114,117,108,101,32]⟩),.sc (.string ⟨#[82]⟩)],.list false true [.sc (.string ⟨#[115,119,97,112,32,97,114,103,117,109,101,110,116,115,32]⟩),.sc (.string ⟨#[73]⟩),.sc (.string ⟨#[32,111,102,32,114,117,108,101,32]⟩),.sc (.string ⟨#[82]⟩)]]
class PhG [Glob prog]:Prop where
 tab:Glob.tab prog 0=some (.iptr false [.agg tG] 0 0)
theorem bJk [PhG]:Glob.tab prog 0=some (.iptr false [.agg tG] 0 0):=PhG.tab
attribute [go_sem] bJk
open Go.ChangeShapes Go.WideShapes Go.ChangeAt Go.RowKit
theorem own:ownKnob prog.godebug=none:=by kernel_rfl
theorem bOb:Kids prog (· <prog.types.size):=kids_rows (by kernel_rfl) (by kernel_rfl)
theorem gG: ∀t e,t<prog.types.size->prog.underlying t=some (.slice e)->0<prog.cellsOf e:=slices_full_of prog (by kernel_rfl)
def F5 (r:Rl):Prop:=vC reachBytes r/\r.body.length<=cL
section
variable {H : Type} {enc : TypeId × Value -> H} {W : World}
theorem V7: ∀n:Nat,Came enc prog W n 47 eT (iX reachBytes)/\Came enc prog W n 45 (fun l:List Tm=> .list false false (l.map aI)) (vB reachBytes)
 |0=>⟨Came.zero,Came.zero⟩
 |n+1=>by
  obtain⟨h1,h2⟩:=V7 n
  refine⟨(Came.struct underlying47 rfl (by kernel_rfl) (CameF.cons 1 rfl (by kernel_rfl) (Came.string underlying9) (CameF.cons 1 rfl (by kernel_rfl) h2 CameF.nil))).map (fun x=>Tm.mk x.1 x.2.1) (fun x h=>⟨⟨h.1,h.2.1⟩,rfl⟩),?_⟩
  refine(Came.slice underlying45 (by decide+kernel) (by decide+kernel) h1).map (fun x=>x) (fun x h=>⟨pC.2 h.1,?_⟩)
  congr 1
  exact List.map_congr_left fun t _=>rM t
theorem bJl: ∀n:Nat,Came enc prog W n 52 bP (fun b=>iX reachBytes b.atom)
 |0=>Came.zero
 |n+1=>(Came.struct underlying52 rfl (by kernel_rfl) (CameF.cons 1 rfl (by kernel_rfl) (Came.bool underlying4) (CameF.cons 2 rfl (by kernel_rfl) (V7 n).1 CameF.nil))).map (fun x=>(⟨x.1,x.2.1⟩:Lt)) (fun x h=>⟨h.2.1,rfl⟩)
theorem bJm: ∀n:Nat,Came enc prog W n 48 (fun l:List Lt=> .list false false (l.map bP)) (fun l=>(∀b∈l,iX reachBytes b.atom)/\l.length<=cL)
 |0=>Came.zero
 |n+1=>((Came.slice underlying48 (by decide+kernel) (by decide+kernel) (bJl n)).len).map (fun x=>x) (fun x h=>⟨⟨h.1.1,h.2⟩,rfl⟩)
theorem bJn: ∀n:Nat,Came enc prog W n 50 bX F5
 |0=>Came.zero
 |n+1=>(Came.struct underlying50 rfl (by kernel_rfl) (CameF.cons 2 rfl (by kernel_rfl) (V7 n).1 (CameF.cons 1 rfl (by kernel_rfl) (bJm n) CameF.nil))).map (fun x=>(⟨x.1,x.2.1⟩:Rl)) (fun x h=>⟨⟨⟨h.1,h.2.1.1⟩,h.2.1.2⟩,rfl⟩)
theorem bOc: ∀n:Nat,Came enc prog W n 22 (fun l:List Rl=> .list false false (l.map bX)) (fun l=>(∀r∈l,F5 r)/\l.length<=cL)
 |0=>Came.zero
 |n+1=>((Came.slice underlying22 (by decide+kernel) (by decide+kernel) (bJn n)).len).map (fun x=>x) (fun x h=>⟨⟨h.1.1,h.2⟩,rfl⟩)
end
open Go.Ab Go.ChangeShapes Go.WideShapes Go.ChangeAt Go.RowKit
set_option maxRecDepth 100000
theorem bOd (os:Os) (args:Array Value):laidMetH prog Rows.mutateAllsRow.laid ((World.doorLaid prog 400 os).forCall (fun _ _=>0) ⟨#[],args,[]⟩).memory:=
 laidMetH_of_parts3 (fuel:=8) (laidMet_of_run' 8 (by kernel_rfl) (by kernel_rfl)) (by kernel_rfl) (by kernel_rfl)
end Go.Proofs.YtbgckcdddlmiaaaGreatDoor
