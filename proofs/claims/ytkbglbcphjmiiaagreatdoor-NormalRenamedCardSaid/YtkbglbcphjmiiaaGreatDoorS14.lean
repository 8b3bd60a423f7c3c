import Derived.Test.YtkbglbcphjmiiaaGreatDoorS13
import Derived.Test.YtkbglbcphjmiiaaGreatDoorA13
import Derived.Test.YtkbglbcphjmiiaaGreatDoorS12
import Derived.Test.YtkbglbcphjmiiaaGreatDoorRows
import Derived.SevenTiedAt
import Derived.LaidMore
import Derived.LaidLaws
import Derived.Handed
set_option linter.unusedSimpArgs false
set_option linter.unusedVariables false
open Go.Proofs.Tryz
namespace Go.Proofs.YtkbglbcphjmiiaaGreatDoor
open Go.Ab
set_option maxRecDepth 100000
set_option maxHeartbeats 16000000
theorem cKs (s:ByteArray) (hs:s.size≤1000000) (i:Nat) (w:ByteArray) (hi:i≤s.size):MCall prog 57 [.ptr 1000 0 0,.sc (.string w)] (aB s i) (fun r o'=>r=bN (iL s w i).1∧o'=aB s (iL s w i).2):=by
 have ht:=L4 s hs (s.size+1) i w (by omega) hi
 have htl:=wP (s:=s) (w:=w) hi
 unfold iL
 generalize cO s w i=q at*
 obtain⟨H,j⟩:=q
 dsimp only at*
 generalize hG:gX s [] j=G at*
 have hY:bN ⟨H,G.1⟩=Ab.loose (.agg [.sc (.string H.name),.list false false (H.args.map bO),.list false (decide (G.1.length=0)) (G.1.map bW)]):=rfl
 rw[hY]
 have key:MCall prog 57 [.ptr 1000 0 0,.sc (.string w)] (aB s i) (fun r o'=>r= .agg [.sc (.string H.name),.list false false (H.args.map bO),if G.1.length=0 then .list false true []else .ref 900 0 G.1.length]∧o'=(4,⟨false,false,false,3,[.agg [.sc (.string H.name),.list false false (H.args.map bO),if G.1.length=0 then .list false true []else .ref 900 0 G.1.length]],0⟩)::(1000,aA s G.2)::(if G.1.length=0 then[]else[(900,⟨true,false,false,3,G.1.map bW,0⟩)])):=by
  refine cL func57 call57 rfl (by simp[ntmps57]) ?_;simp only[ntmps57,results57]
  skip
  skip
  repeat' (first|(refine aC fun _ _=>?_)|refine zHg ?_|simp(disch:=omega) [go_sem,aB,aA])
  refine bC [] [] 10000 _ _ (Fits.mk' (by simp[go_sem,aB,aA]) (by simp[go_sem,aB,aA])) (by simp[go_sem,aB,aA]) (by simp[go_sem,aB,aA]) (ht) (by simp[go_sem,aB,aA]) (by simp[go_sem,aB,aA]) ?_
  repeat' (first|(refine aC fun _ _=>?_)|refine zHg ?_|simp(disch:=omega) [go_sem,aB,aA])
  refine bR [0,4,5] [5,900,1000] (fun y:List Lt×Nat=> []) (fun y:List Lt×Nat=>(5,⟨false,false,false,3,[.agg [.sc (.string H.name),.list false false (H.args.map bO),if y.1.length=0 then .list false true []else .ref 900 0 y.1.length]],0⟩)::(1000,aA s y.2)::(if y.1.length=0 then[]else[(900,⟨true,false,false,3,y.1.map bW,0⟩)])) (fun y:List Lt×Nat=>s.size - y.2) (fun y:List Lt×Nat=>y.2≤s.size∧y.1.length≤y.2∧gX s y.1 y.2=G) (([],j)) (Le.sub4 rfl (by simp[go_sem,aB,aA])) ⟨?_⟩ ?_
  ·exact⟨htl,Nat.zero_le _,hG⟩
  intro y ⟨hy2,hy3,hag⟩ AA hAA;simp only[kL,Nat.reduceBEq,Nat.reduceEqDiff,if_true,if_false,List.cons_append,List.nil_append,List.append_nil]
  obtain⟨a,k⟩:=y
  dsimp only at hy2 hy3 hag ⊢
  clear hG ht
  by_cases hlt:k<s.size
  ·have hsg:=zV s k 46 hs hy2
   have hsl:=rM (s:=s) (c:=46) hy2
   have hsge:=rL (s:=s) (c:=46) (i:=k)
   have hlim:a.length≤1000000:=by omega
   cases hb:cJ s 46 k
   ·rw[hb]at hsg
    have hw1:=zW s (aX s 46 k) hs hsl
    have hl1:=mI (s:=s) hsl
    have hg1:=mH (s:=s) (i:=aX s 46 k)
    have hw2:=zW s (aY s (aX s 46 k)) hs hl1
    have hl2:=mI (s:=s) hl1
    have hg2:=mH (s:=s) (i:=aY s (aX s 46 k))
    have hw3:=zW s (aY s (aY s (aX s 46 k))) hs hl2
    have hl3:=mI (s:=s) hl2
    have hg3:=mH (s:=s) (i:=aY s (aY s (aX s 46 k)))
    have hvoid:=fun hz=>cKp (s:=s) (a:=a) (i:=k) hlt hb hz
    have hgo:=fun hz=>zU (s:=s) (a:=a) (i:=k) hlt hb hz
    have hgt:=fun hz=>aAj (s:=s) (i:=aX s 46 k) hz
    unfold eI at hvoid hgo hgt
    by_cases hnot:bL s (aY s (aX s 46 k))=aIq
    ·simp only[hnot,if_true,if_false]at hvoid hgo hgt
     rw[hnot]at hw2
     have ht:=L4 s hs (s.size+1) (aY s (aY s (aY s (aX s 46 k)))) (bL s (aY s (aY s (aX s 46 k)))) (by omega) hl3
     have htl2:=wP (s:=s) (w:=bL s (aY s (aY s (aX s 46 k)))) hl3
     have htg:=uQ (s:=s) (w:=bL s (aY s (aY s (aX s 46 k)))) (i:=aY s (aY s (aY s (aX s 46 k))))
     by_cases hz:(bL s (aY s (aY s (aX s 46 k)))).size=0
     ·rw[hvoid hz]at hag
      subst hag
      have hz':bL s (aY s (aY s (aX s 46 k)))=⟨#[]⟩:=by
       refine ByteArray.ext ?_
       exact Array.eq_empty_of_size_eq_zero hz
      clear hvoid hgo hgt ht htl2 htg hz
      rw[hz']at hw3
      clear hz'
      generalize aY s (aY s (aY s (aX s 46 k)))=k4 at*
      generalize aY s (aY s (aX s 46 k))=k3 at*
      generalize aY s (aX s 46 k)=k2 at*
      generalize bL s (aX s 46 k)=w1 at*
      generalize aX s 46 k=k1 at*
      dsimp only at*
      by_cases h0:a.length=0
      ·obtain rfl:=List.eq_nil_of_length_eq_zero h0
       all_goals repeat' (first|(refine aC fun _ _=>?_)|simp(disch:=omega) [go_sem,hlt,aB,aA]|refine zDn 11 15 bE ?_|fail)
       all_goals refine bC [] [] 10000 _ _ (Fits.mk' (by simp[go_sem,aB,aA]) (by simp[go_sem,aB,aA])) (by simp[go_sem,aB,aA]) (by simp[go_sem,aB,aA]) (hsg) (by simp[go_sem,aB,aA]) (by simp[go_sem,aB,aA]) ?_
       all_goals repeat' (first|(refine aC fun _ _=>?_)|refine zHg ?_|simp(disch:=omega) [go_sem,hlt,aB,aA])
       all_goals refine bC [] [] 10000 _ _ (Fits.mk' (by simp[go_sem,aB,aA]) (by simp[go_sem,aB,aA])) (by simp[go_sem,aB,aA]) (by simp[go_sem,aB,aA]) (hw1) (by simp[go_sem,aB,aA]) (by simp[go_sem,aB,aA]) ?_
       all_goals repeat' (first|(refine aC fun _ _=>?_)|refine zHg ?_|simp(disch:=omega) [go_sem,hlt,aB,aA])
       all_goals refine bC [] [] 10000 _ _ (Fits.mk' (by simp[go_sem,aB,aA]) (by simp[go_sem,aB,aA])) (by simp[go_sem,aB,aA]) (by simp[go_sem,aB,aA]) (hw2) (by simp[go_sem,aB,aA]) (by simp[go_sem,aB,aA]) ?_
       all_goals repeat' (first|(refine aC fun _ _=>?_)|refine zHg ?_|simp(disch:=omega) [go_sem,hlt,aB,aA])
       all_goals refine bC [] [] 10000 _ _ (Fits.mk' (by simp[go_sem,aB,aA]) (by simp[go_sem,aB,aA])) (by simp[go_sem,aB,aA]) (by simp[go_sem,aB,aA]) (hw3) (by simp[go_sem,aB,aA]) (by simp[go_sem,aB,aA]) ?_
       all_goals repeat' (first|(refine aC fun _ _=>?_)|refine zHg ?_|simp(disch:=omega) [go_sem,hlt,aB,aA])
       all_goals refine cS ⟨50,[(4,.ptr 4 0 0)],(4,⟨false,false,false,3,[.agg [.sc (.string H.name),.list false false (H.args.map bO),.list false true []]],0⟩)::(1000,aA s k4):: []⟩ [.agg [.sc (.string H.name),.list false false (H.args.map bO),.list false true []]] (Le.renSub [] [] (by simp[go_sem,aB,aA]) (by simp[go_sem,aB,aA]) (Le.sub4 rfl (by simp[go_sem,aB,aA]))) (by simp[go_sem,aB,aA]) ⟨rfl,rfl⟩
      ·have h0': ¬a= []:=fun h=>h0 (by rw[h];rfl)
       all_goals repeat' (first|(refine aC fun _ _=>?_)|simp(disch:=omega) [go_sem,hlt,h0,h0',aB,aA]|refine zDn 11 15 bE ?_|fail)
       all_goals refine bC [] [] 10000 _ _ (Fits.mk' (by simp[go_sem,aB,aA]) (by simp[go_sem,aB,aA])) (by simp[go_sem,aB,aA]) (by simp[go_sem,aB,aA]) (hsg) (by simp[go_sem,aB,aA]) (by simp[go_sem,aB,aA]) ?_
       all_goals repeat' (first|(refine aC fun _ _=>?_)|refine zHg ?_|simp(disch:=omega) [go_sem,hlt,h0,h0',aB,aA])
       all_goals refine bC [] [] 10000 _ _ (Fits.mk' (by simp[go_sem,aB,aA]) (by simp[go_sem,aB,aA])) (by simp[go_sem,aB,aA]) (by simp[go_sem,aB,aA]) (hw1) (by simp[go_sem,aB,aA]) (by simp[go_sem,aB,aA]) ?_
       all_goals repeat' (first|(refine aC fun _ _=>?_)|refine zHg ?_|simp(disch:=omega) [go_sem,hlt,h0,h0',aB,aA])
       all_goals refine bC [] [] 10000 _ _ (Fits.mk' (by simp[go_sem,aB,aA]) (by simp[go_sem,aB,aA])) (by simp[go_sem,aB,aA]) (by simp[go_sem,aB,aA]) (hw2) (by simp[go_sem,aB,aA]) (by simp[go_sem,aB,aA]) ?_
       all_goals repeat' (first|(refine aC fun _ _=>?_)|refine zHg ?_|simp(disch:=omega) [go_sem,hlt,h0,h0',aB,aA])
       all_goals refine bC [] [] 10000 _ _ (Fits.mk' (by simp[go_sem,aB,aA]) (by simp[go_sem,aB,aA])) (by simp[go_sem,aB,aA]) (by simp[go_sem,aB,aA]) (hw3) (by simp[go_sem,aB,aA]) (by simp[go_sem,aB,aA]) ?_
       all_goals repeat' (first|(refine aC fun _ _=>?_)|refine zHg ?_|simp(disch:=omega) [go_sem,hlt,h0,h0',aB,aA])
       all_goals refine cS ⟨50,[(4,.ptr 4 0 0)],(4,⟨false,false,false,3,[.agg [.sc (.string H.name),.list false false (H.args.map bO),.ref 900 0 a.length]],0⟩)::(1000,aA s k4):: [(900,⟨true,false,false,3,a.map bW,0⟩)]⟩ [.agg [.sc (.string H.name),.list false false (H.args.map bO),.ref 900 0 a.length]] (Le.renSub [] [] (by simp[go_sem,aB,aA]) (by simp[go_sem,aB,aA]) (Le.sub4 rfl (by simp[go_sem,aB,aA]))) (by simp[go_sem,aB,aA]) ⟨rfl,rfl⟩
     ·rw[hgo hz]at hag
      have hgt1:=hgt hz
      have hz': ¬bL s (aY s (aY s (aX s 46 k)))=⟨#[]⟩:=fun h=>hz (by rw[h];rfl)
      clear hvoid hgo hgt hz
      generalize cO s (bL s (aY s (aY s (aX s 46 k)))) (aY s (aY s (aY s (aX s 46 k))))=q at*
      generalize hwd:bL s (aY s (aY s (aX s 46 k)))=wd at*
      clear hwd
      generalize aY s (aY s (aY s (aX s 46 k)))=k4 at*
      generalize aY s (aY s (aX s 46 k))=k3 at*
      generalize aY s (aX s 46 k)=k2 at*
      generalize bL s (aX s 46 k)=w1 at*
      generalize aX s 46 k=k1 at*
      obtain⟨tm,k5⟩:=q
      dsimp only at*
      by_cases h0:a.length=0
      ·obtain rfl:=List.eq_nil_of_length_eq_zero h0
       all_goals repeat' (first|(refine aC fun _ _=>?_)|simp(disch:=omega) [go_sem,hlt,hz',aB,aA]|refine zDn 11 15 bE ?_|fail)
       all_goals refine bC [] [] 10000 _ _ (Fits.mk' (by simp[go_sem,aB,aA]) (by simp[go_sem,aB,aA])) (by simp[go_sem,aB,aA]) (by simp[go_sem,aB,aA]) (hsg) (by simp[go_sem,aB,aA]) (by simp[go_sem,aB,aA]) ?_
       all_goals repeat' (first|(refine aC fun _ _=>?_)|refine zHg ?_|simp(disch:=omega) [go_sem,hlt,hz',aB,aA])
       all_goals refine bC [] [] 10000 _ _ (Fits.mk' (by simp[go_sem,aB,aA]) (by simp[go_sem,aB,aA])) (by simp[go_sem,aB,aA]) (by simp[go_sem,aB,aA]) (hw1) (by simp[go_sem,aB,aA]) (by simp[go_sem,aB,aA]) ?_
       all_goals repeat' (first|(refine aC fun _ _=>?_)|refine zHg ?_|simp(disch:=omega) [go_sem,hlt,hz',aB,aA])
       all_goals refine bC [] [] 10000 _ _ (Fits.mk' (by simp[go_sem,aB,aA]) (by simp[go_sem,aB,aA])) (by simp[go_sem,aB,aA]) (by simp[go_sem,aB,aA]) (hw2) (by simp[go_sem,aB,aA]) (by simp[go_sem,aB,aA]) ?_
       all_goals repeat' (first|(refine aC fun _ _=>?_)|refine zHg ?_|simp(disch:=omega) [go_sem,hlt,hz',aB,aA])
       all_goals refine bC [] [] 10000 _ _ (Fits.mk' (by simp[go_sem,aB,aA]) (by simp[go_sem,aB,aA])) (by simp[go_sem,aB,aA]) (by simp[go_sem,aB,aA]) (hw3) (by simp[go_sem,aB,aA]) (by simp[go_sem,aB,aA]) ?_
       all_goals repeat' (first|(refine aC fun _ _=>?_)|refine zHg ?_|simp(disch:=omega) [go_sem,hlt,hz',aB,aA]|refine zAny bE ?_|refine gH ?_|refine bI 0 rfl (by decide+kernel) (by decide+kernel) rfl rfl rfl ?_|refine bI 2 rfl (by decide+kernel) (by decide+kernel) rfl rfl rfl ?_|refine bI 3 rfl (by decide+kernel) (by decide+kernel) rfl rfl rfl ?_|refine bI 4 rfl (by decide+kernel) (by decide+kernel) rfl rfl rfl ?_|(refine zAll ?_;show eN _ _ _ _ _ _ _)|exact gI|refine zSkip ?_|refine gJ rfl ?_ ?_)
       all_goals refine bC [] [] 10000 _ _ (Fits.mk' (by simp[go_sem,aB,aA]) (by simp[go_sem,aB,aA])) (by simp[go_sem,aB,aA]) (by simp[go_sem,aB,aA]) (ht) (by simp[go_sem,aB,aA]) (by simp[go_sem,aB,aA]) ?_
       all_goals repeat' (first|(refine(hAA.next (([⟨true,tm⟩],k5)) (Le.renSub [(47,900)] [(900,47)] (by simp[go_sem]) (by simp[go_sem]) (Le.sub4 rfl (by simp[go_sem]))) (by(try dsimp only);omega) ?_))|simp(disch:=omega) [go_sem,hlt,hz',aB,aA]|refine gH ?_|refine zDone ?_|refine bI 9 rfl (by decide+kernel) (by decide+kernel) rfl rfl rfl ?_|(refine zAll ?_;show eN _ _ _ _ _ _ _)|exact gI|refine zSkip ?_|refine gJ rfl ?_ ?_)
       all_goals(first|omega|skip)
       all_goals exact⟨by omega,by(try simp);omega,hag⟩
      ·have h0': ¬a= []:=fun h=>h0 (by rw[h];rfl)
       all_goals repeat' (first|(refine aC fun _ _=>?_)|simp(disch:=omega) [go_sem,hlt,h0,h0',hz',aB,aA]|refine zDn 11 15 bE ?_|fail)
       all_goals refine bC [] [] 10000 _ _ (Fits.mk' (by simp[go_sem,aB,aA]) (by simp[go_sem,aB,aA])) (by simp[go_sem,aB,aA]) (by simp[go_sem,aB,aA]) (hsg) (by simp[go_sem,aB,aA]) (by simp[go_sem,aB,aA]) ?_
       all_goals repeat' (first|(refine aC fun _ _=>?_)|refine zHg ?_|simp(disch:=omega) [go_sem,hlt,h0,h0',hz',aB,aA])
       all_goals refine bC [] [] 10000 _ _ (Fits.mk' (by simp[go_sem,aB,aA]) (by simp[go_sem,aB,aA])) (by simp[go_sem,aB,aA]) (by simp[go_sem,aB,aA]) (hw1) (by simp[go_sem,aB,aA]) (by simp[go_sem,aB,aA]) ?_
       all_goals repeat' (first|(refine aC fun _ _=>?_)|refine zHg ?_|simp(disch:=omega) [go_sem,hlt,h0,h0',hz',aB,aA])
       all_goals refine bC [] [] 10000 _ _ (Fits.mk' (by simp[go_sem,aB,aA]) (by simp[go_sem,aB,aA])) (by simp[go_sem,aB,aA]) (by simp[go_sem,aB,aA]) (hw2) (by simp[go_sem,aB,aA]) (by simp[go_sem,aB,aA]) ?_
       all_goals repeat' (first|(refine aC fun _ _=>?_)|refine zHg ?_|simp(disch:=omega) [go_sem,hlt,h0,h0',hz',aB,aA])
       all_goals refine bC [] [] 10000 _ _ (Fits.mk' (by simp[go_sem,aB,aA]) (by simp[go_sem,aB,aA])) (by simp[go_sem,aB,aA]) (by simp[go_sem,aB,aA]) (hw3) (by simp[go_sem,aB,aA]) (by simp[go_sem,aB,aA]) ?_
       all_goals repeat' (first|(refine aC fun _ _=>?_)|refine zHg ?_|simp(disch:=omega) [go_sem,hlt,h0,h0',hz',aB,aA]|refine zAny bE ?_|refine gH ?_|refine bI 0 rfl (by decide+kernel) (by decide+kernel) rfl rfl rfl ?_|refine bI 2 rfl (by decide+kernel) (by decide+kernel) rfl rfl rfl ?_|refine bI 3 rfl (by decide+kernel) (by decide+kernel) rfl rfl rfl ?_|refine bI 4 rfl (by decide+kernel) (by decide+kernel) rfl rfl rfl ?_|(refine zAll ?_;show eN _ _ _ _ _ _ _)|exact gI|refine zSkip ?_|refine gJ rfl ?_ ?_)
       all_goals refine bC [] [] 10000 _ _ (Fits.mk' (by simp[go_sem,aB,aA]) (by simp[go_sem,aB,aA])) (by simp[go_sem,aB,aA]) (by simp[go_sem,aB,aA]) (ht) (by simp[go_sem,aB,aA]) (by simp[go_sem,aB,aA]) ?_
       all_goals repeat' (first|(refine(hAA.next ((a++ [⟨true,tm⟩],k5)) (Le.sub4 rfl (by simp[go_sem])) (by(try dsimp only);omega) ?_))|simp(disch:=omega) [go_sem,hlt,h0,h0',hz',aB,aA]|refine zAo ?_|refine gH ?_|refine zDone ?_|refine bI 9 rfl (by decide+kernel) (by decide+kernel) rfl rfl rfl ?_|(refine zAll ?_;show eN _ _ _ _ _ _ _)|exact gI|refine zSkip ?_|refine gJ rfl ?_ ?_)
       all_goals(first|omega|skip)
       all_goals exact⟨by omega,by(try simp);omega,hag⟩
    ·simp only[hnot,if_false]at hvoid hgo hgt
     have ht:=L4 s hs (s.size+1) (aY s (aY s (aX s 46 k))) (bL s (aY s (aX s 46 k))) (by omega) hl2
     have htl2:=wP (s:=s) (w:=bL s (aY s (aX s 46 k))) hl2
     have htg:=uQ (s:=s) (w:=bL s (aY s (aX s 46 k))) (i:=aY s (aY s (aX s 46 k)))
     by_cases hz:(bL s (aY s (aX s 46 k))).size=0
     ·rw[hvoid hz]at hag
      subst hag
      have hz':bL s (aY s (aX s 46 k))=⟨#[]⟩:=by
       refine ByteArray.ext ?_
       exact Array.eq_empty_of_size_eq_zero hz
      clear hvoid hgo hgt ht htl2 htg hz
      rw[hz']at hw2 hnot
      clear hz'
      generalize aY s (aY s (aX s 46 k))=k3 at*
      generalize aY s (aX s 46 k)=k2 at*
      generalize bL s (aX s 46 k)=w1 at*
      generalize aX s 46 k=k1 at*
      dsimp only at*
      by_cases h0:a.length=0
      ·obtain rfl:=List.eq_nil_of_length_eq_zero h0
       all_goals repeat' (first|(refine aC fun _ _=>?_)|simp(disch:=omega) [go_sem,hlt,aB,aA]|refine zDn 11 15 bE ?_|fail)
       all_goals refine bC [] [] 10000 _ _ (Fits.mk' (by simp[go_sem,aB,aA]) (by simp[go_sem,aB,aA])) (by simp[go_sem,aB,aA]) (by simp[go_sem,aB,aA]) (hsg) (by simp[go_sem,aB,aA]) (by simp[go_sem,aB,aA]) ?_
       all_goals repeat' (first|(refine aC fun _ _=>?_)|refine zHg ?_|simp(disch:=omega) [go_sem,hlt,aB,aA])
       all_goals refine bC [] [] 10000 _ _ (Fits.mk' (by simp[go_sem,aB,aA]) (by simp[go_sem,aB,aA])) (by simp[go_sem,aB,aA]) (by simp[go_sem,aB,aA]) (hw1) (by simp[go_sem,aB,aA]) (by simp[go_sem,aB,aA]) ?_
       all_goals repeat' (first|(refine aC fun _ _=>?_)|refine zHg ?_|simp(disch:=omega) [go_sem,hlt,aB,aA])
       all_goals refine bC [] [] 10000 _ _ (Fits.mk' (by simp[go_sem,aB,aA]) (by simp[go_sem,aB,aA])) (by simp[go_sem,aB,aA]) (by simp[go_sem,aB,aA]) (hw2) (by simp[go_sem,aB,aA]) (by simp[go_sem,aB,aA]) ?_
       all_goals repeat' (first|(refine aC fun _ _=>?_)|refine zHg ?_|simp(disch:=omega) [go_sem,hlt,aB,aA])
       all_goals refine cS ⟨50,[(4,.ptr 4 0 0)],(4,⟨false,false,false,3,[.agg [.sc (.string H.name),.list false false (H.args.map bO),.list false true []]],0⟩)::(1000,aA s k3):: []⟩ [.agg [.sc (.string H.name),.list false false (H.args.map bO),.list false true []]] (Le.renSub [] [] (by simp[go_sem,aB,aA]) (by simp[go_sem,aB,aA]) (Le.sub4 rfl (by simp[go_sem,aB,aA]))) (by simp[go_sem,aB,aA]) ⟨rfl,rfl⟩
      ·have h0': ¬a= []:=fun h=>h0 (by rw[h];rfl)
       all_goals repeat' (first|(refine aC fun _ _=>?_)|simp(disch:=omega) [go_sem,hlt,h0,h0',aB,aA]|refine zDn 11 15 bE ?_|fail)
       all_goals refine bC [] [] 10000 _ _ (Fits.mk' (by simp[go_sem,aB,aA]) (by simp[go_sem,aB,aA])) (by simp[go_sem,aB,aA]) (by simp[go_sem,aB,aA]) (hsg) (by simp[go_sem,aB,aA]) (by simp[go_sem,aB,aA]) ?_
       all_goals repeat' (first|(refine aC fun _ _=>?_)|refine zHg ?_|simp(disch:=omega) [go_sem,hlt,h0,h0',aB,aA])
       all_goals refine bC [] [] 10000 _ _ (Fits.mk' (by simp[go_sem,aB,aA]) (by simp[go_sem,aB,aA])) (by simp[go_sem,aB,aA]) (by simp[go_sem,aB,aA]) (hw1) (by simp[go_sem,aB,aA]) (by simp[go_sem,aB,aA]) ?_
       all_goals repeat' (first|(refine aC fun _ _=>?_)|refine zHg ?_|simp(disch:=omega) [go_sem,hlt,h0,h0',aB,aA])
       all_goals refine bC [] [] 10000 _ _ (Fits.mk' (by simp[go_sem,aB,aA]) (by simp[go_sem,aB,aA])) (by simp[go_sem,aB,aA]) (by simp[go_sem,aB,aA]) (hw2) (by simp[go_sem,aB,aA]) (by simp[go_sem,aB,aA]) ?_
       all_goals repeat' (first|(refine aC fun _ _=>?_)|refine zHg ?_|simp(disch:=omega) [go_sem,hlt,h0,h0',aB,aA])
       all_goals refine cS ⟨50,[(4,.ptr 4 0 0)],(4,⟨false,false,false,3,[.agg [.sc (.string H.name),.list false false (H.args.map bO),.ref 900 0 a.length]],0⟩)::(1000,aA s k3):: [(900,⟨true,false,false,3,a.map bW,0⟩)]⟩ [.agg [.sc (.string H.name),.list false false (H.args.map bO),.ref 900 0 a.length]] (Le.renSub [] [] (by simp[go_sem,aB,aA]) (by simp[go_sem,aB,aA]) (Le.sub4 rfl (by simp[go_sem,aB,aA]))) (by simp[go_sem,aB,aA]) ⟨rfl,rfl⟩
     ·rw[hgo hz]at hag
      have hgt1:=hgt hz
      have hz': ¬bL s (aY s (aX s 46 k))=⟨#[]⟩:=fun h=>hz (by rw[h];rfl)
      clear hvoid hgo hgt hz
      generalize cO s (bL s (aY s (aX s 46 k))) (aY s (aY s (aX s 46 k)))=q at*
      generalize hwd:bL s (aY s (aX s 46 k))=wd at*
      clear hwd
      generalize aY s (aY s (aX s 46 k))=k3 at*
      generalize aY s (aX s 46 k)=k2 at*
      generalize bL s (aX s 46 k)=w1 at*
      generalize aX s 46 k=k1 at*
      obtain⟨tm,k5⟩:=q
      dsimp only at*
      by_cases h0:a.length=0
      ·obtain rfl:=List.eq_nil_of_length_eq_zero h0
       all_goals repeat' (first|(refine aC fun _ _=>?_)|simp(disch:=omega) [go_sem,hlt,hz',hnot,aB,aA]|refine zDn 11 15 bE ?_|fail)
       all_goals refine bC [] [] 10000 _ _ (Fits.mk' (by simp[go_sem,aB,aA]) (by simp[go_sem,aB,aA])) (by simp[go_sem,aB,aA]) (by simp[go_sem,aB,aA]) (hsg) (by simp[go_sem,aB,aA]) (by simp[go_sem,aB,aA]) ?_
       all_goals repeat' (first|(refine aC fun _ _=>?_)|refine zHg ?_|simp(disch:=omega) [go_sem,hlt,hz',hnot,aB,aA])
       all_goals refine bC [] [] 10000 _ _ (Fits.mk' (by simp[go_sem,aB,aA]) (by simp[go_sem,aB,aA])) (by simp[go_sem,aB,aA]) (by simp[go_sem,aB,aA]) (hw1) (by simp[go_sem,aB,aA]) (by simp[go_sem,aB,aA]) ?_
       all_goals repeat' (first|(refine aC fun _ _=>?_)|refine zHg ?_|simp(disch:=omega) [go_sem,hlt,hz',hnot,aB,aA])
       all_goals refine bC [] [] 10000 _ _ (Fits.mk' (by simp[go_sem,aB,aA]) (by simp[go_sem,aB,aA])) (by simp[go_sem,aB,aA]) (by simp[go_sem,aB,aA]) (hw2) (by simp[go_sem,aB,aA]) (by simp[go_sem,aB,aA]) ?_
       all_goals repeat' (first|(refine aC fun _ _=>?_)|refine zHg ?_|simp(disch:=omega) [go_sem,hlt,hz',hnot,aB,aA]|refine zAny bE ?_|refine gH ?_|refine bI 0 rfl (by decide+kernel) (by decide+kernel) rfl rfl rfl ?_|refine bI 2 rfl (by decide+kernel) (by decide+kernel) rfl rfl rfl ?_|refine bI 3 rfl (by decide+kernel) (by decide+kernel) rfl rfl rfl ?_|refine bI 4 rfl (by decide+kernel) (by decide+kernel) rfl rfl rfl ?_|(refine zAll ?_;show eN _ _ _ _ _ _ _)|exact gI|refine zSkip ?_|refine gJ rfl ?_ ?_)
       all_goals refine bC [] [] 10000 _ _ (Fits.mk' (by simp[go_sem,aB,aA]) (by simp[go_sem,aB,aA])) (by simp[go_sem,aB,aA]) (by simp[go_sem,aB,aA]) (ht) (by simp[go_sem,aB,aA]) (by simp[go_sem,aB,aA]) ?_
       all_goals repeat' (first|(refine(hAA.next (([⟨false,tm⟩],k5)) (Le.renSub [(47,900)] [(900,47)] (by simp[go_sem]) (by simp[go_sem]) (Le.sub4 rfl (by simp[go_sem]))) (by(try dsimp only);omega) ?_))|simp(disch:=omega) [go_sem,hlt,hz',hnot,aB,aA]|refine gH ?_|refine zDone ?_|refine bI 9 rfl (by decide+kernel) (by decide+kernel) rfl rfl rfl ?_|(refine zAll ?_;show eN _ _ _ _ _ _ _)|exact gI|refine zSkip ?_|refine gJ rfl ?_ ?_)
       all_goals(first|omega|skip)
       all_goals exact⟨by omega,by(try simp);omega,hag⟩
      ·have h0': ¬a= []:=fun h=>h0 (by rw[h];rfl)
       all_goals repeat' (first|(refine aC fun _ _=>?_)|simp(disch:=omega) [go_sem,hlt,h0,h0',hz',hnot,aB,aA]|refine zDn 11 15 bE ?_|fail)
       all_goals refine bC [] [] 10000 _ _ (Fits.mk' (by simp[go_sem,aB,aA]) (by simp[go_sem,aB,aA])) (by simp[go_sem,aB,aA]) (by simp[go_sem,aB,aA]) (hsg) (by simp[go_sem,aB,aA]) (by simp[go_sem,aB,aA]) ?_
       all_goals repeat' (first|(refine aC fun _ _=>?_)|refine zHg ?_|simp(disch:=omega) [go_sem,hlt,h0,h0',hz',hnot,aB,aA])
       all_goals refine bC [] [] 10000 _ _ (Fits.mk' (by simp[go_sem,aB,aA]) (by simp[go_sem,aB,aA])) (by simp[go_sem,aB,aA]) (by simp[go_sem,aB,aA]) (hw1) (by simp[go_sem,aB,aA]) (by simp[go_sem,aB,aA]) ?_
       all_goals repeat' (first|(refine aC fun _ _=>?_)|refine zHg ?_|simp(disch:=omega) [go_sem,hlt,h0,h0',hz',hnot,aB,aA])
       all_goals refine bC [] [] 10000 _ _ (Fits.mk' (by simp[go_sem,aB,aA]) (by simp[go_sem,aB,aA])) (by simp[go_sem,aB,aA]) (by simp[go_sem,aB,aA]) (hw2) (by simp[go_sem,aB,aA]) (by simp[go_sem,aB,aA]) ?_
       all_goals repeat' (first|(refine aC fun _ _=>?_)|refine zHg ?_|simp(disch:=omega) [go_sem,hlt,h0,h0',hz',hnot,aB,aA]|refine zAny bE ?_|refine gH ?_|refine bI 0 rfl (by decide+kernel) (by decide+kernel) rfl rfl rfl ?_|refine bI 2 rfl (by decide+kernel) (by decide+kernel) rfl rfl rfl ?_|refine bI 3 rfl (by decide+kernel) (by decide+kernel) rfl rfl rfl ?_|refine bI 4 rfl (by decide+kernel) (by decide+kernel) rfl rfl rfl ?_|(refine zAll ?_;show eN _ _ _ _ _ _ _)|exact gI|refine zSkip ?_|refine gJ rfl ?_ ?_)
       all_goals refine bC [] [] 10000 _ _ (Fits.mk' (by simp[go_sem,aB,aA]) (by simp[go_sem,aB,aA])) (by simp[go_sem,aB,aA]) (by simp[go_sem,aB,aA]) (ht) (by simp[go_sem,aB,aA]) (by simp[go_sem,aB,aA]) ?_
       all_goals repeat' (first|(refine(hAA.next ((a++ [⟨false,tm⟩],k5)) (Le.sub4 rfl (by simp[go_sem])) (by(try dsimp only);omega) ?_))|simp(disch:=omega) [go_sem,hlt,h0,h0',hz',hnot,aB,aA]|refine zAo ?_|refine gH ?_|refine zDone ?_|refine bI 9 rfl (by decide+kernel) (by decide+kernel) rfl rfl rfl ?_|(refine zAll ?_;show eN _ _ _ _ _ _ _)|exact gI|refine zSkip ?_|refine gJ rfl ?_ ?_)
       all_goals(first|omega|skip)
       all_goals exact⟨by omega,by(try simp);omega,hag⟩
   ·rw[wQ hlt hb]at hag
    subst hag
    rw[hb]at hsg
    generalize aX s 46 k=k1 at*
    dsimp only at*
    by_cases h0:a.length=0
    ·obtain rfl:=List.eq_nil_of_length_eq_zero h0
     all_goals repeat' (first|(refine aC fun _ _=>?_)|simp(disch:=omega) [go_sem,hlt,aB,aA]|refine zDn 11 15 bE ?_|fail)
     all_goals refine bC [] [] 10000 _ _ (Fits.mk' (by simp[go_sem,aB,aA]) (by simp[go_sem,aB,aA])) (by simp[go_sem,aB,aA]) (by simp[go_sem,aB,aA]) (hsg) (by simp[go_sem,aB,aA]) (by simp[go_sem,aB,aA]) ?_
     all_goals repeat' (first|(refine aC fun _ _=>?_)|refine zHg ?_|simp(disch:=omega) [go_sem,hlt,aB,aA])
     all_goals refine cS ⟨50,[(4,.ptr 4 0 0)],(4,⟨false,false,false,3,[.agg [.sc (.string H.name),.list false false (H.args.map bO),.list false true []]],0⟩)::(1000,aA s k1):: []⟩ [.agg [.sc (.string H.name),.list false false (H.args.map bO),.list false true []]] (Le.renSub [] [] (by simp[go_sem,aB,aA]) (by simp[go_sem,aB,aA]) (Le.sub4 rfl (by simp[go_sem,aB,aA]))) (by simp[go_sem,aB,aA]) ⟨rfl,rfl⟩
    ·have h0': ¬a= []:=fun h=>h0 (by rw[h];rfl)
     all_goals repeat' (first|(refine aC fun _ _=>?_)|simp(disch:=omega) [go_sem,hlt,h0,h0',aB,aA]|refine zDn 11 15 bE ?_|fail)
     all_goals refine bC [] [] 10000 _ _ (Fits.mk' (by simp[go_sem,aB,aA]) (by simp[go_sem,aB,aA])) (by simp[go_sem,aB,aA]) (by simp[go_sem,aB,aA]) (hsg) (by simp[go_sem,aB,aA]) (by simp[go_sem,aB,aA]) ?_
     all_goals repeat' (first|(refine aC fun _ _=>?_)|refine zHg ?_|simp(disch:=omega) [go_sem,hlt,h0,h0',aB,aA])
     all_goals refine cS ⟨50,[(4,.ptr 4 0 0)],(4,⟨false,false,false,3,[.agg [.sc (.string H.name),.list false false (H.args.map bO),.ref 900 0 a.length]],0⟩)::(1000,aA s k1):: [(900,⟨true,false,false,3,a.map bW,0⟩)]⟩ [.agg [.sc (.string H.name),.list false false (H.args.map bO),.ref 900 0 a.length]] (Le.renSub [] [] (by simp[go_sem,aB,aA]) (by simp[go_sem,aB,aA]) (Le.sub4 rfl (by simp[go_sem,aB,aA]))) (by simp[go_sem,aB,aA]) ⟨rfl,rfl⟩
  ·rw[cKo hlt]at hag
   subst hag
   dsimp only at*
   by_cases h0:a.length=0
   ·obtain rfl:=List.eq_nil_of_length_eq_zero h0
    all_goals repeat' (first|(refine aC fun _ _=>?_)|refine zHg ?_|simp(disch:=omega) [go_sem,hlt,aB,aA]|refine zDn 11 15 bE ?_|fail)
    all_goals refine cS ⟨50,[(4,.ptr 4 0 0)],(4,⟨false,false,false,3,[.agg [.sc (.string H.name),.list false false (H.args.map bO),.list false true []]],0⟩)::(1000,aA s k):: []⟩ [.agg [.sc (.string H.name),.list false false (H.args.map bO),.list false true []]] (Le.renSub [] [] (by simp[go_sem,aB,aA]) (by simp[go_sem,aB,aA]) (Le.sub4 rfl (by simp[go_sem,aB,aA]))) (by simp[go_sem,aB,aA]) ⟨rfl,rfl⟩
   ·have h0': ¬a= []:=fun h=>h0 (by rw[h];rfl)
    all_goals repeat' (first|(refine aC fun _ _=>?_)|refine zHg ?_|simp(disch:=omega) [go_sem,hlt,h0,h0',aB,aA]|refine zDn 11 15 bE ?_|fail)
    all_goals refine cS ⟨50,[(4,.ptr 4 0 0)],(4,⟨false,false,false,3,[.agg [.sc (.string H.name),.list false false (H.args.map bO),.ref 900 0 a.length]],0⟩)::(1000,aA s k):: [(900,⟨true,false,false,3,a.map bW,0⟩)]⟩ [.agg [.sc (.string H.name),.list false false (H.args.map bO),.ref 900 0 a.length]] (Le.renSub [] [] (by simp[go_sem,aB,aA]) (by simp[go_sem,aB,aA]) (Le.sub4 rfl (by simp[go_sem,aB,aA]))) (by simp[go_sem,aB,aA]) ⟨rfl,rfl⟩
 by_cases h0:G.1.length=0
 ·have hn:=List.eq_nil_of_length_eq_zero h0
  simp only[hn,List.length_nil,if_true,decide_true,List.map_nil]at key ⊢
  exact key.shared rfl (by simp[go_sem]) (by simp[go_sem]) (by simp[go_sem])
 ·simp only[h0,if_false,decide_false]at key ⊢
  refine key.shared (s':=?_) (y:= .agg [.sc (.string H.name),.list false false (H.args.map bO),.list false false (G.1.map bW)]) (by simp[go_sem,bY];rfl) (by simp[go_sem]) (by simp[go_sem]) (by simp[go_sem])
theorem cKt (s:ByteArray) (hs:s.size≤1000000):ACall prog 26 [.sc (.string s)] (fun r=>r= .own 3 ((mK s [] 0).map bN)):=by
 generalize hG:mK s [] 0=G at*
 refine ACall.own_nil ?_
 refine bD func26 call26 rfl (by simp[ntmps26]) ?_;simp only[ntmps26,results26]
 repeat' (first|(refine aC fun _ _=>?_)|refine zHg ?_|simp(disch:=omega) [go_sem])
 refine bR [3] [8,900] (fun y:List Rl×Nat=> [(4,.ref 900 0 y.1.length)]) (fun y:List Rl×Nat=> [(8,fM s y.2),(900,⟨true,false,false,3,y.1.map bN,0⟩)]) (fun y:List Rl×Nat=>s.size - y.2) (fun y:List Rl×Nat=>y.2≤s.size∧y.1.length≤y.2∧mK s y.1 y.2=G) (([],0)) (by refine Le.trans ?_ (Le.nil (i:=4) (T:=900) (es:=3) rfl);exact(Le.sub4 rfl (by simp[go_sem,fM,List.map_nil,List.length_nil]))) ⟨?_⟩ ?_
 ·exact⟨Nat.zero_le _,Nat.zero_le _,hG⟩
 intro y ⟨hy2,hy3,hag⟩ AA hAA;simp only[kL,Nat.reduceBEq,Nat.reduceEqDiff,if_true,if_false,List.cons_append,List.nil_append,List.append_nil]
 obtain⟨a,k⟩:=y
 dsimp only at hy2 hy3 hag ⊢
 clear hG
 have hwd:=zW s k hs hy2
 have hwl:=mI (s:=s) hy2
 by_cases hz:(bL s k).size=0
 ·rw[aIv hz]at hag
  subst hag
  have hz':bL s k=⟨#[]⟩:=by
   refine ByteArray.ext ?_
   exact Array.eq_empty_of_size_eq_zero hz
  rw[hz']at hwd
  clear hz hz'
  generalize aY s k=k1 at*
  try dsimp only at*
  repeat' (first|(refine aC fun _ _=>?_)|simp(disch:=omega) [go_sem,fM])
  refine bC [(1000,8)] [(8,1000)] 10000 _ _ (Fits.mk' (by simp[go_sem,aB,aA,fM]) (by simp[go_sem,aB,aA,fM])) (by simp[go_sem,aB,aA,fM]) (by simp[go_sem,aB,aA,fM]) (hwd) (by simp[go_sem,aB,aA,fM]) (by simp[go_sem,aB,aA,fM]) ?_
  repeat' (first|(refine aC fun _ _=>?_)|refine zHg ?_|(refine aT [] ?_;simp[go_sem,fM])|simp(disch:=omega) [go_sem,fM])
 ·rw[wR hy2 hz]at hag
  have hgt:=zS hz
  have hru:=cKs s hs (aY s k) (bL s k) hwl
  have hrl:=aAl (s:=s) (w:=bL s k) hwl
  have hrg:=aAk (s:=s) (w:=bL s k) (i:=aY s k)
  have hlim:a.length≤1000000:=by omega
  have hz': ¬bL s k=⟨#[]⟩:=fun h=>hz (by rw[h];rfl)
  clear hz
  generalize iL s (bL s k) (aY s k)=q at*
  generalize bL s k=wd at*
  generalize aY s k=k1 at*
  obtain⟨r,k2⟩:=q
  try dsimp only at*
  repeat' (first|(refine aC fun _ _=>?_)|simp(disch:=omega) [go_sem,fM,hz'])
  refine bC [(1000,8)] [(8,1000)] 10000 _ _ (Fits.mk' (by simp[go_sem,aB,aA,fM]) (by simp[go_sem,aB,aA,fM])) (by simp[go_sem,aB,aA,fM]) (by simp[go_sem,aB,aA,fM]) (hwd) (by simp[go_sem,aB,aA,fM]) (by simp[go_sem,aB,aA,fM]) ?_
  repeat' (first|(refine aC fun _ _=>?_)|refine zHg ?_|simp(disch:=omega) [go_sem,fM,hz'])
  refine bC [(1000,8)] [(8,1000)] 10000 _ _ (Fits.mk' (by simp[go_sem,aB,aA,fM]) (by simp[go_sem,aB,aA,fM])) (by simp[go_sem,aB,aA,fM]) (by simp[go_sem,aB,aA,fM]) (hru) (by simp[go_sem,aB,aA,fM]) (by simp[go_sem,aB,aA,fM]) ?_
  repeat' (first|(refine(hAA.next ((a++ [r],k2)) (Le.sub4 rfl (by simp[go_sem,fM])) (by(try dsimp only);omega) ?_))|simp(disch:=omega) [go_sem,fM,hz']|refine zAo ?_|fail)
  all_goals(first|omega|skip)
  exact⟨by omega,by(try simp);omega,hag⟩
def aQ:ByteArray:=⟨#[112,40,66,41,32,105,102,32,113,40,65,44,32,66,41,32,97,110,100,32,114,46,32,112,40,86,49,41,32,105,102,32,114,32,97,110,100,32,113,40,86,50,44,32,86,49,41,46,32,112,40,88,44,32,89,41,46,32,112,40,89,44,32,88,41,46,32,112,40,88,44,32,88,41,46]⟩
def iE:Rl:=⟨(.mk ⟨#[112]⟩ [(.mk ⟨#[66]⟩ [])]),[⟨false,(.mk ⟨#[113]⟩ [(.mk ⟨#[65]⟩ []),(.mk ⟨#[66]⟩ [])])⟩,⟨false,(.mk ⟨#[114]⟩ [])⟩]⟩
def iM:Rl:=⟨(.mk ⟨#[112]⟩ [(.mk ⟨#[86,49]⟩ [])]),[⟨false,(.mk ⟨#[114]⟩ [])⟩,⟨false,(.mk ⟨#[113]⟩ [(.mk ⟨#[86,50]⟩ []),(.mk ⟨#[86,49]⟩ [])])⟩]⟩
def gY:Rl:=⟨(.mk ⟨#[112]⟩ [(.mk ⟨#[88]⟩ []),(.mk ⟨#[89]⟩ [])]),[]⟩
def jL:Rl:=⟨(.mk ⟨#[112]⟩ [(.mk ⟨#[89]⟩ []),(.mk ⟨#[88]⟩ [])]),[]⟩
def jX:Rl:=⟨(.mk ⟨#[112]⟩ [(.mk ⟨#[88]⟩ []),(.mk ⟨#[88]⟩ [])]),[]⟩
def L5:Rl:=⟨(.mk ⟨#[88]⟩ []),[]⟩
theorem cKu:iD iE=iM:=by kernel_rfl
theorem cKv:dB iE=0:=by kernel_rfl
theorem cKw:wG gY jL=true:=by kernel_rfl
theorem cKx:wH gY jL=0:=by kernel_rfl
theorem cKy:wG gY jX=false:=by kernel_rfl
theorem cKz:wH gY jX=0:=by kernel_rfl
theorem cK0:(K1 [iE,iM,gY,jL,jX]).length=3:=by kernel_rfl
theorem cK1:sP [iE,iM,gY,jL,jX]=0:=by kernel_rfl
theorem aIx:dB L5=13:=by kernel_rfl
theorem aIy:SzR iE:=⟨by decide,by decide,by decide⟩
theorem cK2:SzR iM:=⟨by decide,by decide,by decide⟩
theorem aAm:SzR gY:=⟨by decide,by decide,by decide⟩
theorem aIz:SzR jL:=⟨by decide,by decide,by decide⟩
theorem aI0:SzR jX:=⟨by decide,by decide,by decide⟩
theorem cK3:SzR L5:=⟨by decide,by decide,by decide⟩
theorem xw0:bL aQ 0=⟨#[112]⟩:=by kernel_rfl
theorem xv0:aY aQ 0=1:=by kernel_rfl
theorem cK5:cJ aQ 40 1=true:=by kernel_rfl
theorem cK6:aX aQ 40 1=2:=by kernel_rfl
theorem xw2:bL aQ 2=⟨#[66]⟩:=by kernel_rfl
theorem xv2:aY aQ 2=3:=by kernel_rfl
theorem cK7:cJ aQ 40 3=false:=by kernel_rfl
theorem cK8:aX aQ 40 3=3:=by kernel_rfl
theorem xt2:cO aQ ⟨#[66]⟩ 3=((.mk ⟨#[66]⟩ []),3):=by rw[lO cK7,cK8]
theorem cK9:cJ aQ 44 3=false:=by kernel_rfl
theorem cLa:aX aQ 44 3=3:=by kernel_rfl
theorem cLb:gC aQ ([]:List Tm) 2=([(.mk ⟨#[66]⟩ [])],3):=by rw[sU (by decide) (by rw[xw2,xv2,xt2];exact cK9),xw2,xv2,xt2];dsimp only;rw[cLa];rfl
theorem cLc:aX aQ 41 3=4:=by kernel_rfl
theorem xt1:cO aQ ⟨#[112]⟩ 1=((.mk ⟨#[112]⟩ [(.mk ⟨#[66]⟩ [])]),4):=by rw[sS cK5,cK6,cLb];dsimp only;rw[cLc]
theorem cLe:cJ aQ 46 4=false:=by kernel_rfl
theorem aI5:aX aQ 46 4=5:=by kernel_rfl
theorem xl5:eI aQ 5=(false,⟨#[113]⟩,9):=by kernel_rfl
theorem cLf:cJ aQ 40 9=true:=by kernel_rfl
theorem cLg:aX aQ 40 9=10:=by kernel_rfl
theorem aI7:bL aQ 10=⟨#[65]⟩:=by kernel_rfl
theorem aI8:aY aQ 10=11:=by kernel_rfl
theorem cLh:cJ aQ 40 11=false:=by kernel_rfl
theorem cLi:aX aQ 40 11=11:=by kernel_rfl
theorem xt4:cO aQ ⟨#[65]⟩ 11=((.mk ⟨#[65]⟩ []),11):=by rw[lO cLh,cLi]
theorem cLj:cJ aQ 44 11=true:=by kernel_rfl
theorem cLk:aX aQ 44 11=12:=by kernel_rfl
theorem aJa:bL aQ 12=⟨#[66]⟩:=by kernel_rfl
theorem aJb:aY aQ 12=14:=by kernel_rfl
theorem cLl:cJ aQ 40 14=false:=by kernel_rfl
theorem cLm:aX aQ 40 14=14:=by kernel_rfl
theorem xt5:cO aQ ⟨#[66]⟩ 14=((.mk ⟨#[66]⟩ []),14):=by rw[lO cLl,cLm]
theorem cLn:cJ aQ 44 14=false:=by kernel_rfl
theorem cLo:aX aQ 44 14=14:=by kernel_rfl
theorem cLp:gC aQ ([(.mk ⟨#[65]⟩ [])]:List Tm) 12=([(.mk ⟨#[65]⟩ []),(.mk ⟨#[66]⟩ [])],14):=by rw[sU (by decide) (by rw[aJa,aJb,xt5];exact cLn),aJa,aJb,xt5];dsimp only;rw[cLo];rfl
theorem cLq:gC aQ ([]:List Tm) 10=([(.mk ⟨#[65]⟩ []),(.mk ⟨#[66]⟩ [])],14):=by rw[wO (by decide) (by rw[aI7,aI8,xt4];exact cLj),aI7,aI8,xt4];dsimp only;rw[cLk];exact cLp
theorem cLr:aX aQ 41 14=15:=by kernel_rfl
theorem xt3:cO aQ ⟨#[113]⟩ 9=((.mk ⟨#[113]⟩ [(.mk ⟨#[65]⟩ []),(.mk ⟨#[66]⟩ [])]),15):=by rw[sS cLf,cLg,cLq];dsimp only;rw[cLr]
theorem cLt:cJ aQ 46 15=false:=by kernel_rfl
theorem aJd:aX aQ 46 15=16:=by kernel_rfl
theorem aJe:eI aQ 16=(false,⟨#[114]⟩,21):=by kernel_rfl
theorem cLu:cJ aQ 40 21=false:=by kernel_rfl
theorem cLv:aX aQ 40 21=21:=by kernel_rfl
theorem xt6:cO aQ ⟨#[114]⟩ 21=((.mk ⟨#[114]⟩ []),21):=by rw[lO cLu,cLv]
theorem cLx:cJ aQ 46 21=true:=by kernel_rfl
theorem cLy:aX aQ 46 21=22:=by kernel_rfl
theorem cLz:gX aQ ([⟨false,(.mk ⟨#[113]⟩ [(.mk ⟨#[65]⟩ []),(.mk ⟨#[66]⟩ [])])⟩,⟨false,(.mk ⟨#[114]⟩ [])⟩]:List Lt) 21=([⟨false,(.mk ⟨#[113]⟩ [(.mk ⟨#[65]⟩ []),(.mk ⟨#[66]⟩ [])])⟩,⟨false,(.mk ⟨#[114]⟩ [])⟩],22):=by rw[wQ (by decide) cLx,cLy]
theorem cL0:gX aQ ([⟨false,(.mk ⟨#[113]⟩ [(.mk ⟨#[65]⟩ []),(.mk ⟨#[66]⟩ [])])⟩]:List Lt) 15=([⟨false,(.mk ⟨#[113]⟩ [(.mk ⟨#[65]⟩ []),(.mk ⟨#[66]⟩ [])])⟩,⟨false,(.mk ⟨#[114]⟩ [])⟩],22):=by rw[zU (by decide) cLt (by rw[aJd,aJe];decide),aJd,aJe];dsimp only;rw[xt6];exact cLz
theorem cL1:gX aQ ([]:List Lt) 4=([⟨false,(.mk ⟨#[113]⟩ [(.mk ⟨#[65]⟩ []),(.mk ⟨#[66]⟩ [])])⟩,⟨false,(.mk ⟨#[114]⟩ [])⟩],22):=by rw[zU (by decide) cLe (by rw[aI5,xl5];decide),aI5,xl5];dsimp only;rw[xt3];exact cL0
theorem xu0:iL aQ ⟨#[112]⟩ 1=(iE,22):=by unfold iL;rw[xt1];dsimp only;rw[cL1];rfl
theorem aJf:bL aQ 22=⟨#[112]⟩:=by kernel_rfl
theorem cL3:aY aQ 22=24:=by kernel_rfl
theorem cL4:cJ aQ 40 24=true:=by kernel_rfl
theorem cL5:aX aQ 40 24=25:=by kernel_rfl
theorem aJg:bL aQ 25=⟨#[86,49]⟩:=by kernel_rfl
theorem aJh:aY aQ 25=27:=by kernel_rfl
theorem cL6:cJ aQ 40 27=false:=by kernel_rfl
theorem cL7:aX aQ 40 27=27:=by kernel_rfl
theorem xt8:cO aQ ⟨#[86,49]⟩ 27=((.mk ⟨#[86,49]⟩ []),27):=by rw[lO cL6,cL7]
theorem cL8:cJ aQ 44 27=false:=by kernel_rfl
theorem cL9:aX aQ 44 27=27:=by kernel_rfl
theorem cMa:gC aQ ([]:List Tm) 25=([(.mk ⟨#[86,49]⟩ [])],27):=by rw[sU (by decide) (by rw[aJg,aJh,xt8];exact cL8),aJg,aJh,xt8];dsimp only;rw[cL9];rfl
theorem cMb:aX aQ 41 27=28:=by kernel_rfl
theorem xt7:cO aQ ⟨#[112]⟩ 24=((.mk ⟨#[112]⟩ [(.mk ⟨#[86,49]⟩ [])]),28):=by rw[sS cL4,cL5,cMa];dsimp only;rw[cMb]
theorem cMd:cJ aQ 46 28=false:=by kernel_rfl
theorem aJj:aX aQ 46 28=29:=by kernel_rfl
theorem aJk:eI aQ 29=(false,⟨#[114]⟩,33):=by kernel_rfl
theorem cMe:cJ aQ 40 33=false:=by kernel_rfl
theorem cMf:aX aQ 40 33=34:=by kernel_rfl
theorem xt9:cO aQ ⟨#[114]⟩ 33=((.mk ⟨#[114]⟩ []),34):=by rw[lO cMe,cMf]
theorem cMh:cJ aQ 46 34=false:=by kernel_rfl
theorem aJl:aX aQ 46 34=34:=by kernel_rfl
theorem aJm:eI aQ 34=(false,⟨#[113]⟩,39):=by kernel_rfl
theorem cMi:cJ aQ 40 39=true:=by kernel_rfl
theorem cMj:aX aQ 40 39=40:=by kernel_rfl
theorem aJn:bL aQ 40=⟨#[86,50]⟩:=by kernel_rfl
theorem aJo:aY aQ 40=42:=by kernel_rfl
theorem cMk:cJ aQ 40 42=false:=by kernel_rfl
theorem cMl:aX aQ 40 42=42:=by kernel_rfl
theorem aJp:cO aQ ⟨#[86,50]⟩ 42=((.mk ⟨#[86,50]⟩ []),42):=by rw[lO cMk,cMl]
theorem cMm:cJ aQ 44 42=true:=by kernel_rfl
theorem cMn:aX aQ 44 42=43:=by kernel_rfl
theorem aJq:bL aQ 43=⟨#[86,49]⟩:=by kernel_rfl
theorem aJr:aY aQ 43=46:=by kernel_rfl
theorem cMo:cJ aQ 40 46=false:=by kernel_rfl
theorem cMp:aX aQ 40 46=46:=by kernel_rfl
theorem aJs:cO aQ ⟨#[86,49]⟩ 46=((.mk ⟨#[86,49]⟩ []),46):=by rw[lO cMo,cMp]
theorem cMq:cJ aQ 44 46=false:=by kernel_rfl
theorem cMr:aX aQ 44 46=46:=by kernel_rfl
theorem cMs:gC aQ ([(.mk ⟨#[86,50]⟩ [])]:List Tm) 43=([(.mk ⟨#[86,50]⟩ []),(.mk ⟨#[86,49]⟩ [])],46):=by rw[sU (by decide) (by rw[aJq,aJr,aJs];exact cMq),aJq,aJr,aJs];dsimp only;rw[cMr];rfl
theorem cMt:gC aQ ([]:List Tm) 40=([(.mk ⟨#[86,50]⟩ []),(.mk ⟨#[86,49]⟩ [])],46):=by rw[wO (by decide) (by rw[aJn,aJo,aJp];exact cMm),aJn,aJo,aJp];dsimp only;rw[cMn];exact cMs
theorem cMu:aX aQ 41 46=47:=by kernel_rfl
theorem cMv:cO aQ ⟨#[113]⟩ 39=((.mk ⟨#[113]⟩ [(.mk ⟨#[86,50]⟩ []),(.mk ⟨#[86,49]⟩ [])]),47):=by rw[sS cMi,cMj,cMt];dsimp only;rw[cMu]
theorem cMw:cJ aQ 46 47=true:=by kernel_rfl
theorem cMx:aX aQ 46 47=48:=by kernel_rfl
theorem cMy:gX aQ ([⟨false,(.mk ⟨#[114]⟩ [])⟩,⟨false,(.mk ⟨#[113]⟩ [(.mk ⟨#[86,50]⟩ []),(.mk ⟨#[86,49]⟩ [])])⟩]:List Lt) 47=([⟨false,(.mk ⟨#[114]⟩ [])⟩,⟨false,(.mk ⟨#[113]⟩ [(.mk ⟨#[86,50]⟩ []),(.mk ⟨#[86,49]⟩ [])])⟩],48):=by rw[wQ (by decide) cMw,cMx]
theorem cMz:gX aQ ([⟨false,(.mk ⟨#[114]⟩ [])⟩]:List Lt) 34=([⟨false,(.mk ⟨#[114]⟩ [])⟩,⟨false,(.mk ⟨#[113]⟩ [(.mk ⟨#[86,50]⟩ []),(.mk ⟨#[86,49]⟩ [])])⟩],48):=by rw[zU (by decide) cMh (by rw[aJl,aJm];decide),aJl,aJm];dsimp only;rw[cMv];exact cMy
theorem cM0:gX aQ ([]:List Lt) 28=([⟨false,(.mk ⟨#[114]⟩ [])⟩,⟨false,(.mk ⟨#[113]⟩ [(.mk ⟨#[86,50]⟩ []),(.mk ⟨#[86,49]⟩ [])])⟩],48):=by rw[zU (by decide) cMd (by rw[aJj,aJk];decide),aJj,aJk];dsimp only;rw[xt9];exact cMz
theorem xu1:iL aQ ⟨#[112]⟩ 24=(iM,48):=by unfold iL;rw[xt7];dsimp only;rw[cM0];rfl
theorem aJt:bL aQ 48=⟨#[112]⟩:=by kernel_rfl
theorem cM2:aY aQ 48=50:=by kernel_rfl
theorem cM3:cJ aQ 40 50=true:=by kernel_rfl
theorem cM4:aX aQ 40 50=51:=by kernel_rfl
theorem aJu:bL aQ 51=⟨#[88]⟩:=by kernel_rfl
theorem aJv:aY aQ 51=52:=by kernel_rfl
theorem cM5:cJ aQ 40 52=false:=by kernel_rfl
theorem cM6:aX aQ 40 52=52:=by kernel_rfl
theorem aJw:cO aQ ⟨#[88]⟩ 52=((.mk ⟨#[88]⟩ []),52):=by rw[lO cM5,cM6]
theorem cM7:cJ aQ 44 52=true:=by kernel_rfl
theorem cM8:aX aQ 44 52=53:=by kernel_rfl
theorem aJx:bL aQ 53=⟨#[89]⟩:=by kernel_rfl
theorem aJy:aY aQ 53=55:=by kernel_rfl
theorem cM9:cJ aQ 40 55=false:=by kernel_rfl
theorem cNa:aX aQ 40 55=55:=by kernel_rfl
theorem aJz:cO aQ ⟨#[89]⟩ 55=((.mk ⟨#[89]⟩ []),55):=by rw[lO cM9,cNa]
theorem cNb:cJ aQ 44 55=false:=by kernel_rfl
theorem cNc:aX aQ 44 55=55:=by kernel_rfl
theorem cNd:gC aQ ([(.mk ⟨#[88]⟩ [])]:List Tm) 53=([(.mk ⟨#[88]⟩ []),(.mk ⟨#[89]⟩ [])],55):=by rw[sU (by decide) (by rw[aJx,aJy,aJz];exact cNb),aJx,aJy,aJz];dsimp only;rw[cNc];rfl
theorem cNe:gC aQ ([]:List Tm) 51=([(.mk ⟨#[88]⟩ []),(.mk ⟨#[89]⟩ [])],55):=by rw[wO (by decide) (by rw[aJu,aJv,aJw];exact cM7),aJu,aJv,aJw];dsimp only;rw[cM8];exact cNd
theorem cNf:aX aQ 41 55=56:=by kernel_rfl
theorem cNg:cO aQ ⟨#[112]⟩ 50=((.mk ⟨#[112]⟩ [(.mk ⟨#[88]⟩ []),(.mk ⟨#[89]⟩ [])]),56):=by rw[sS cM3,cM4,cNe];dsimp only;rw[cNf]
theorem cNh:cJ aQ 46 56=true:=by kernel_rfl
theorem cNi:aX aQ 46 56=57:=by kernel_rfl
theorem cNj:gX aQ ([]:List Lt) 56=([],57):=by rw[wQ (by decide) cNh,cNi]
theorem xu2:iL aQ ⟨#[112]⟩ 50=(gY,57):=by unfold iL;rw[cNg];dsimp only;rw[cNj];rfl
theorem aJ0:bL aQ 57=⟨#[112]⟩:=by kernel_rfl
theorem cNl:aY aQ 57=59:=by kernel_rfl
theorem cNm:cJ aQ 40 59=true:=by kernel_rfl
theorem cNn:aX aQ 40 59=60:=by kernel_rfl
theorem aJ1:bL aQ 60=⟨#[89]⟩:=by kernel_rfl
theorem aJ2:aY aQ 60=61:=by kernel_rfl
theorem cNo:cJ aQ 40 61=false:=by kernel_rfl
theorem cNp:aX aQ 40 61=61:=by kernel_rfl
theorem aJ3:cO aQ ⟨#[89]⟩ 61=((.mk ⟨#[89]⟩ []),61):=by rw[lO cNo,cNp]
theorem cNq:cJ aQ 44 61=true:=by kernel_rfl
theorem cNr:aX aQ 44 61=62:=by kernel_rfl
theorem aJ4:bL aQ 62=⟨#[88]⟩:=by kernel_rfl
theorem aJ5:aY aQ 62=64:=by kernel_rfl
theorem cNs:cJ aQ 40 64=false:=by kernel_rfl
theorem cNt:aX aQ 40 64=64:=by kernel_rfl
theorem aJ6:cO aQ ⟨#[88]⟩ 64=((.mk ⟨#[88]⟩ []),64):=by rw[lO cNs,cNt]
theorem cNu:cJ aQ 44 64=false:=by kernel_rfl
theorem cNv:aX aQ 44 64=64:=by kernel_rfl
theorem cNw:gC aQ ([(.mk ⟨#[89]⟩ [])]:List Tm) 62=([(.mk ⟨#[89]⟩ []),(.mk ⟨#[88]⟩ [])],64):=by rw[sU (by decide) (by rw[aJ4,aJ5,aJ6];exact cNu),aJ4,aJ5,aJ6];dsimp only;rw[cNv];rfl
theorem cNx:gC aQ ([]:List Tm) 60=([(.mk ⟨#[89]⟩ []),(.mk ⟨#[88]⟩ [])],64):=by rw[wO (by decide) (by rw[aJ1,aJ2,aJ3];exact cNq),aJ1,aJ2,aJ3];dsimp only;rw[cNr];exact cNw
theorem cNy:aX aQ 41 64=65:=by kernel_rfl
theorem cNz:cO aQ ⟨#[112]⟩ 59=((.mk ⟨#[112]⟩ [(.mk ⟨#[89]⟩ []),(.mk ⟨#[88]⟩ [])]),65):=by rw[sS cNm,cNn,cNx];dsimp only;rw[cNy]
theorem cN0:cJ aQ 46 65=true:=by kernel_rfl
theorem cN1:aX aQ 46 65=66:=by kernel_rfl
theorem cN2:gX aQ ([]:List Lt) 65=([],66):=by rw[wQ (by decide) cN0,cN1]
theorem xu3:iL aQ ⟨#[112]⟩ 59=(jL,66):=by unfold iL;rw[cNz];dsimp only;rw[cN2];rfl
theorem aJ7:bL aQ 66=⟨#[112]⟩:=by kernel_rfl
theorem cN4:aY aQ 66=68:=by kernel_rfl
theorem cN5:cJ aQ 40 68=true:=by kernel_rfl
theorem cN6:aX aQ 40 68=69:=by kernel_rfl
theorem aJ8:bL aQ 69=⟨#[88]⟩:=by kernel_rfl
theorem aJ9:aY aQ 69=70:=by kernel_rfl
theorem cN7:cJ aQ 40 70=false:=by kernel_rfl
theorem cN8:aX aQ 40 70=70:=by kernel_rfl
theorem aKa:cO aQ ⟨#[88]⟩ 70=((.mk ⟨#[88]⟩ []),70):=by rw[lO cN7,cN8]
theorem cN9:cJ aQ 44 70=true:=by kernel_rfl
theorem cOa:aX aQ 44 70=71:=by kernel_rfl
theorem aKb:bL aQ 71=⟨#[88]⟩:=by kernel_rfl
theorem aKc:aY aQ 71=73:=by kernel_rfl
theorem cOb:cJ aQ 40 73=false:=by kernel_rfl
theorem cOc:aX aQ 40 73=73:=by kernel_rfl
theorem aKd:cO aQ ⟨#[88]⟩ 73=((.mk ⟨#[88]⟩ []),73):=by rw[lO cOb,cOc]
theorem cOd:cJ aQ 44 73=false:=by kernel_rfl
theorem cOe:aX aQ 44 73=73:=by kernel_rfl
theorem cOf:gC aQ ([(.mk ⟨#[88]⟩ [])]:List Tm) 71=([(.mk ⟨#[88]⟩ []),(.mk ⟨#[88]⟩ [])],73):=by rw[sU (by decide) (by rw[aKb,aKc,aKd];exact cOd),aKb,aKc,aKd];dsimp only;rw[cOe];rfl
theorem cOg:gC aQ ([]:List Tm) 69=([(.mk ⟨#[88]⟩ []),(.mk ⟨#[88]⟩ [])],73):=by rw[wO (by decide) (by rw[aJ8,aJ9,aKa];exact cN9),aJ8,aJ9,aKa];dsimp only;rw[cOa];exact cOf
theorem cOh:aX aQ 41 73=74:=by kernel_rfl
theorem cOi:cO aQ ⟨#[112]⟩ 68=((.mk ⟨#[112]⟩ [(.mk ⟨#[88]⟩ []),(.mk ⟨#[88]⟩ [])]),74):=by rw[sS cN5,cN6,cOg];dsimp only;rw[cOh]
theorem cOj:cJ aQ 46 74=true:=by kernel_rfl
theorem cOk:aX aQ 46 74=75:=by kernel_rfl
theorem cOl:gX aQ ([]:List Lt) 74=([],75):=by rw[wQ (by decide) cOj,cOk]
theorem xu4:iL aQ ⟨#[112]⟩ 68=(jX,75):=by unfold iL;rw[cOi];dsimp only;rw[cOl];rfl
theorem cOn:bL aQ 75=⟨#[]⟩:=by kernel_rfl
theorem xd5:mK aQ ([iE,iM,gY,jL,jX]:List Rl) 75= [iE,iM,gY,jL,jX]:=by rw[aIv (by rw[cOn];rfl)]
theorem xd4:mK aQ ([iE,iM,gY,jL]:List Rl) 66= [iE,iM,gY,jL,jX]:=by rw[wR (by decide) (by rw[aJ7];decide),aJ7,cN4,xu4];exact xd5
theorem xd3:mK aQ ([iE,iM,gY]:List Rl) 57= [iE,iM,gY,jL,jX]:=by rw[wR (by decide) (by rw[aJ0];decide),aJ0,cNl,xu3];exact xd4
theorem xd2:mK aQ ([iE,iM]:List Rl) 48= [iE,iM,gY,jL,jX]:=by rw[wR (by decide) (by rw[aJt];decide),aJt,cM2,xu2];exact xd3
theorem xd1:mK aQ ([iE]:List Rl) 22= [iE,iM,gY,jL,jX]:=by rw[wR (by decide) (by rw[aJf];decide),aJf,cL3,xu1];exact xd2
theorem xd0:mK aQ ([]:List Rl) 0= [iE,iM,gY,jL,jX]:=by rw[wR (by decide) (by rw[xw0];decide),xw0,xv0,xu0];exact xd1
theorem cOu:ACall prog 11 [] (fun r=>r=bl true):=by
 have h1:=cKt aQ (by decide)
 rw[xd0]at h1
 have h2:=sQ iE aIy
 rw[cKu,cKv]at h2
 have h3:=Z6 gY jL aAm aIz
 rw[cKw,cKx]at h3
 have h4:=Z6 gY jX aAm aI0
 rw[cKy,cKz]at h4
 have h5:=cJl [iE,iM,gY,jL,jX] true false (by decide) (cJ0 (by decide)) (by
  intro r hr
  simp only[List.mem_cons,List.not_mem_nil,or_false]at hr
  rcases hr with rfl|rfl|rfl|rfl|rfl
  ·exact aIy
  ·exact cK2
  ·exact aAm
  ·exact aIz
  ·exact aI0)
 have hl:=cK0
 have he:=cK1
 unfold aAa at h5
 rw[he,if_pos rfl]at h5
 have h6:=sQ L5 cK3
 have hX:iD L5=zR:=by unfold iD;rw[aIx];rfl
 rw[aIx,hX]at h6
 have h6:=h6.args (bs:= [.agg [.sc (.string ⟨#[88]⟩),.list false true [],.list false true []]]) rfl (fun F i a b v ha hb hv=>by
  cases i with
  |succ i=>simp at ha
  |zero=>
   simp only[List.getElem?_cons_zero,Option.some.injEq]at ha hb
   subst ha hb
   exact hv.loose)
 have h7:=aHu iM iM (by decide)
 rw[decide_eq_true rfl]at h7
 simp only[List.map_cons,List.map_nil]at h1 h5
 generalize K1 [iE,iM,gY,jL,jX]=R at*
 clear he hX
 unfold aQ at h1
 generalize iE=x0 at*
 generalize iM=x1 at*
 generalize gY=x2 at*
 generalize jL=x3 at*
 generalize jX=x4 at*
 refine bD func11 call11 rfl (by simp[ntmps11]) ?_;simp only[ntmps11,results11]
 skip
 repeat' (first|(refine aC fun _ _=>?_)|refine zHg ?_|(refine aT [] ?_;simp[go_sem,hl])|refine aP rfl (h1) (by simp) ?_|refine aP rfl (h2) (by simp) ?_|refine cP rfl (h3) rfl (by simp) ?_|refine cP rfl (h4) rfl (by simp) ?_|refine aP rfl (h5) (by simp) ?_|refine aP rfl (h6) (by simp) ?_|refine cP rfl (h7) rfl (by simp) ?_|simp(disch:=omega) [go_sem,hl]|refine zDn 38 38 bE ?_|refine zDr 12 bE ?_|fail)
open Go.RowKit
theorem cO0 (a:Rl) (i:Int) (ha:zO a) (hi:IntKind.u8.min≤i∧i≤IntKind.u8.max):ACall prog 6 [bN a,nt .u8 i] (fun r=>r=bl true):=by
 have h1:(0:Int)≤i:=hi.1
 have h2:i≤255:=hi.2
 obtain⟨t,rfl⟩: ∃t:Nat,i=t:=⟨i.toNat,by omega⟩
 exact cKk cOu a t ha (by omega)
open Go.ChangeShapes Go.WideShapes Go.ChangeAt
theorem cO1 (os:Os) (args:Array Value):laidMetH prog Rows.normalComparesRow.laid ((World.doorLaid prog 400 os).forCall (fun _ _=>0) ⟨#[],args,[]⟩).memory:=
 laidMetH_of_parts3 (fuel:=8) (laidMet_of_run' 8 (by kernel_rfl) (by kernel_rfl)) (by kernel_rfl) (by kernel_rfl)
end Go.Proofs.YtkbglbcphjmiiaaGreatDoor
