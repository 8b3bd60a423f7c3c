import Derived.Test.YtkbglbcphjmiiaaGreatDoorS13
import Derived.Test.YtkbglbcphjmiiaaGreatDoorA13
import Derived.Test.YtkbglbcphjmiiaaGreatDoorS12
set_option linter.unusedSimpArgs false
set_option linter.unusedVariables false
namespace Go.Proofs.YtkbglbcphjmiiaaGreatDoor
open Go.Ab
set_option maxRecDepth 100000
set_option maxHeartbeats 16000000
theorem rdRule_ok (s:ByteArray) (hs:s.size≤1000000) (i:Nat) (w:ByteArray) (hi:i≤s.size):MCall Tryz.prog 57 [.ptr 1000 0 0,.sc (.string w)] (rdO s i) (fun r o'=>r=eRl (ruF s w i).1∧o'=rdO s (ruF s w i).2):=by
 have ht:=rdTerm_ok s hs (s.size+1) i w (by omega) hi
 have htl:=tmF_le (s:=s) (w:=w) hi
 unfold ruF
 generalize tmF s w i=q at*
 obtain⟨H,j⟩:=q
 dsimp only at*
 generalize hG:rlF s [] j=G at*
 have hY:eRl ⟨H,G.1⟩=Ab.loose (.agg [.sc (.string H.name),.list false false (H.args.map eTm),.list false (decide (G.1.length=0)) (G.1.map eLt)]):=rfl
 rw[hY]
 have key:MCall Tryz.prog 57 [.ptr 1000 0 0,.sc (.string w)] (rdO s i) (fun r o'=>r= .agg [.sc (.string H.name),.list false false (H.args.map eTm),if G.1.length=0 then .list false true []else .ref 900 0 G.1.length]∧o'=(4,⟨false,false,false,3,[.agg [.sc (.string H.name),.list false false (H.args.map eTm),if G.1.length=0 then .list false true []else .ref 900 0 G.1.length]],0⟩)::(1000,rdA s G.2)::(if G.1.length=0 then[]else[(900,⟨true,false,false,3,G.1.map eLt,0⟩)])):=by
  refine mcall_of_awpL Tryz.func57 Tryz.call57 rfl (by simp[Tryz.ntmps57]) ?_;simp only[Tryz.ntmps57,Tryz.results57]
  skip
  skip
  repeat' (first|(refine awK fun _ _=>?_)|refine zHg ?_|(fail_if_success with_reducible refine Owe.mk ?_);(simp(disch:=omega) [go_sem,rdO,rdA]))
  refine stepK_fis [] [] 10000 _ _ (Fits.mk' (by simp[go_sem,rdO,rdA]) (by simp[go_sem,rdO,rdA])) (by simp[go_sem,rdO,rdA]) (by simp[go_sem,rdO,rdA]) (ht) (by simp[go_sem,rdO,rdA]) (by simp[go_sem,rdO,rdA]) ?_
  repeat' (first|(refine awK fun _ _=>?_)|refine zHg ?_|(fail_if_success with_reducible refine Owe.mk ?_);(simp(disch:=omega) [go_sem,rdO,rdA]))
  refine awp_for [0,4,5] [5,900,1000] (fun y:List Lt×Nat=> []) (fun y:List Lt×Nat=>(5,⟨false,false,false,3,[.agg [.sc (.string H.name),.list false false (H.args.map eTm),if y.1.length=0 then .list false true []else .ref 900 0 y.1.length]],0⟩)::(1000,rdA s y.2)::(if y.1.length=0 then[]else[(900,⟨true,false,false,3,y.1.map eLt,0⟩)])) (fun y:List Lt×Nat=>s.size - y.2) (fun y:List Lt×Nat=>y.2≤s.size∧y.1.length≤y.2∧rlF s y.1 y.2=G) (([],j)) (Le.sub4 rfl (by simp[go_sem,rdO,rdA])) ⟨?_⟩ ?_
  ·exact⟨htl,Nat.zero_le _,hG⟩
  intro y ⟨hy2,hy3,hag⟩ AA hAA;simp only[kL,Nat.reduceBEq,Nat.reduceEqDiff,if_true,if_false,List.cons_append,List.nil_append,List.append_nil]
  obtain⟨a,k⟩:=y
  dsimp only at hy2 hy3 hag ⊢
  clear hG ht
  by_cases hlt:k<s.size
  ·have hsg:=rdSign_ok s k 46 hs hy2
   have hsl:=sgT_le (s:=s) (c:=46) hy2
   have hsge:=sgT_ge (s:=s) (c:=46) (i:=k)
   have hlim:a.length≤1000000:=by omega
   cases hb:sgB s 46 k
   ·rw[hb]at hsg
    have hw1:=rdWord_ok s (sgT s 46 k) hs hsl
    have hl1:=wdT_le (s:=s) hsl
    have hg1:=wdT_ge (s:=s) (i:=sgT s 46 k)
    have hw2:=rdWord_ok s (wdT s (sgT s 46 k)) hs hl1
    have hl2:=wdT_le (s:=s) hl1
    have hg2:=wdT_ge (s:=s) (i:=wdT s (sgT s 46 k))
    have hw3:=rdWord_ok s (wdT s (wdT s (sgT s 46 k))) hs hl2
    have hl3:=wdT_le (s:=s) hl2
    have hg3:=wdT_ge (s:=s) (i:=wdT s (wdT s (sgT s 46 k)))
    have hvoid:=fun hz=>rlF_void (s:=s) (a:=a) (i:=k) hlt hb hz
    have hgo:=fun hz=>rlF_go (s:=s) (a:=a) (i:=k) hlt hb hz
    have hgt:=fun hz=>ltA_gt (s:=s) (i:=sgT s 46 k) hz
    unfold ltA at hvoid hgo hgt
    by_cases hnot:wdF s (wdT s (sgT s 46 k))=notS
    ·simp only[hnot,if_true,if_false]at hvoid hgo hgt
     rw[hnot]at hw2
     have ht:=rdTerm_ok s hs (s.size+1) (wdT s (wdT s (wdT s (sgT s 46 k)))) (wdF s (wdT s (wdT s (sgT s 46 k)))) (by omega) hl3
     have htl2:=tmF_le (s:=s) (w:=wdF s (wdT s (wdT s (sgT s 46 k)))) hl3
     have htg:=tmF_ge (s:=s) (w:=wdF s (wdT s (wdT s (sgT s 46 k)))) (i:=wdT s (wdT s (wdT s (sgT s 46 k))))
     by_cases hz:(wdF s (wdT s (wdT s (sgT s 46 k)))).size=0
     ·rw[hvoid hz]at hag
      subst hag
      have hz':wdF s (wdT s (wdT s (sgT s 46 k)))=⟨#[]⟩:=by
       refine ByteArray.ext ?_
       exact Array.eq_empty_of_size_eq_zero hz
      clear hvoid hgo hgt ht htl2 htg hz
      rw[hz']at hw3
      clear hz'
      generalize wdT s (wdT s (wdT s (sgT s 46 k)))=k4 at*
      generalize wdT s (wdT s (sgT s 46 k))=k3 at*
      generalize wdT s (sgT s 46 k)=k2 at*
      generalize wdF s (sgT s 46 k)=w1 at*
      generalize sgT s 46 k=k1 at*
      dsimp only at*
      by_cases h0:a.length=0
      ·obtain rfl:=List.eq_nil_of_length_eq_zero h0
       all_goals repeat' (first|(refine awK fun _ _=>?_)|(fail_if_success with_reducible refine Owe.mk ?_);(simp(disch:=omega) [go_sem,hlt,rdO,rdA])|refine zDn 11 15 mix ?_|fail)
       all_goals refine stepK_fis [] [] 10000 _ _ (Fits.mk' (by simp[go_sem,rdO,rdA]) (by simp[go_sem,rdO,rdA])) (by simp[go_sem,rdO,rdA]) (by simp[go_sem,rdO,rdA]) (hsg) (by simp[go_sem,rdO,rdA]) (by simp[go_sem,rdO,rdA]) ?_
       all_goals repeat' (first|(refine awK fun _ _=>?_)|refine zHg ?_|(fail_if_success with_reducible refine Owe.mk ?_);(simp(disch:=omega) [go_sem,hlt,rdO,rdA]))
       all_goals refine stepK_fis [] [] 10000 _ _ (Fits.mk' (by simp[go_sem,rdO,rdA]) (by simp[go_sem,rdO,rdA])) (by simp[go_sem,rdO,rdA]) (by simp[go_sem,rdO,rdA]) (hw1) (by simp[go_sem,rdO,rdA]) (by simp[go_sem,rdO,rdA]) ?_
       all_goals repeat' (first|(refine awK fun _ _=>?_)|refine zHg ?_|(fail_if_success with_reducible refine Owe.mk ?_);(simp(disch:=omega) [go_sem,hlt,rdO,rdA]))
       all_goals refine stepK_fis [] [] 10000 _ _ (Fits.mk' (by simp[go_sem,rdO,rdA]) (by simp[go_sem,rdO,rdA])) (by simp[go_sem,rdO,rdA]) (by simp[go_sem,rdO,rdA]) (hw2) (by simp[go_sem,rdO,rdA]) (by simp[go_sem,rdO,rdA]) ?_
       all_goals repeat' (first|(refine awK fun _ _=>?_)|refine zHg ?_|(fail_if_success with_reducible refine Owe.mk ?_);(simp(disch:=omega) [go_sem,hlt,rdO,rdA]))
       all_goals refine stepK_fis [] [] 10000 _ _ (Fits.mk' (by simp[go_sem,rdO,rdA]) (by simp[go_sem,rdO,rdA])) (by simp[go_sem,rdO,rdA]) (by simp[go_sem,rdO,rdA]) (hw3) (by simp[go_sem,rdO,rdA]) (by simp[go_sem,rdO,rdA]) ?_
       all_goals repeat' (first|(refine awK fun _ _=>?_)|refine zHg ?_|(fail_if_success with_reducible refine Owe.mk ?_);(simp(disch:=omega) [go_sem,hlt,rdO,rdA]))
       all_goals refine endL_ret ⟨50,[(4,.ptr 4 0 0)],(4,⟨false,false,false,3,[.agg [.sc (.string H.name),.list false false (H.args.map eTm),.list false true []]],0⟩)::(1000,rdA s k4):: []⟩ [.agg [.sc (.string H.name),.list false false (H.args.map eTm),.list false true []]] (Le.renSub [] [] (by simp[go_sem,rdO,rdA]) (by simp[go_sem,rdO,rdA]) (Le.sub4 rfl (by simp[go_sem,rdO,rdA]))) (by simp[go_sem,rdO,rdA]) ⟨rfl,rfl⟩
      ·have h0': ¬a= []:=fun h=>h0 (by rw[h];rfl)
       all_goals repeat' (first|(refine awK fun _ _=>?_)|(fail_if_success with_reducible refine Owe.mk ?_);(simp(disch:=omega) [go_sem,hlt,h0,h0',rdO,rdA])|refine zDn 11 15 mix ?_|fail)
       all_goals refine stepK_fis [] [] 10000 _ _ (Fits.mk' (by simp[go_sem,rdO,rdA]) (by simp[go_sem,rdO,rdA])) (by simp[go_sem,rdO,rdA]) (by simp[go_sem,rdO,rdA]) (hsg) (by simp[go_sem,rdO,rdA]) (by simp[go_sem,rdO,rdA]) ?_
       all_goals repeat' (first|(refine awK fun _ _=>?_)|refine zHg ?_|(fail_if_success with_reducible refine Owe.mk ?_);(simp(disch:=omega) [go_sem,hlt,h0,h0',rdO,rdA]))
       all_goals refine stepK_fis [] [] 10000 _ _ (Fits.mk' (by simp[go_sem,rdO,rdA]) (by simp[go_sem,rdO,rdA])) (by simp[go_sem,rdO,rdA]) (by simp[go_sem,rdO,rdA]) (hw1) (by simp[go_sem,rdO,rdA]) (by simp[go_sem,rdO,rdA]) ?_
       all_goals repeat' (first|(refine awK fun _ _=>?_)|refine zHg ?_|(fail_if_success with_reducible refine Owe.mk ?_);(simp(disch:=omega) [go_sem,hlt,h0,h0',rdO,rdA]))
       all_goals refine stepK_fis [] [] 10000 _ _ (Fits.mk' (by simp[go_sem,rdO,rdA]) (by simp[go_sem,rdO,rdA])) (by simp[go_sem,rdO,rdA]) (by simp[go_sem,rdO,rdA]) (hw2) (by simp[go_sem,rdO,rdA]) (by simp[go_sem,rdO,rdA]) ?_
       all_goals repeat' (first|(refine awK fun _ _=>?_)|refine zHg ?_|(fail_if_success with_reducible refine Owe.mk ?_);(simp(disch:=omega) [go_sem,hlt,h0,h0',rdO,rdA]))
       all_goals refine stepK_fis [] [] 10000 _ _ (Fits.mk' (by simp[go_sem,rdO,rdA]) (by simp[go_sem,rdO,rdA])) (by simp[go_sem,rdO,rdA]) (by simp[go_sem,rdO,rdA]) (hw3) (by simp[go_sem,rdO,rdA]) (by simp[go_sem,rdO,rdA]) ?_
       all_goals repeat' (first|(refine awK fun _ _=>?_)|refine zHg ?_|(fail_if_success with_reducible refine Owe.mk ?_);(simp(disch:=omega) [go_sem,hlt,h0,h0',rdO,rdA]))
       all_goals refine endL_ret ⟨50,[(4,.ptr 4 0 0)],(4,⟨false,false,false,3,[.agg [.sc (.string H.name),.list false false (H.args.map eTm),.ref 900 0 a.length]],0⟩)::(1000,rdA s k4):: [(900,⟨true,false,false,3,a.map eLt,0⟩)]⟩ [.agg [.sc (.string H.name),.list false false (H.args.map eTm),.ref 900 0 a.length]] (Le.renSub [] [] (by simp[go_sem,rdO,rdA]) (by simp[go_sem,rdO,rdA]) (Le.sub4 rfl (by simp[go_sem,rdO,rdA]))) (by simp[go_sem,rdO,rdA]) ⟨rfl,rfl⟩
     ·rw[hgo hz]at hag
      have hgt1:=hgt hz
      have hz': ¬wdF s (wdT s (wdT s (sgT s 46 k)))=⟨#[]⟩:=fun h=>hz (by rw[h];rfl)
      clear hvoid hgo hgt hz
      generalize tmF s (wdF s (wdT s (wdT s (sgT s 46 k)))) (wdT s (wdT s (wdT s (sgT s 46 k))))=q at*
      generalize hwd:wdF s (wdT s (wdT s (sgT s 46 k)))=wd at*
      clear hwd
      generalize wdT s (wdT s (wdT s (sgT s 46 k)))=k4 at*
      generalize wdT s (wdT s (sgT s 46 k))=k3 at*
      generalize wdT s (sgT s 46 k)=k2 at*
      generalize wdF s (sgT s 46 k)=w1 at*
      generalize sgT s 46 k=k1 at*
      obtain⟨tm,k5⟩:=q
      dsimp only at*
      by_cases h0:a.length=0
      ·obtain rfl:=List.eq_nil_of_length_eq_zero h0
       all_goals repeat' (first|(refine awK fun _ _=>?_)|(fail_if_success with_reducible refine Owe.mk ?_);(simp(disch:=omega) [go_sem,hlt,hz',rdO,rdA])|refine zDn 11 15 mix ?_|fail)
       all_goals refine stepK_fis [] [] 10000 _ _ (Fits.mk' (by simp[go_sem,rdO,rdA]) (by simp[go_sem,rdO,rdA])) (by simp[go_sem,rdO,rdA]) (by simp[go_sem,rdO,rdA]) (hsg) (by simp[go_sem,rdO,rdA]) (by simp[go_sem,rdO,rdA]) ?_
       all_goals repeat' (first|(refine awK fun _ _=>?_)|refine zHg ?_|(fail_if_success with_reducible refine Owe.mk ?_);(simp(disch:=omega) [go_sem,hlt,hz',rdO,rdA]))
       all_goals refine stepK_fis [] [] 10000 _ _ (Fits.mk' (by simp[go_sem,rdO,rdA]) (by simp[go_sem,rdO,rdA])) (by simp[go_sem,rdO,rdA]) (by simp[go_sem,rdO,rdA]) (hw1) (by simp[go_sem,rdO,rdA]) (by simp[go_sem,rdO,rdA]) ?_
       all_goals repeat' (first|(refine awK fun _ _=>?_)|refine zHg ?_|(fail_if_success with_reducible refine Owe.mk ?_);(simp(disch:=omega) [go_sem,hlt,hz',rdO,rdA]))
       all_goals refine stepK_fis [] [] 10000 _ _ (Fits.mk' (by simp[go_sem,rdO,rdA]) (by simp[go_sem,rdO,rdA])) (by simp[go_sem,rdO,rdA]) (by simp[go_sem,rdO,rdA]) (hw2) (by simp[go_sem,rdO,rdA]) (by simp[go_sem,rdO,rdA]) ?_
       all_goals repeat' (first|(refine awK fun _ _=>?_)|refine zHg ?_|(fail_if_success with_reducible refine Owe.mk ?_);(simp(disch:=omega) [go_sem,hlt,hz',rdO,rdA]))
       all_goals refine stepK_fis [] [] 10000 _ _ (Fits.mk' (by simp[go_sem,rdO,rdA]) (by simp[go_sem,rdO,rdA])) (by simp[go_sem,rdO,rdA]) (by simp[go_sem,rdO,rdA]) (hw3) (by simp[go_sem,rdO,rdA]) (by simp[go_sem,rdO,rdA]) ?_
       all_goals repeat' (first|(refine awK fun _ _=>?_)|refine zHg ?_|(fail_if_success with_reducible refine Owe.mk ?_);(simp(disch:=omega) [go_sem,hlt,hz',rdO,rdA])|refine zAny mix ?_|refine anyN_go ?_|refine zQ 0 ?_|refine zQ 2 ?_|refine zQ 3 ?_|refine zQ 4 ?_|refine zAll ?_;show allI _ _ _ _ _ _ _|exact allI_zero|refine zSkip ?_|refine allI_do rfl ?_ ?_)
       all_goals refine stepK_fis [] [] 10000 _ _ (Fits.mk' (by simp[go_sem,rdO,rdA]) (by simp[go_sem,rdO,rdA])) (by simp[go_sem,rdO,rdA]) (by simp[go_sem,rdO,rdA]) (ht) (by simp[go_sem,rdO,rdA]) (by simp[go_sem,rdO,rdA]) ?_
       all_goals repeat' (first|refine(hAA.next (([⟨true,tm⟩],k5)) (Le.renSub [(47,900)] [(900,47)] (by simp[go_sem]) (by simp[go_sem]) (Le.sub4 rfl (by simp[go_sem]))) (by(try dsimp only);omega) ?_)|(fail_if_success with_reducible refine Owe.mk ?_);(simp(disch:=omega) [go_sem,hlt,hz',rdO,rdA])|refine anyN_go ?_|refine zDone ?_|refine zQ 9 ?_|refine zAll ?_;show allI _ _ _ _ _ _ _|exact allI_zero|refine zSkip ?_|refine allI_do rfl ?_ ?_)
       all_goals(first|omega|skip)
       all_goals exact⟨by omega,by simp;omega,hag⟩
      ·have h0': ¬a= []:=fun h=>h0 (by rw[h];rfl)
       all_goals repeat' (first|(refine awK fun _ _=>?_)|(fail_if_success with_reducible refine Owe.mk ?_);(simp(disch:=omega) [go_sem,hlt,h0,h0',hz',rdO,rdA])|refine zDn 11 15 mix ?_|fail)
       all_goals refine stepK_fis [] [] 10000 _ _ (Fits.mk' (by simp[go_sem,rdO,rdA]) (by simp[go_sem,rdO,rdA])) (by simp[go_sem,rdO,rdA]) (by simp[go_sem,rdO,rdA]) (hsg) (by simp[go_sem,rdO,rdA]) (by simp[go_sem,rdO,rdA]) ?_
       all_goals repeat' (first|(refine awK fun _ _=>?_)|refine zHg ?_|(fail_if_success with_reducible refine Owe.mk ?_);(simp(disch:=omega) [go_sem,hlt,h0,h0',hz',rdO,rdA]))
       all_goals refine stepK_fis [] [] 10000 _ _ (Fits.mk' (by simp[go_sem,rdO,rdA]) (by simp[go_sem,rdO,rdA])) (by simp[go_sem,rdO,rdA]) (by simp[go_sem,rdO,rdA]) (hw1) (by simp[go_sem,rdO,rdA]) (by simp[go_sem,rdO,rdA]) ?_
       all_goals repeat' (first|(refine awK fun _ _=>?_)|refine zHg ?_|(fail_if_success with_reducible refine Owe.mk ?_);(simp(disch:=omega) [go_sem,hlt,h0,h0',hz',rdO,rdA]))
       all_goals refine stepK_fis [] [] 10000 _ _ (Fits.mk' (by simp[go_sem,rdO,rdA]) (by simp[go_sem,rdO,rdA])) (by simp[go_sem,rdO,rdA]) (by simp[go_sem,rdO,rdA]) (hw2) (by simp[go_sem,rdO,rdA]) (by simp[go_sem,rdO,rdA]) ?_
       all_goals repeat' (first|(refine awK fun _ _=>?_)|refine zHg ?_|(fail_if_success with_reducible refine Owe.mk ?_);(simp(disch:=omega) [go_sem,hlt,h0,h0',hz',rdO,rdA]))
       all_goals refine stepK_fis [] [] 10000 _ _ (Fits.mk' (by simp[go_sem,rdO,rdA]) (by simp[go_sem,rdO,rdA])) (by simp[go_sem,rdO,rdA]) (by simp[go_sem,rdO,rdA]) (hw3) (by simp[go_sem,rdO,rdA]) (by simp[go_sem,rdO,rdA]) ?_
       all_goals repeat' (first|(refine awK fun _ _=>?_)|refine zHg ?_|(fail_if_success with_reducible refine Owe.mk ?_);(simp(disch:=omega) [go_sem,hlt,h0,h0',hz',rdO,rdA])|refine zAny mix ?_|refine anyN_go ?_|refine zQ 0 ?_|refine zQ 2 ?_|refine zQ 3 ?_|refine zQ 4 ?_|refine zAll ?_;show allI _ _ _ _ _ _ _|exact allI_zero|refine zSkip ?_|refine allI_do rfl ?_ ?_)
       all_goals refine stepK_fis [] [] 10000 _ _ (Fits.mk' (by simp[go_sem,rdO,rdA]) (by simp[go_sem,rdO,rdA])) (by simp[go_sem,rdO,rdA]) (by simp[go_sem,rdO,rdA]) (ht) (by simp[go_sem,rdO,rdA]) (by simp[go_sem,rdO,rdA]) ?_
       all_goals repeat' (first|refine(hAA.next ((a++ [⟨true,tm⟩],k5)) (Le.sub4 rfl (by simp[go_sem])) (by(try dsimp only);omega) ?_)|(fail_if_success with_reducible refine Owe.mk ?_);(simp(disch:=omega) [go_sem,hlt,h0,h0',hz',rdO,rdA])|refine zAo ?_|refine anyN_go ?_|refine zDone ?_|refine zQ 9 ?_|refine zAll ?_;show allI _ _ _ _ _ _ _|exact allI_zero|refine zSkip ?_|refine allI_do rfl ?_ ?_)
       all_goals(first|omega|skip)
       all_goals exact⟨by omega,by simp;omega,hag⟩
    ·simp only[hnot,if_false]at hvoid hgo hgt
     have ht:=rdTerm_ok s hs (s.size+1) (wdT s (wdT s (sgT s 46 k))) (wdF s (wdT s (sgT s 46 k))) (by omega) hl2
     have htl2:=tmF_le (s:=s) (w:=wdF s (wdT s (sgT s 46 k))) hl2
     have htg:=tmF_ge (s:=s) (w:=wdF s (wdT s (sgT s 46 k))) (i:=wdT s (wdT s (sgT s 46 k)))
     by_cases hz:(wdF s (wdT s (sgT s 46 k))).size=0
     ·rw[hvoid hz]at hag
      subst hag
      have hz':wdF s (wdT s (sgT s 46 k))=⟨#[]⟩:=by
       refine ByteArray.ext ?_
       exact Array.eq_empty_of_size_eq_zero hz
      clear hvoid hgo hgt ht htl2 htg hz
      rw[hz']at hw2 hnot
      clear hz'
      generalize wdT s (wdT s (sgT s 46 k))=k3 at*
      generalize wdT s (sgT s 46 k)=k2 at*
      generalize wdF s (sgT s 46 k)=w1 at*
      generalize sgT s 46 k=k1 at*
      dsimp only at*
      by_cases h0:a.length=0
      ·obtain rfl:=List.eq_nil_of_length_eq_zero h0
       all_goals repeat' (first|(refine awK fun _ _=>?_)|(fail_if_success with_reducible refine Owe.mk ?_);(simp(disch:=omega) [go_sem,hlt,rdO,rdA])|refine zDn 11 15 mix ?_|fail)
       all_goals refine stepK_fis [] [] 10000 _ _ (Fits.mk' (by simp[go_sem,rdO,rdA]) (by simp[go_sem,rdO,rdA])) (by simp[go_sem,rdO,rdA]) (by simp[go_sem,rdO,rdA]) (hsg) (by simp[go_sem,rdO,rdA]) (by simp[go_sem,rdO,rdA]) ?_
       all_goals repeat' (first|(refine awK fun _ _=>?_)|refine zHg ?_|(fail_if_success with_reducible refine Owe.mk ?_);(simp(disch:=omega) [go_sem,hlt,rdO,rdA]))
       all_goals refine stepK_fis [] [] 10000 _ _ (Fits.mk' (by simp[go_sem,rdO,rdA]) (by simp[go_sem,rdO,rdA])) (by simp[go_sem,rdO,rdA]) (by simp[go_sem,rdO,rdA]) (hw1) (by simp[go_sem,rdO,rdA]) (by simp[go_sem,rdO,rdA]) ?_
       all_goals repeat' (first|(refine awK fun _ _=>?_)|refine zHg ?_|(fail_if_success with_reducible refine Owe.mk ?_);(simp(disch:=omega) [go_sem,hlt,rdO,rdA]))
       all_goals refine stepK_fis [] [] 10000 _ _ (Fits.mk' (by simp[go_sem,rdO,rdA]) (by simp[go_sem,rdO,rdA])) (by simp[go_sem,rdO,rdA]) (by simp[go_sem,rdO,rdA]) (hw2) (by simp[go_sem,rdO,rdA]) (by simp[go_sem,rdO,rdA]) ?_
       all_goals repeat' (first|(refine awK fun _ _=>?_)|refine zHg ?_|(fail_if_success with_reducible refine Owe.mk ?_);(simp(disch:=omega) [go_sem,hlt,rdO,rdA]))
       all_goals refine endL_ret ⟨50,[(4,.ptr 4 0 0)],(4,⟨false,false,false,3,[.agg [.sc (.string H.name),.list false false (H.args.map eTm),.list false true []]],0⟩)::(1000,rdA s k3):: []⟩ [.agg [.sc (.string H.name),.list false false (H.args.map eTm),.list false true []]] (Le.renSub [] [] (by simp[go_sem,rdO,rdA]) (by simp[go_sem,rdO,rdA]) (Le.sub4 rfl (by simp[go_sem,rdO,rdA]))) (by simp[go_sem,rdO,rdA]) ⟨rfl,rfl⟩
      ·have h0': ¬a= []:=fun h=>h0 (by rw[h];rfl)
       all_goals repeat' (first|(refine awK fun _ _=>?_)|(fail_if_success with_reducible refine Owe.mk ?_);(simp(disch:=omega) [go_sem,hlt,h0,h0',rdO,rdA])|refine zDn 11 15 mix ?_|fail)
       all_goals refine stepK_fis [] [] 10000 _ _ (Fits.mk' (by simp[go_sem,rdO,rdA]) (by simp[go_sem,rdO,rdA])) (by simp[go_sem,rdO,rdA]) (by simp[go_sem,rdO,rdA]) (hsg) (by simp[go_sem,rdO,rdA]) (by simp[go_sem,rdO,rdA]) ?_
       all_goals repeat' (first|(refine awK fun _ _=>?_)|refine zHg ?_|(fail_if_success with_reducible refine Owe.mk ?_);(simp(disch:=omega) [go_sem,hlt,h0,h0',rdO,rdA]))
       all_goals refine stepK_fis [] [] 10000 _ _ (Fits.mk' (by simp[go_sem,rdO,rdA]) (by simp[go_sem,rdO,rdA])) (by simp[go_sem,rdO,rdA]) (by simp[go_sem,rdO,rdA]) (hw1) (by simp[go_sem,rdO,rdA]) (by simp[go_sem,rdO,rdA]) ?_
       all_goals repeat' (first|(refine awK fun _ _=>?_)|refine zHg ?_|(fail_if_success with_reducible refine Owe.mk ?_);(simp(disch:=omega) [go_sem,hlt,h0,h0',rdO,rdA]))
       all_goals refine stepK_fis [] [] 10000 _ _ (Fits.mk' (by simp[go_sem,rdO,rdA]) (by simp[go_sem,rdO,rdA])) (by simp[go_sem,rdO,rdA]) (by simp[go_sem,rdO,rdA]) (hw2) (by simp[go_sem,rdO,rdA]) (by simp[go_sem,rdO,rdA]) ?_
       all_goals repeat' (first|(refine awK fun _ _=>?_)|refine zHg ?_|(fail_if_success with_reducible refine Owe.mk ?_);(simp(disch:=omega) [go_sem,hlt,h0,h0',rdO,rdA]))
       all_goals refine endL_ret ⟨50,[(4,.ptr 4 0 0)],(4,⟨false,false,false,3,[.agg [.sc (.string H.name),.list false false (H.args.map eTm),.ref 900 0 a.length]],0⟩)::(1000,rdA s k3):: [(900,⟨true,false,false,3,a.map eLt,0⟩)]⟩ [.agg [.sc (.string H.name),.list false false (H.args.map eTm),.ref 900 0 a.length]] (Le.renSub [] [] (by simp[go_sem,rdO,rdA]) (by simp[go_sem,rdO,rdA]) (Le.sub4 rfl (by simp[go_sem,rdO,rdA]))) (by simp[go_sem,rdO,rdA]) ⟨rfl,rfl⟩
     ·rw[hgo hz]at hag
      have hgt1:=hgt hz
      have hz': ¬wdF s (wdT s (sgT s 46 k))=⟨#[]⟩:=fun h=>hz (by rw[h];rfl)
      clear hvoid hgo hgt hz
      generalize tmF s (wdF s (wdT s (sgT s 46 k))) (wdT s (wdT s (sgT s 46 k)))=q at*
      generalize hwd:wdF s (wdT s (sgT s 46 k))=wd at*
      clear hwd
      generalize wdT s (wdT s (sgT s 46 k))=k3 at*
      generalize wdT s (sgT s 46 k)=k2 at*
      generalize wdF s (sgT s 46 k)=w1 at*
      generalize sgT s 46 k=k1 at*
      obtain⟨tm,k5⟩:=q
      dsimp only at*
      by_cases h0:a.length=0
      ·obtain rfl:=List.eq_nil_of_length_eq_zero h0
       all_goals repeat' (first|(refine awK fun _ _=>?_)|(fail_if_success with_reducible refine Owe.mk ?_);(simp(disch:=omega) [go_sem,hlt,hz',hnot,rdO,rdA])|refine zDn 11 15 mix ?_|fail)
       all_goals refine stepK_fis [] [] 10000 _ _ (Fits.mk' (by simp[go_sem,rdO,rdA]) (by simp[go_sem,rdO,rdA])) (by simp[go_sem,rdO,rdA]) (by simp[go_sem,rdO,rdA]) (hsg) (by simp[go_sem,rdO,rdA]) (by simp[go_sem,rdO,rdA]) ?_
       all_goals repeat' (first|(refine awK fun _ _=>?_)|refine zHg ?_|(fail_if_success with_reducible refine Owe.mk ?_);(simp(disch:=omega) [go_sem,hlt,hz',hnot,rdO,rdA]))
       all_goals refine stepK_fis [] [] 10000 _ _ (Fits.mk' (by simp[go_sem,rdO,rdA]) (by simp[go_sem,rdO,rdA])) (by simp[go_sem,rdO,rdA]) (by simp[go_sem,rdO,rdA]) (hw1) (by simp[go_sem,rdO,rdA]) (by simp[go_sem,rdO,rdA]) ?_
       all_goals repeat' (first|(refine awK fun _ _=>?_)|refine zHg ?_|(fail_if_success with_reducible refine Owe.mk ?_);(simp(disch:=omega) [go_sem,hlt,hz',hnot,rdO,rdA]))
       all_goals refine stepK_fis [] [] 10000 _ _ (Fits.mk' (by simp[go_sem,rdO,rdA]) (by simp[go_sem,rdO,rdA])) (by simp[go_sem,rdO,rdA]) (by simp[go_sem,rdO,rdA]) (hw2) (by simp[go_sem,rdO,rdA]) (by simp[go_sem,rdO,rdA]) ?_
       all_goals repeat' (first|(refine awK fun _ _=>?_)|refine zHg ?_|(fail_if_success with_reducible refine Owe.mk ?_);(simp(disch:=omega) [go_sem,hlt,hz',hnot,rdO,rdA])|refine zAny mix ?_|refine anyN_go ?_|refine zQ 0 ?_|refine zQ 2 ?_|refine zQ 3 ?_|refine zQ 4 ?_|refine zAll ?_;show allI _ _ _ _ _ _ _|exact allI_zero|refine zSkip ?_|refine allI_do rfl ?_ ?_)
       all_goals refine stepK_fis [] [] 10000 _ _ (Fits.mk' (by simp[go_sem,rdO,rdA]) (by simp[go_sem,rdO,rdA])) (by simp[go_sem,rdO,rdA]) (by simp[go_sem,rdO,rdA]) (ht) (by simp[go_sem,rdO,rdA]) (by simp[go_sem,rdO,rdA]) ?_
       all_goals repeat' (first|refine(hAA.next (([⟨false,tm⟩],k5)) (Le.renSub [(47,900)] [(900,47)] (by simp[go_sem]) (by simp[go_sem]) (Le.sub4 rfl (by simp[go_sem]))) (by(try dsimp only);omega) ?_)|(fail_if_success with_reducible refine Owe.mk ?_);(simp(disch:=omega) [go_sem,hlt,hz',hnot,rdO,rdA])|refine anyN_go ?_|refine zDone ?_|refine zQ 9 ?_|refine zAll ?_;show allI _ _ _ _ _ _ _|exact allI_zero|refine zSkip ?_|refine allI_do rfl ?_ ?_)
       all_goals(first|omega|skip)
       all_goals exact⟨by omega,by simp;omega,hag⟩
      ·have h0': ¬a= []:=fun h=>h0 (by rw[h];rfl)
       all_goals repeat' (first|(refine awK fun _ _=>?_)|(fail_if_success with_reducible refine Owe.mk ?_);(simp(disch:=omega) [go_sem,hlt,h0,h0',hz',hnot,rdO,rdA])|refine zDn 11 15 mix ?_|fail)
       all_goals refine stepK_fis [] [] 10000 _ _ (Fits.mk' (by simp[go_sem,rdO,rdA]) (by simp[go_sem,rdO,rdA])) (by simp[go_sem,rdO,rdA]) (by simp[go_sem,rdO,rdA]) (hsg) (by simp[go_sem,rdO,rdA]) (by simp[go_sem,rdO,rdA]) ?_
       all_goals repeat' (first|(refine awK fun _ _=>?_)|refine zHg ?_|(fail_if_success with_reducible refine Owe.mk ?_);(simp(disch:=omega) [go_sem,hlt,h0,h0',hz',hnot,rdO,rdA]))
       all_goals refine stepK_fis [] [] 10000 _ _ (Fits.mk' (by simp[go_sem,rdO,rdA]) (by simp[go_sem,rdO,rdA])) (by simp[go_sem,rdO,rdA]) (by simp[go_sem,rdO,rdA]) (hw1) (by simp[go_sem,rdO,rdA]) (by simp[go_sem,rdO,rdA]) ?_
       all_goals repeat' (first|(refine awK fun _ _=>?_)|refine zHg ?_|(fail_if_success with_reducible refine Owe.mk ?_);(simp(disch:=omega) [go_sem,hlt,h0,h0',hz',hnot,rdO,rdA]))
       all_goals refine stepK_fis [] [] 10000 _ _ (Fits.mk' (by simp[go_sem,rdO,rdA]) (by simp[go_sem,rdO,rdA])) (by simp[go_sem,rdO,rdA]) (by simp[go_sem,rdO,rdA]) (hw2) (by simp[go_sem,rdO,rdA]) (by simp[go_sem,rdO,rdA]) ?_
       all_goals repeat' (first|(refine awK fun _ _=>?_)|refine zHg ?_|(fail_if_success with_reducible refine Owe.mk ?_);(simp(disch:=omega) [go_sem,hlt,h0,h0',hz',hnot,rdO,rdA])|refine zAny mix ?_|refine anyN_go ?_|refine zQ 0 ?_|refine zQ 2 ?_|refine zQ 3 ?_|refine zQ 4 ?_|refine zAll ?_;show allI _ _ _ _ _ _ _|exact allI_zero|refine zSkip ?_|refine allI_do rfl ?_ ?_)
       all_goals refine stepK_fis [] [] 10000 _ _ (Fits.mk' (by simp[go_sem,rdO,rdA]) (by simp[go_sem,rdO,rdA])) (by simp[go_sem,rdO,rdA]) (by simp[go_sem,rdO,rdA]) (ht) (by simp[go_sem,rdO,rdA]) (by simp[go_sem,rdO,rdA]) ?_
       all_goals repeat' (first|refine(hAA.next ((a++ [⟨false,tm⟩],k5)) (Le.sub4 rfl (by simp[go_sem])) (by(try dsimp only);omega) ?_)|(fail_if_success with_reducible refine Owe.mk ?_);(simp(disch:=omega) [go_sem,hlt,h0,h0',hz',hnot,rdO,rdA])|refine zAo ?_|refine anyN_go ?_|refine zDone ?_|refine zQ 9 ?_|refine zAll ?_;show allI _ _ _ _ _ _ _|exact allI_zero|refine zSkip ?_|refine allI_do rfl ?_ ?_)
       all_goals(first|omega|skip)
       all_goals exact⟨by omega,by simp;omega,hag⟩
   ·rw[rlF_dot hlt hb]at hag
    subst hag
    rw[hb]at hsg
    generalize sgT s 46 k=k1 at*
    dsimp only at*
    by_cases h0:a.length=0
    ·obtain rfl:=List.eq_nil_of_length_eq_zero h0
     all_goals repeat' (first|(refine awK fun _ _=>?_)|(fail_if_success with_reducible refine Owe.mk ?_);(simp(disch:=omega) [go_sem,hlt,rdO,rdA])|refine zDn 11 15 mix ?_|fail)
     all_goals refine stepK_fis [] [] 10000 _ _ (Fits.mk' (by simp[go_sem,rdO,rdA]) (by simp[go_sem,rdO,rdA])) (by simp[go_sem,rdO,rdA]) (by simp[go_sem,rdO,rdA]) (hsg) (by simp[go_sem,rdO,rdA]) (by simp[go_sem,rdO,rdA]) ?_
     all_goals repeat' (first|(refine awK fun _ _=>?_)|refine zHg ?_|(fail_if_success with_reducible refine Owe.mk ?_);(simp(disch:=omega) [go_sem,hlt,rdO,rdA]))
     all_goals refine endL_ret ⟨50,[(4,.ptr 4 0 0)],(4,⟨false,false,false,3,[.agg [.sc (.string H.name),.list false false (H.args.map eTm),.list false true []]],0⟩)::(1000,rdA s k1):: []⟩ [.agg [.sc (.string H.name),.list false false (H.args.map eTm),.list false true []]] (Le.renSub [] [] (by simp[go_sem,rdO,rdA]) (by simp[go_sem,rdO,rdA]) (Le.sub4 rfl (by simp[go_sem,rdO,rdA]))) (by simp[go_sem,rdO,rdA]) ⟨rfl,rfl⟩
    ·have h0': ¬a= []:=fun h=>h0 (by rw[h];rfl)
     all_goals repeat' (first|(refine awK fun _ _=>?_)|(fail_if_success with_reducible refine Owe.mk ?_);(simp(disch:=omega) [go_sem,hlt,h0,h0',rdO,rdA])|refine zDn 11 15 mix ?_|fail)
     all_goals refine stepK_fis [] [] 10000 _ _ (Fits.mk' (by simp[go_sem,rdO,rdA]) (by simp[go_sem,rdO,rdA])) (by simp[go_sem,rdO,rdA]) (by simp[go_sem,rdO,rdA]) (hsg) (by simp[go_sem,rdO,rdA]) (by simp[go_sem,rdO,rdA]) ?_
     all_goals repeat' (first|(refine awK fun _ _=>?_)|refine zHg ?_|(fail_if_success with_reducible refine Owe.mk ?_);(simp(disch:=omega) [go_sem,hlt,h0,h0',rdO,rdA]))
     all_goals refine endL_ret ⟨50,[(4,.ptr 4 0 0)],(4,⟨false,false,false,3,[.agg [.sc (.string H.name),.list false false (H.args.map eTm),.ref 900 0 a.length]],0⟩)::(1000,rdA s k1):: [(900,⟨true,false,false,3,a.map eLt,0⟩)]⟩ [.agg [.sc (.string H.name),.list false false (H.args.map eTm),.ref 900 0 a.length]] (Le.renSub [] [] (by simp[go_sem,rdO,rdA]) (by simp[go_sem,rdO,rdA]) (Le.sub4 rfl (by simp[go_sem,rdO,rdA]))) (by simp[go_sem,rdO,rdA]) ⟨rfl,rfl⟩
  ·rw[rlF_end hlt]at hag
   subst hag
   dsimp only at*
   by_cases h0:a.length=0
   ·obtain rfl:=List.eq_nil_of_length_eq_zero h0
    all_goals repeat' (first|(refine awK fun _ _=>?_)|refine zHg ?_|(fail_if_success with_reducible refine Owe.mk ?_);(simp(disch:=omega) [go_sem,hlt,rdO,rdA])|refine zDn 11 15 mix ?_|fail)
    all_goals refine endL_ret ⟨50,[(4,.ptr 4 0 0)],(4,⟨false,false,false,3,[.agg [.sc (.string H.name),.list false false (H.args.map eTm),.list false true []]],0⟩)::(1000,rdA s k):: []⟩ [.agg [.sc (.string H.name),.list false false (H.args.map eTm),.list false true []]] (Le.renSub [] [] (by simp[go_sem,rdO,rdA]) (by simp[go_sem,rdO,rdA]) (Le.sub4 rfl (by simp[go_sem,rdO,rdA]))) (by simp[go_sem,rdO,rdA]) ⟨rfl,rfl⟩
   ·have h0': ¬a= []:=fun h=>h0 (by rw[h];rfl)
    all_goals repeat' (first|(refine awK fun _ _=>?_)|refine zHg ?_|(fail_if_success with_reducible refine Owe.mk ?_);(simp(disch:=omega) [go_sem,hlt,h0,h0',rdO,rdA])|refine zDn 11 15 mix ?_|fail)
    all_goals refine endL_ret ⟨50,[(4,.ptr 4 0 0)],(4,⟨false,false,false,3,[.agg [.sc (.string H.name),.list false false (H.args.map eTm),.ref 900 0 a.length]],0⟩)::(1000,rdA s k):: [(900,⟨true,false,false,3,a.map eLt,0⟩)]⟩ [.agg [.sc (.string H.name),.list false false (H.args.map eTm),.ref 900 0 a.length]] (Le.renSub [] [] (by simp[go_sem,rdO,rdA]) (by simp[go_sem,rdO,rdA]) (Le.sub4 rfl (by simp[go_sem,rdO,rdA]))) (by simp[go_sem,rdO,rdA]) ⟨rfl,rfl⟩
 by_cases h0:G.1.length=0
 ·have hn:=List.eq_nil_of_length_eq_zero h0
  simp only[hn,List.length_nil,if_true,decide_true,List.map_nil]at key ⊢
  exact key.shared rfl (by simp[go_sem]) (by simp[go_sem]) (by simp[go_sem])
 ·simp only[h0,if_false,decide_false]at key ⊢
  refine key.shared (s':=?_) (y:= .agg [.sc (.string H.name),.list false false (H.args.map eTm),.list false false (G.1.map eLt)]) (by simp[go_sem,seg];rfl) (by simp[go_sem]) (by simp[go_sem]) (by simp[go_sem])
theorem Read_ok (s:ByteArray) (hs:s.size≤1000000):ACall Tryz.prog 26 [.sc (.string s)] (fun r=>r= .own 3 ((rdF s [] 0).map eRl)):=by
 generalize hG:rdF s [] 0=G at*
 refine ACall.own_nil ?_
 refine acall_of_awp Tryz.func26 Tryz.call26 rfl (by simp[Tryz.ntmps26]) ?_;simp only[Tryz.ntmps26,Tryz.results26]
 repeat' (first|(refine awK fun _ _=>?_)|refine zHg ?_|(fail_if_success with_reducible refine Owe.mk ?_);(simp(disch:=omega) [go_sem]))
 refine awp_for [3] [8,900] (fun y:List Rl×Nat=> [(4,.ref 900 0 y.1.length)]) (fun y:List Rl×Nat=> [(8,rdB s y.2),(900,⟨true,false,false,3,y.1.map eRl,0⟩)]) (fun y:List Rl×Nat=>s.size - y.2) (fun y:List Rl×Nat=>y.2≤s.size∧y.1.length≤y.2∧rdF s y.1 y.2=G) (([],0)) (by refine Le.trans ?_ (Le.nil (i:=4) (T:=900) (es:=3) rfl);exact(Le.sub4 rfl (by simp[go_sem,rdB,List.map_nil,List.length_nil]))) ⟨?_⟩ ?_
 ·exact⟨Nat.zero_le _,Nat.zero_le _,hG⟩
 intro y ⟨hy2,hy3,hag⟩ AA hAA;simp only[kL,Nat.reduceBEq,Nat.reduceEqDiff,if_true,if_false,List.cons_append,List.nil_append,List.append_nil]
 obtain⟨a,k⟩:=y
 dsimp only at hy2 hy3 hag ⊢
 clear hG
 have hwd:=rdWord_ok s k hs hy2
 have hwl:=wdT_le (s:=s) hy2
 by_cases hz:(wdF s k).size=0
 ·rw[rdF_end hz]at hag
  subst hag
  have hz':wdF s k=⟨#[]⟩:=by
   refine ByteArray.ext ?_
   exact Array.eq_empty_of_size_eq_zero hz
  rw[hz']at hwd
  clear hz hz'
  generalize wdT s k=k1 at*
  try dsimp only at*
  repeat' (first|(refine awK fun _ _=>?_)|(fail_if_success with_reducible refine Owe.mk ?_);(simp(disch:=omega) [go_sem,rdB]))
  refine stepK_fis [(1000,8)] [(8,1000)] 10000 _ _ (Fits.mk' (by simp[go_sem,rdO,rdA,rdB]) (by simp[go_sem,rdO,rdA,rdB])) (by simp[go_sem,rdO,rdA,rdB]) (by simp[go_sem,rdO,rdA,rdB]) (hwd) (by simp[go_sem,rdO,rdA,rdB]) (by simp[go_sem,rdO,rdA,rdB]) ?_
  repeat' (first|(refine awK fun _ _=>?_)|refine zHg ?_|refine end_ret [] ?_;simp[go_sem,rdB]|(fail_if_success with_reducible refine Owe.mk ?_);(simp(disch:=omega) [go_sem,rdB]))
 ·rw[rdF_go hy2 hz]at hag
  have hgt:=wd_gt hz
  have hru:=rdRule_ok s hs (wdT s k) (wdF s k) hwl
  have hrl:=ruF_le (s:=s) (w:=wdF s k) hwl
  have hrg:=ruF_ge (s:=s) (w:=wdF s k) (i:=wdT s k)
  have hlim:a.length≤1000000:=by omega
  have hz': ¬wdF s k=⟨#[]⟩:=fun h=>hz (by rw[h];rfl)
  clear hz
  generalize ruF s (wdF s k) (wdT s k)=q at*
  generalize wdF s k=wd at*
  generalize wdT s k=k1 at*
  obtain⟨r,k2⟩:=q
  try dsimp only at*
  repeat' (first|(refine awK fun _ _=>?_)|(fail_if_success with_reducible refine Owe.mk ?_);(simp(disch:=omega) [go_sem,rdB,hz']))
  refine stepK_fis [(1000,8)] [(8,1000)] 10000 _ _ (Fits.mk' (by simp[go_sem,rdO,rdA,rdB]) (by simp[go_sem,rdO,rdA,rdB])) (by simp[go_sem,rdO,rdA,rdB]) (by simp[go_sem,rdO,rdA,rdB]) (hwd) (by simp[go_sem,rdO,rdA,rdB]) (by simp[go_sem,rdO,rdA,rdB]) ?_
  repeat' (first|(refine awK fun _ _=>?_)|refine zHg ?_|(fail_if_success with_reducible refine Owe.mk ?_);(simp(disch:=omega) [go_sem,rdB,hz']))
  refine stepK_fis [(1000,8)] [(8,1000)] 10000 _ _ (Fits.mk' (by simp[go_sem,rdO,rdA,rdB]) (by simp[go_sem,rdO,rdA,rdB])) (by simp[go_sem,rdO,rdA,rdB]) (by simp[go_sem,rdO,rdA,rdB]) (hru) (by simp[go_sem,rdO,rdA,rdB]) (by simp[go_sem,rdO,rdA,rdB]) ?_
  repeat' (first|refine(hAA.next ((a++ [r],k2)) (Le.sub4 rfl (by simp[go_sem,rdB])) (by(try dsimp only);omega) ?_)|(fail_if_success with_reducible refine Owe.mk ?_);(simp(disch:=omega) [go_sem,rdB,hz'])|refine zAo ?_|fail)
  all_goals(first|omega|skip)
  exact⟨by omega,by simp;omega,hag⟩
def exS:ByteArray:=⟨#[112,40,66,41,32,105,102,32,113,40,65,44,32,66,41,32,97,110,100,32,114,46,32,112,40,86,49,41,32,105,102,32,114,32,97,110,100,32,113,40,86,50,44,32,86,49,41,46,32,112,40,88,44,32,89,41,46,32,112,40,89,44,32,88,41,46,32,112,40,88,44,32,88,41,46]⟩
def ex0:Rl:=⟨(.mk ⟨#[112]⟩ [(.mk ⟨#[66]⟩ [])]),[⟨false,(.mk ⟨#[113]⟩ [(.mk ⟨#[65]⟩ []),(.mk ⟨#[66]⟩ [])])⟩,⟨false,(.mk ⟨#[114]⟩ [])⟩]⟩
def ex1:Rl:=⟨(.mk ⟨#[112]⟩ [(.mk ⟨#[86,49]⟩ [])]),[⟨false,(.mk ⟨#[114]⟩ [])⟩,⟨false,(.mk ⟨#[113]⟩ [(.mk ⟨#[86,50]⟩ []),(.mk ⟨#[86,49]⟩ [])])⟩]⟩
def ex2:Rl:=⟨(.mk ⟨#[112]⟩ [(.mk ⟨#[88]⟩ []),(.mk ⟨#[89]⟩ [])]),[]⟩
def ex3:Rl:=⟨(.mk ⟨#[112]⟩ [(.mk ⟨#[89]⟩ []),(.mk ⟨#[88]⟩ [])]),[]⟩
def ex4:Rl:=⟨(.mk ⟨#[112]⟩ [(.mk ⟨#[88]⟩ []),(.mk ⟨#[88]⟩ [])]),[]⟩
def exX:Rl:=⟨(.mk ⟨#[88]⟩ []),[]⟩
theorem ex_n0:nrmR ex0=ex1:=by kernel_rfl
theorem ex_e0:nrmE ex0=0:=by kernel_rfl
theorem ex_s1:sameB ex2 ex3=true:=by kernel_rfl
theorem ex_f1:sameE ex2 ex3=0:=by kernel_rfl
theorem ex_s2:sameB ex2 ex4=false:=by kernel_rfl
theorem ex_f2:sameE ex2 ex4=0:=by kernel_rfl
theorem ex_rl:(rlsR [ex0,ex1,ex2,ex3,ex4]).length=3:=by kernel_rfl
theorem ex_re:rlsE [ex0,ex1,ex2,ex3,ex4]=0:=by kernel_rfl
theorem ex_eX:nrmE exX=13:=by kernel_rfl
theorem ex_z0:SzR ex0:=⟨by decide,by decide,by decide⟩
theorem ex_z1:SzR ex1:=⟨by decide,by decide,by decide⟩
theorem ex_z2:SzR ex2:=⟨by decide,by decide,by decide⟩
theorem ex_z3:SzR ex3:=⟨by decide,by decide,by decide⟩
theorem ex_z4:SzR ex4:=⟨by decide,by decide,by decide⟩
theorem ex_zX:SzR exX:=⟨by decide,by decide,by decide⟩
theorem xw0:wdF exS 0=⟨#[112]⟩:=by kernel_rfl
theorem xv0:wdT exS 0=1:=by kernel_rfl
theorem xb40_1:sgB exS 40 1=true:=by kernel_rfl
theorem xg40_1:sgT exS 40 1=2:=by kernel_rfl
theorem xw2:wdF exS 2=⟨#[66]⟩:=by kernel_rfl
theorem xv2:wdT exS 2=3:=by kernel_rfl
theorem xb40_3:sgB exS 40 3=false:=by kernel_rfl
theorem xg40_3:sgT exS 40 3=3:=by kernel_rfl
theorem xt2:tmF exS ⟨#[66]⟩ 3=((.mk ⟨#[66]⟩ []),3):=by rw[tmF_no xb40_3,xg40_3]
theorem xb44_3:sgB exS 44 3=false:=by kernel_rfl
theorem xg44_3:sgT exS 44 3=3:=by kernel_rfl
theorem xt1a0:agF exS ([]:List Tm) 2=([(.mk ⟨#[66]⟩ [])],3):=by rw[agF_no (by decide) (by rw[xw2,xv2,xt2];exact xb44_3),xw2,xv2,xt2];dsimp only;rw[xg44_3];rfl
theorem xg41_3:sgT exS 41 3=4:=by kernel_rfl
theorem xt1:tmF exS ⟨#[112]⟩ 1=((.mk ⟨#[112]⟩ [(.mk ⟨#[66]⟩ [])]),4):=by rw[tmF_on xb40_1,xg40_1,xt1a0];dsimp only;rw[xg41_3]
theorem xb46_4:sgB exS 46 4=false:=by kernel_rfl
theorem xg46_4:sgT exS 46 4=5:=by kernel_rfl
theorem xl5:ltA exS 5=(false,⟨#[113]⟩,9):=by kernel_rfl
theorem xb40_9:sgB exS 40 9=true:=by kernel_rfl
theorem xg40_9:sgT exS 40 9=10:=by kernel_rfl
theorem xw10:wdF exS 10=⟨#[65]⟩:=by kernel_rfl
theorem xv10:wdT exS 10=11:=by kernel_rfl
theorem xb40_11:sgB exS 40 11=false:=by kernel_rfl
theorem xg40_11:sgT exS 40 11=11:=by kernel_rfl
theorem xt4:tmF exS ⟨#[65]⟩ 11=((.mk ⟨#[65]⟩ []),11):=by rw[tmF_no xb40_11,xg40_11]
theorem xb44_11:sgB exS 44 11=true:=by kernel_rfl
theorem xg44_11:sgT exS 44 11=12:=by kernel_rfl
theorem xw12:wdF exS 12=⟨#[66]⟩:=by kernel_rfl
theorem xv12:wdT exS 12=14:=by kernel_rfl
theorem xb40_14:sgB exS 40 14=false:=by kernel_rfl
theorem xg40_14:sgT exS 40 14=14:=by kernel_rfl
theorem xt5:tmF exS ⟨#[66]⟩ 14=((.mk ⟨#[66]⟩ []),14):=by rw[tmF_no xb40_14,xg40_14]
theorem xb44_14:sgB exS 44 14=false:=by kernel_rfl
theorem xg44_14:sgT exS 44 14=14:=by kernel_rfl
theorem xt3a1:agF exS ([(.mk ⟨#[65]⟩ [])]:List Tm) 12=([(.mk ⟨#[65]⟩ []),(.mk ⟨#[66]⟩ [])],14):=by rw[agF_no (by decide) (by rw[xw12,xv12,xt5];exact xb44_14),xw12,xv12,xt5];dsimp only;rw[xg44_14];rfl
theorem xt3a0:agF exS ([]:List Tm) 10=([(.mk ⟨#[65]⟩ []),(.mk ⟨#[66]⟩ [])],14):=by rw[agF_on (by decide) (by rw[xw10,xv10,xt4];exact xb44_11),xw10,xv10,xt4];dsimp only;rw[xg44_11];exact xt3a1
theorem xg41_14:sgT exS 41 14=15:=by kernel_rfl
theorem xt3:tmF exS ⟨#[113]⟩ 9=((.mk ⟨#[113]⟩ [(.mk ⟨#[65]⟩ []),(.mk ⟨#[66]⟩ [])]),15):=by rw[tmF_on xb40_9,xg40_9,xt3a0];dsimp only;rw[xg41_14]
theorem xb46_15:sgB exS 46 15=false:=by kernel_rfl
theorem xg46_15:sgT exS 46 15=16:=by kernel_rfl
theorem xl16:ltA exS 16=(false,⟨#[114]⟩,21):=by kernel_rfl
theorem xb40_21:sgB exS 40 21=false:=by kernel_rfl
theorem xg40_21:sgT exS 40 21=21:=by kernel_rfl
theorem xt6:tmF exS ⟨#[114]⟩ 21=((.mk ⟨#[114]⟩ []),21):=by rw[tmF_no xb40_21,xg40_21]
theorem xb46_21:sgB exS 46 21=true:=by kernel_rfl
theorem xg46_21:sgT exS 46 21=22:=by kernel_rfl
theorem xr0_2:rlF exS ([⟨false,(.mk ⟨#[113]⟩ [(.mk ⟨#[65]⟩ []),(.mk ⟨#[66]⟩ [])])⟩,⟨false,(.mk ⟨#[114]⟩ [])⟩]:List Lt) 21=([⟨false,(.mk ⟨#[113]⟩ [(.mk ⟨#[65]⟩ []),(.mk ⟨#[66]⟩ [])])⟩,⟨false,(.mk ⟨#[114]⟩ [])⟩],22):=by rw[rlF_dot (by decide) xb46_21,xg46_21]
theorem xr0_1:rlF exS ([⟨false,(.mk ⟨#[113]⟩ [(.mk ⟨#[65]⟩ []),(.mk ⟨#[66]⟩ [])])⟩]:List Lt) 15=([⟨false,(.mk ⟨#[113]⟩ [(.mk ⟨#[65]⟩ []),(.mk ⟨#[66]⟩ [])])⟩,⟨false,(.mk ⟨#[114]⟩ [])⟩],22):=by rw[rlF_go (by decide) xb46_15 (by rw[xg46_15,xl16];decide),xg46_15,xl16];dsimp only;rw[xt6];exact xr0_2
theorem xr0_0:rlF exS ([]:List Lt) 4=([⟨false,(.mk ⟨#[113]⟩ [(.mk ⟨#[65]⟩ []),(.mk ⟨#[66]⟩ [])])⟩,⟨false,(.mk ⟨#[114]⟩ [])⟩],22):=by rw[rlF_go (by decide) xb46_4 (by rw[xg46_4,xl5];decide),xg46_4,xl5];dsimp only;rw[xt3];exact xr0_1
theorem xu0:ruF exS ⟨#[112]⟩ 1=(ex0,22):=by unfold ruF;rw[xt1];dsimp only;rw[xr0_0];rfl
theorem xw22:wdF exS 22=⟨#[112]⟩:=by kernel_rfl
theorem xv22:wdT exS 22=24:=by kernel_rfl
theorem xb40_24:sgB exS 40 24=true:=by kernel_rfl
theorem xg40_24:sgT exS 40 24=25:=by kernel_rfl
theorem xw25:wdF exS 25=⟨#[86,49]⟩:=by kernel_rfl
theorem xv25:wdT exS 25=27:=by kernel_rfl
theorem xb40_27:sgB exS 40 27=false:=by kernel_rfl
theorem xg40_27:sgT exS 40 27=27:=by kernel_rfl
theorem xt8:tmF exS ⟨#[86,49]⟩ 27=((.mk ⟨#[86,49]⟩ []),27):=by rw[tmF_no xb40_27,xg40_27]
theorem xb44_27:sgB exS 44 27=false:=by kernel_rfl
theorem xg44_27:sgT exS 44 27=27:=by kernel_rfl
theorem xt7a0:agF exS ([]:List Tm) 25=([(.mk ⟨#[86,49]⟩ [])],27):=by rw[agF_no (by decide) (by rw[xw25,xv25,xt8];exact xb44_27),xw25,xv25,xt8];dsimp only;rw[xg44_27];rfl
theorem xg41_27:sgT exS 41 27=28:=by kernel_rfl
theorem xt7:tmF exS ⟨#[112]⟩ 24=((.mk ⟨#[112]⟩ [(.mk ⟨#[86,49]⟩ [])]),28):=by rw[tmF_on xb40_24,xg40_24,xt7a0];dsimp only;rw[xg41_27]
theorem xb46_28:sgB exS 46 28=false:=by kernel_rfl
theorem xg46_28:sgT exS 46 28=29:=by kernel_rfl
theorem xl29:ltA exS 29=(false,⟨#[114]⟩,33):=by kernel_rfl
theorem xb40_33:sgB exS 40 33=false:=by kernel_rfl
theorem xg40_33:sgT exS 40 33=34:=by kernel_rfl
theorem xt9:tmF exS ⟨#[114]⟩ 33=((.mk ⟨#[114]⟩ []),34):=by rw[tmF_no xb40_33,xg40_33]
theorem xb46_34:sgB exS 46 34=false:=by kernel_rfl
theorem xg46_34:sgT exS 46 34=34:=by kernel_rfl
theorem xl34:ltA exS 34=(false,⟨#[113]⟩,39):=by kernel_rfl
theorem xb40_39:sgB exS 40 39=true:=by kernel_rfl
theorem xg40_39:sgT exS 40 39=40:=by kernel_rfl
theorem xw40:wdF exS 40=⟨#[86,50]⟩:=by kernel_rfl
theorem xv40:wdT exS 40=42:=by kernel_rfl
theorem xb40_42:sgB exS 40 42=false:=by kernel_rfl
theorem xg40_42:sgT exS 40 42=42:=by kernel_rfl
theorem xt11:tmF exS ⟨#[86,50]⟩ 42=((.mk ⟨#[86,50]⟩ []),42):=by rw[tmF_no xb40_42,xg40_42]
theorem xb44_42:sgB exS 44 42=true:=by kernel_rfl
theorem xg44_42:sgT exS 44 42=43:=by kernel_rfl
theorem xw43:wdF exS 43=⟨#[86,49]⟩:=by kernel_rfl
theorem xv43:wdT exS 43=46:=by kernel_rfl
theorem xb40_46:sgB exS 40 46=false:=by kernel_rfl
theorem xg40_46:sgT exS 40 46=46:=by kernel_rfl
theorem xt12:tmF exS ⟨#[86,49]⟩ 46=((.mk ⟨#[86,49]⟩ []),46):=by rw[tmF_no xb40_46,xg40_46]
theorem xb44_46:sgB exS 44 46=false:=by kernel_rfl
theorem xg44_46:sgT exS 44 46=46:=by kernel_rfl
theorem xt10a1:agF exS ([(.mk ⟨#[86,50]⟩ [])]:List Tm) 43=([(.mk ⟨#[86,50]⟩ []),(.mk ⟨#[86,49]⟩ [])],46):=by rw[agF_no (by decide) (by rw[xw43,xv43,xt12];exact xb44_46),xw43,xv43,xt12];dsimp only;rw[xg44_46];rfl
theorem xt10a0:agF exS ([]:List Tm) 40=([(.mk ⟨#[86,50]⟩ []),(.mk ⟨#[86,49]⟩ [])],46):=by rw[agF_on (by decide) (by rw[xw40,xv40,xt11];exact xb44_42),xw40,xv40,xt11];dsimp only;rw[xg44_42];exact xt10a1
theorem xg41_46:sgT exS 41 46=47:=by kernel_rfl
theorem xt10:tmF exS ⟨#[113]⟩ 39=((.mk ⟨#[113]⟩ [(.mk ⟨#[86,50]⟩ []),(.mk ⟨#[86,49]⟩ [])]),47):=by rw[tmF_on xb40_39,xg40_39,xt10a0];dsimp only;rw[xg41_46]
theorem xb46_47:sgB exS 46 47=true:=by kernel_rfl
theorem xg46_47:sgT exS 46 47=48:=by kernel_rfl
theorem xr1_2:rlF exS ([⟨false,(.mk ⟨#[114]⟩ [])⟩,⟨false,(.mk ⟨#[113]⟩ [(.mk ⟨#[86,50]⟩ []),(.mk ⟨#[86,49]⟩ [])])⟩]:List Lt) 47=([⟨false,(.mk ⟨#[114]⟩ [])⟩,⟨false,(.mk ⟨#[113]⟩ [(.mk ⟨#[86,50]⟩ []),(.mk ⟨#[86,49]⟩ [])])⟩],48):=by rw[rlF_dot (by decide) xb46_47,xg46_47]
theorem xr1_1:rlF exS ([⟨false,(.mk ⟨#[114]⟩ [])⟩]:List Lt) 34=([⟨false,(.mk ⟨#[114]⟩ [])⟩,⟨false,(.mk ⟨#[113]⟩ [(.mk ⟨#[86,50]⟩ []),(.mk ⟨#[86,49]⟩ [])])⟩],48):=by rw[rlF_go (by decide) xb46_34 (by rw[xg46_34,xl34];decide),xg46_34,xl34];dsimp only;rw[xt10];exact xr1_2
theorem xr1_0:rlF exS ([]:List Lt) 28=([⟨false,(.mk ⟨#[114]⟩ [])⟩,⟨false,(.mk ⟨#[113]⟩ [(.mk ⟨#[86,50]⟩ []),(.mk ⟨#[86,49]⟩ [])])⟩],48):=by rw[rlF_go (by decide) xb46_28 (by rw[xg46_28,xl29];decide),xg46_28,xl29];dsimp only;rw[xt9];exact xr1_1
theorem xu1:ruF exS ⟨#[112]⟩ 24=(ex1,48):=by unfold ruF;rw[xt7];dsimp only;rw[xr1_0];rfl
theorem xw48:wdF exS 48=⟨#[112]⟩:=by kernel_rfl
theorem xv48:wdT exS 48=50:=by kernel_rfl
theorem xb40_50:sgB exS 40 50=true:=by kernel_rfl
theorem xg40_50:sgT exS 40 50=51:=by kernel_rfl
theorem xw51:wdF exS 51=⟨#[88]⟩:=by kernel_rfl
theorem xv51:wdT exS 51=52:=by kernel_rfl
theorem xb40_52:sgB exS 40 52=false:=by kernel_rfl
theorem xg40_52:sgT exS 40 52=52:=by kernel_rfl
theorem xt14:tmF exS ⟨#[88]⟩ 52=((.mk ⟨#[88]⟩ []),52):=by rw[tmF_no xb40_52,xg40_52]
theorem xb44_52:sgB exS 44 52=true:=by kernel_rfl
theorem xg44_52:sgT exS 44 52=53:=by kernel_rfl
theorem xw53:wdF exS 53=⟨#[89]⟩:=by kernel_rfl
theorem xv53:wdT exS 53=55:=by kernel_rfl
theorem xb40_55:sgB exS 40 55=false:=by kernel_rfl
theorem xg40_55:sgT exS 40 55=55:=by kernel_rfl
theorem xt15:tmF exS ⟨#[89]⟩ 55=((.mk ⟨#[89]⟩ []),55):=by rw[tmF_no xb40_55,xg40_55]
theorem xb44_55:sgB exS 44 55=false:=by kernel_rfl
theorem xg44_55:sgT exS 44 55=55:=by kernel_rfl
theorem xt13a1:agF exS ([(.mk ⟨#[88]⟩ [])]:List Tm) 53=([(.mk ⟨#[88]⟩ []),(.mk ⟨#[89]⟩ [])],55):=by rw[agF_no (by decide) (by rw[xw53,xv53,xt15];exact xb44_55),xw53,xv53,xt15];dsimp only;rw[xg44_55];rfl
theorem xt13a0:agF exS ([]:List Tm) 51=([(.mk ⟨#[88]⟩ []),(.mk ⟨#[89]⟩ [])],55):=by rw[agF_on (by decide) (by rw[xw51,xv51,xt14];exact xb44_52),xw51,xv51,xt14];dsimp only;rw[xg44_52];exact xt13a1
theorem xg41_55:sgT exS 41 55=56:=by kernel_rfl
theorem xt13:tmF exS ⟨#[112]⟩ 50=((.mk ⟨#[112]⟩ [(.mk ⟨#[88]⟩ []),(.mk ⟨#[89]⟩ [])]),56):=by rw[tmF_on xb40_50,xg40_50,xt13a0];dsimp only;rw[xg41_55]
theorem xb46_56:sgB exS 46 56=true:=by kernel_rfl
theorem xg46_56:sgT exS 46 56=57:=by kernel_rfl
theorem xr2_0:rlF exS ([]:List Lt) 56=([],57):=by rw[rlF_dot (by decide) xb46_56,xg46_56]
theorem xu2:ruF exS ⟨#[112]⟩ 50=(ex2,57):=by unfold ruF;rw[xt13];dsimp only;rw[xr2_0];rfl
theorem xw57:wdF exS 57=⟨#[112]⟩:=by kernel_rfl
theorem xv57:wdT exS 57=59:=by kernel_rfl
theorem xb40_59:sgB exS 40 59=true:=by kernel_rfl
theorem xg40_59:sgT exS 40 59=60:=by kernel_rfl
theorem xw60:wdF exS 60=⟨#[89]⟩:=by kernel_rfl
theorem xv60:wdT exS 60=61:=by kernel_rfl
theorem xb40_61:sgB exS 40 61=false:=by kernel_rfl
theorem xg40_61:sgT exS 40 61=61:=by kernel_rfl
theorem xt17:tmF exS ⟨#[89]⟩ 61=((.mk ⟨#[89]⟩ []),61):=by rw[tmF_no xb40_61,xg40_61]
theorem xb44_61:sgB exS 44 61=true:=by kernel_rfl
theorem xg44_61:sgT exS 44 61=62:=by kernel_rfl
theorem xw62:wdF exS 62=⟨#[88]⟩:=by kernel_rfl
theorem xv62:wdT exS 62=64:=by kernel_rfl
theorem xb40_64:sgB exS 40 64=false:=by kernel_rfl
theorem xg40_64:sgT exS 40 64=64:=by kernel_rfl
theorem xt18:tmF exS ⟨#[88]⟩ 64=((.mk ⟨#[88]⟩ []),64):=by rw[tmF_no xb40_64,xg40_64]
theorem xb44_64:sgB exS 44 64=false:=by kernel_rfl
theorem xg44_64:sgT exS 44 64=64:=by kernel_rfl
theorem xt16a1:agF exS ([(.mk ⟨#[89]⟩ [])]:List Tm) 62=([(.mk ⟨#[89]⟩ []),(.mk ⟨#[88]⟩ [])],64):=by rw[agF_no (by decide) (by rw[xw62,xv62,xt18];exact xb44_64),xw62,xv62,xt18];dsimp only;rw[xg44_64];rfl
theorem xt16a0:agF exS ([]:List Tm) 60=([(.mk ⟨#[89]⟩ []),(.mk ⟨#[88]⟩ [])],64):=by rw[agF_on (by decide) (by rw[xw60,xv60,xt17];exact xb44_61),xw60,xv60,xt17];dsimp only;rw[xg44_61];exact xt16a1
theorem xg41_64:sgT exS 41 64=65:=by kernel_rfl
theorem xt16:tmF exS ⟨#[112]⟩ 59=((.mk ⟨#[112]⟩ [(.mk ⟨#[89]⟩ []),(.mk ⟨#[88]⟩ [])]),65):=by rw[tmF_on xb40_59,xg40_59,xt16a0];dsimp only;rw[xg41_64]
theorem xb46_65:sgB exS 46 65=true:=by kernel_rfl
theorem xg46_65:sgT exS 46 65=66:=by kernel_rfl
theorem xr3_0:rlF exS ([]:List Lt) 65=([],66):=by rw[rlF_dot (by decide) xb46_65,xg46_65]
theorem xu3:ruF exS ⟨#[112]⟩ 59=(ex3,66):=by unfold ruF;rw[xt16];dsimp only;rw[xr3_0];rfl
theorem xw66:wdF exS 66=⟨#[112]⟩:=by kernel_rfl
theorem xv66:wdT exS 66=68:=by kernel_rfl
theorem xb40_68:sgB exS 40 68=true:=by kernel_rfl
theorem xg40_68:sgT exS 40 68=69:=by kernel_rfl
theorem xw69:wdF exS 69=⟨#[88]⟩:=by kernel_rfl
theorem xv69:wdT exS 69=70:=by kernel_rfl
theorem xb40_70:sgB exS 40 70=false:=by kernel_rfl
theorem xg40_70:sgT exS 40 70=70:=by kernel_rfl
theorem xt20:tmF exS ⟨#[88]⟩ 70=((.mk ⟨#[88]⟩ []),70):=by rw[tmF_no xb40_70,xg40_70]
theorem xb44_70:sgB exS 44 70=true:=by kernel_rfl
theorem xg44_70:sgT exS 44 70=71:=by kernel_rfl
theorem xw71:wdF exS 71=⟨#[88]⟩:=by kernel_rfl
theorem xv71:wdT exS 71=73:=by kernel_rfl
theorem xb40_73:sgB exS 40 73=false:=by kernel_rfl
theorem xg40_73:sgT exS 40 73=73:=by kernel_rfl
theorem xt21:tmF exS ⟨#[88]⟩ 73=((.mk ⟨#[88]⟩ []),73):=by rw[tmF_no xb40_73,xg40_73]
theorem xb44_73:sgB exS 44 73=false:=by kernel_rfl
theorem xg44_73:sgT exS 44 73=73:=by kernel_rfl
theorem xt19a1:agF exS ([(.mk ⟨#[88]⟩ [])]:List Tm) 71=([(.mk ⟨#[88]⟩ []),(.mk ⟨#[88]⟩ [])],73):=by rw[agF_no (by decide) (by rw[xw71,xv71,xt21];exact xb44_73),xw71,xv71,xt21];dsimp only;rw[xg44_73];rfl
theorem xt19a0:agF exS ([]:List Tm) 69=([(.mk ⟨#[88]⟩ []),(.mk ⟨#[88]⟩ [])],73):=by rw[agF_on (by decide) (by rw[xw69,xv69,xt20];exact xb44_70),xw69,xv69,xt20];dsimp only;rw[xg44_70];exact xt19a1
theorem xg41_73:sgT exS 41 73=74:=by kernel_rfl
theorem xt19:tmF exS ⟨#[112]⟩ 68=((.mk ⟨#[112]⟩ [(.mk ⟨#[88]⟩ []),(.mk ⟨#[88]⟩ [])]),74):=by rw[tmF_on xb40_68,xg40_68,xt19a0];dsimp only;rw[xg41_73]
theorem xb46_74:sgB exS 46 74=true:=by kernel_rfl
theorem xg46_74:sgT exS 46 74=75:=by kernel_rfl
theorem xr4_0:rlF exS ([]:List Lt) 74=([],75):=by rw[rlF_dot (by decide) xb46_74,xg46_74]
theorem xu4:ruF exS ⟨#[112]⟩ 68=(ex4,75):=by unfold ruF;rw[xt19];dsimp only;rw[xr4_0];rfl
theorem xw75:wdF exS 75=⟨#[]⟩:=by kernel_rfl
theorem xd5:rdF exS ([ex0,ex1,ex2,ex3,ex4]:List Rl) 75= [ex0,ex1,ex2,ex3,ex4]:=by rw[rdF_end (by rw[xw75];rfl)]
theorem xd4:rdF exS ([ex0,ex1,ex2,ex3]:List Rl) 66= [ex0,ex1,ex2,ex3,ex4]:=by rw[rdF_go (by decide) (by rw[xw66];decide),xw66,xv66,xu4];exact xd5
theorem xd3:rdF exS ([ex0,ex1,ex2]:List Rl) 57= [ex0,ex1,ex2,ex3,ex4]:=by rw[rdF_go (by decide) (by rw[xw57];decide),xw57,xv57,xu3];exact xd4
theorem xd2:rdF exS ([ex0,ex1]:List Rl) 48= [ex0,ex1,ex2,ex3,ex4]:=by rw[rdF_go (by decide) (by rw[xw48];decide),xw48,xv48,xu2];exact xd3
theorem xd1:rdF exS ([ex0]:List Rl) 22= [ex0,ex1,ex2,ex3,ex4]:=by rw[rdF_go (by decide) (by rw[xw22];decide),xw22,xv22,xu1];exact xd2
theorem xd0:rdF exS ([]:List Rl) 0= [ex0,ex1,ex2,ex3,ex4]:=by rw[rdF_go (by decide) (by rw[xw0];decide),xw0,xv0,xu0];exact xd1
end Go.Proofs.YtkbglbcphjmiiaaGreatDoor
