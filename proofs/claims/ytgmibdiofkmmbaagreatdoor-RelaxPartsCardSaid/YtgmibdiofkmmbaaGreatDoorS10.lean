import Derived.Test.YtgmibdiofkmmbaaGreatDoorS9
set_option linter.all false
open Go.Proofs.Tryz
namespace Go.Proofs.YtgmibdiofkmmbaaGreatDoor
open Go.Ab
variable [Glob prog]
set_option maxRecDepth 100000
set_option maxHeartbeats 16000000
theorem dM7 {q M:Nat}: ∀t:Tm,lK M t->t.size<=q->eQ q M t:=by
 refine fM fun t ih h hz=>?_
 obtain⟨n,ts⟩:=t
 simp only[cM]at ih
 rw[lK]at h
 rw[gV,cM]at hz
 have:=sS ts
 refine oE.2 ⟨h.1,by omega,wO.2 fun u hu=>ih u hu (C6.1 h.2 u hu) ?_⟩
 have:=A7 hu
 omega
theorem aVp {m:Int}: ∀{l:List Tm},uH m l=true->(l.length:Int)<=m/\ ∀t∈l,lT m t=true:=by
 intro l h
 unfold uH at h
 rw[Bool.and_eq_true,decide_eq_true_eq,List.all_eq_true]at h
 exact h
def yX (a:Tm):Bool:=sU 4 false a&&iJ a.name
def D3 (A:List Tm):Bool:=decide (A.length<=60)&&(uH 60 A&&(uU [] A&&A.all yX))
theorem dM8 {A:List Tm} (h:D3 A=true):A.length<=60/\ ∀a∈A,a.size<=60:=by
 unfold D3 at h
 rw[Bool.and_eq_true,Bool.and_eq_true,decide_eq_true_eq]at h
 obtain⟨h1,h2,_⟩:=h
 refine⟨h1,fun a ha=>?_⟩
 have:=W3 (by decide) ((aVp h2).2 a ha)
 omega
theorem sm0:uU [] []=true:=by kernel_rfl
theorem dNx:ACall prog 25 [.list false true [],nt .i64 40] (fun r=>r=bl true):=by
 have h:=dJ7 (q:=1) (M:=5) (B:=5) (by decide) (by decide) (by decide) [] true false true (fun t ht=>by cases ht) (by decide)
 rw[sm0,List.map_nil]at h
 refine aX func25 call25 rfl (by simp[ntmps25]) ?_;simp only[ntmps25,results25]
 repeat' (first|(refine aE fun _ _=>?_)|refine zHg ?_|simp(disch:=omega) [go_sem])
 refine bZ [0,12] [] (fun i:Nat=> [(13,nt .i64 0)]) (fun i:Nat=> []) (fun i:Nat=>0) (fun i:Nat=>True) (0) (Le.sub4 rfl (by simp[go_sem])) ⟨?_⟩ ?_
 ·trivial
 intro i hi AA hAA;simp only[kL,Nat.reduceBEq,Nat.reduceEqDiff]
 repeat' (first|(refine aE fun _ _=>?_)|refine zHg ?_|(refine aL [] ?_;simp[go_sem])|refine aI rfl (h) (by simp) ?_|simp(disch:=omega) [go_sem])
theorem dNa (A:List Tm) (le fu:Bool) (hn: ∀a∈A,lK 140737488355328 a) (hAl:A.length<=140737488355328):ACall prog 9 [.list false true [],.list le fu (A.map aP)] (fun r=>r=bl (D3 A)):=by
 have h1:=dNx
 have h2:=cY2 A le fu 60 (by decide)
 generalize hV:D3 A=V
 unfold D3 at hV
 by_cases c1:A.length<=60
 ·rw[decide_eq_true c1,Bool.true_and]at hV
  have d1: ¬(60:Int)<A.length:=by omega
  cases c2:uH 60 A
  ·rw[c2]at hV h2
   rw[Bool.false_and]at hV
   subst hV
   refine aX func9 call9 rfl (by simp[ntmps9]) ?_;simp only[ntmps9,results9]
   repeat' (first|(refine aE fun _ _=>?_)|refine zHg ?_|(refine aL [] ?_;simp[go_sem,d1])|refine aI rfl (h1) (by simp) ?_|refine aI rfl (h2) (by simp) ?_|simp(disch:=omega) [go_sem,d1])
  ·have hsz: ∀t∈A,t.size<=60:=fun a ha=>by
    have:=W3 (by decide) ((aVp c2).2 a ha)
    omega
   have h3:=dJ7 (q:=60) (M:=140737488355328) (B:=9000000000000000) (by decide) (by decide) (by decide) A true le fu (fun t ht=>by
    have hz:=hsz t ht
    have ho:=dM7 t (hn t ht) hz
    refine⟨ho,?_,Nat.le_trans (K0 t) (by omega)⟩
    have:=aOq ho
    have h9:=Nat.mul_le_mul_right (140737488355328+3) hz
    omega) (by omega)
   rw[c2]at hV h2
   rw[Bool.true_and]at hV
   cases c3:uU [] A
   ·rw[c3]at hV h3
    rw[Bool.false_and]at hV
    subst hV
    refine aX func9 call9 rfl (by simp[ntmps9]) ?_;simp only[ntmps9,results9]
    repeat' (first|(refine aE fun _ _=>?_)|refine zHg ?_|(refine aL [] ?_;simp[go_sem,d1])|refine aI rfl (h1) (by simp) ?_|refine aI rfl (h2) (by simp) ?_|refine aI rfl (h3) (by simp) ?_|simp(disch:=omega) [go_sem,d1])
   ·rw[c3]at hV h3
    rw[Bool.true_and]at hV
    clear c2 c3 hn hsz
    refine aX func9 call9 rfl (by simp[ntmps9]) ?_;simp only[ntmps9,results9]
    repeat' (first|(refine aE fun _ _=>?_)|refine zHg ?_|refine aI rfl (h1) (by simp) ?_|refine aI rfl (h2) (by simp) ?_|refine aI rfl (h3) (by simp) ?_|simp(disch:=omega) [go_sem,d1])
    refine bZ [1] [] (fun i:Nat=> [(5,nt .i64 i)]) (fun i:Nat=> []) (fun i:Nat=>A.length - i) (fun i:Nat=>i<=A.length/\ ∀(k:Nat) (hk:k<A.length),k<i->yX A[k]=true) (0) (Le.sub4 rfl (by simp[go_sem])) ⟨?_⟩ ?_
    ·exact⟨Nat.zero_le _,fun k _ hk=>absurd hk (Nat.not_lt_zero _)⟩
    intro i ⟨hi,hp⟩ AA hAA;simp only[kL,Nat.reduceBEq,Nat.reduceEqDiff]
    by_cases hlt:i<A.length
    ·have hg:=cY8 A[i]
     have hm:=aFb A[i].name
     have hbad:yX A[i]=false->V=false:=fun h=>by
      rw[<-hV,Bool.eq_false_iff]
      intro h'
      rw[List.all_eq_true.1 h' _ (List.getElem_mem hlt)]at h
      cases h
     have hgo:yX A[i]=true-> ∀(k:Nat) (hk:k<A.length),k<i+1->yX A[k]=true:=fun h k hk hki=>by
      rcases Nat.lt_or_eq_of_le (Nat.le_of_lt_succ hki)with h1|rfl
      ·exact hp k hk h1
      ·exact h
     unfold yX at hbad hgo
     cases c4:sU 4 false A[i]
     ·rw[c4]at hg
      obtain rfl:=hbad (by rw[c4];rfl)
      repeat' (first|(refine aE fun _ _=>?_)|refine zHg ?_|(refine aL [] ?_;simp[go_sem,hlt])|refine aI rfl (hg) (by simp) ?_|simp(disch:=omega) [go_sem,hlt])
     ·rw[c4]at hg
      cases c5:iJ A[i].name
      ·rw[c5]at hm
       obtain rfl:=hbad (by rw[c4,c5];rfl)
       repeat' (first|(refine aE fun _ _=>?_)|refine zHg ?_|(refine aL [] ?_;simp[go_sem,hlt])|refine aI rfl (hg) (by simp) ?_|refine aI rfl (hm) (by simp) ?_|simp(disch:=omega) [go_sem,hlt])
      ·rw[c5]at hm
       repeat' (first|(refine aE fun _ _=>?_)|refine zHg ?_|refine aI rfl (hg) (by simp) ?_|refine aI rfl (hm) (by simp) ?_|(refine(hAA.next (i+1) (Le.sub4 rfl (by simp[go_sem])) (by(try dsimp only);omega) ?_))|simp(disch:=omega) [go_sem,hlt])
       try any_goals omega
       all_goals exact⟨hlt,fun k hk hki=>by unfold yX at*;exact hgo (by rw[c4,c5];rfl) k hk hki⟩
    ·obtain rfl:i=A.length:=by omega
     have hu:V=true:=by
      rw[<-hV,List.all_eq_true]
      intro a ha
      obtain⟨k,hk,rfl⟩:=List.mem_iff_getElem.1 ha
      exact hp k hk hk
     subst hu
     repeat' (first|(refine aE fun _ _=>?_)|refine zHg ?_|(refine aL [] ?_;simp[go_sem])|simp(disch:=omega) [go_sem])
 ·rw[decide_eq_false c1,Bool.false_and]at hV
  subst hV
  have d1:(60:Int)<A.length:=by omega
  refine aX func9 call9 rfl (by simp[ntmps9]) ?_;simp only[ntmps9,results9]
  repeat' (first|(refine aE fun _ _=>?_)|refine zHg ?_|(refine aL [] ?_;simp[go_sem,d1])|refine aI rfl (h1) (by simp) ?_|simp(disch:=omega) [go_sem,d1])
theorem dNb [KwG] (A:List Tm) (r:Tm) (fu:Bool) (hn: ∀a∈A,lK 140737488355328 a) (hAl:A.length<=140737488355328):ACall prog 5 [.list false fu (A.map aP),eT r] (fun v=>v=bl true):=by
 have h0:=dM2
 have h1:=dNa A false fu hn hAl
 have h2:=W4 r 60 (by decide)
 cases c1:D3 A
 ·rw[c1]at h1
  refine aX func5 call5 rfl (by simp[ntmps5]) ?_;simp only[ntmps5,results5]
  repeat' (first|(refine aE fun _ _=>?_)|refine zHg ?_|(refine aL [] ?_;simp[go_sem])|refine aI rfl (h1) (by simp) ?_|refine aI rfl (h0) (by simp) ?_|simp(disch:=omega) [go_sem])
 ·rw[c1]at h1
  cases c2:lT 60 r
  ·rw[c2]at h2
   refine aX func5 call5 rfl (by simp[ntmps5]) ?_;simp only[ntmps5,results5]
   repeat' (first|(refine aE fun _ _=>?_)|refine zHg ?_|(refine aL [] ?_;simp[go_sem])|refine aI rfl (h1) (by simp) ?_|refine aI rfl (h2) (by simp) ?_|refine aI rfl (h0) (by simp) ?_|simp(disch:=omega) [go_sem])
  ·rw[c2]at h2
   obtain⟨hl,hz⟩:=dM8 c1
   have hz6: ∀a∈A,a.size<=1000000:=fun a ha=>Nat.le_trans (hz a ha) (by decide)
   have hl6:A.length<=1000000:=by omega
   have b1:=(aVc A false fu hl6 hz6).frz
   obtain⟨f1,b2⟩:=dM4 A false fu hl6
   have b3:=D2 (dK (dP gF [] A)) (dK (dP gF [] A)) false false false f1
   have b4:=(aVd A r false fu hl6 hz6).frz
   have b5:=dM5 A r false fu hl6
   have b6:=D2 (dK (dP jB [r] A)) (dK (dP jB [r] A)) false false false (decide (dP jB [r] A= []))
   have b7:=(aVe A r false fu hl6 hz6).frz
   have b8:=dM6 A r false fu hl6
   have b9:=D2 (dK (dP oQ [r] A)) (dK (dP oQ [r] A)) false false false (decide (dP oQ [r] A= []))
   rw[decide_eq_true rfl]at b3 b6 b9
   generalize decide (dP jB [r] A= [])=f2 at*
   generalize decide (dP oQ [r] A= [])=f3 at*
   generalize dK (dP gF [] A)=X1 at*
   generalize dK (dP jB [r] A)=X2 at*
   generalize dK (dP oQ [r] A)=X3 at*
   clear hn hz hz6
   have hlenT:True:=trivial
   refine aX func5 call5 rfl (by simp[ntmps5]) ?_;simp only[ntmps5,results5]
   repeat' (first|(refine aE fun _ _=>?_)|refine zHg ?_|(refine aL [] ?_;simp[go_sem,hlenT])|refine aI rfl (h1) (by simp) ?_|refine aI rfl (h2) (by simp) ?_|refine bI rfl (b1) rfl (by simp) ?_|refine bI rfl (b2) rfl (by simp) ?_|refine bI rfl (b3) rfl (by simp) ?_|refine bI rfl (b4) rfl (by simp) ?_|refine bI rfl (b5) rfl (by simp) ?_|refine bI rfl (b6) rfl (by simp) ?_|refine bI rfl (b7) rfl (by simp) ?_|refine bI rfl (b8) rfl (by simp) ?_|refine bI rfl (b9) rfl (by simp) ?_|refine bI rfl (h0) rfl (by simp) ?_|simp(disch:=omega) [go_sem,hlenT]|refine zDr 27 bA ?_|fail)
end Go.Proofs.YtgmibdiofkmmbaaGreatDoor
