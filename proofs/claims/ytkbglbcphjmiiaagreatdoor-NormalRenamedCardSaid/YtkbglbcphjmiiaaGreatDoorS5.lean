import Derived.Test.YtkbglbcphjmiiaaGreatDoorS4
import Derived.Test.YtkbglbcphjmiiaaGreatDoorS3
import Derived.Test.YtkbglbcphjmiiaaGreatDoorA5
import Derived.Test.YtkbglbcphjmiiaaGreatDoorS2
set_option linter.unusedSimpArgs false
set_option linter.unusedVariables false
open Go.Proofs.Tryz
namespace Go.Proofs.YtkbglbcphjmiiaaGreatDoor
open Go.Ab
set_option maxRecDepth 100000
set_option maxHeartbeats 8000000
theorem cF9 (s:ByteArray) (hb:s.size≤3000000) (c:UInt8) (r:List UInt8) (h0:cV s=c::r) (ts:List Tm) (h:ts.length=0):MCall prog 132 [.ptr 1000 0 0,eT (.mk s ts)] rA (fun r' o'=>r'= .tup []∧o'=iJ (c::r)):=by
 refine cL func132 call132 rfl (by simp[ntmps132]) ?_;simp only[ntmps132,results132]
 repeat' (first|(refine aC fun _ _=>?_)|refine zHg ?_|simp(disch:=omega) [go_sem])
 refine bC [] [] 10000 _ _ (Fits.mk' (by simp[go_sem]) (by simp[go_sem])) (by simp[go_sem]) (by simp[go_sem]) (X1 s (by omega) c r h0) (by simp[go_sem]) (by simp[go_sem]) ?_
 repeat' (first|(refine aC fun _ _=>?_)|refine zHg ?_|simp(disch:=omega) [go_sem,h])
 refine cS ⟨34,[],iJ (c::r)⟩ [] (Le.renSub [(11001,1001),(1001,11001)] [(1001,11001),(11001,1001)] (by simp[go_sem]) (by simp[go_sem]) (Le.sub4 rfl (by simp[go_sem]))) (by simp[go_sem]) ⟨rfl,rfl⟩
theorem cGa (s:ByteArray) (h0:cV s= []) (ts:List Tm) (h:ts.length=0):MCall prog 132 [.ptr 1000 0 0,eT (.mk s ts)] rA (fun r' o'=>r'= .tup []∧o'=nY):=by
 refine cL func132 call132 rfl (by simp[ntmps132]) ?_;simp only[ntmps132,results132]
 repeat' (first|(refine aC fun _ _=>?_)|refine zHg ?_|simp(disch:=omega) [go_sem])
 refine bC [] [] 10000 _ _ (Fits.mk' (by simp[go_sem]) (by simp[go_sem])) (by simp[go_sem]) (by simp[go_sem]) (aGh s h0) (by simp[go_sem]) (by simp[go_sem]) ?_
 repeat' (first|(refine aC fun _ _=>?_)|refine zHg ?_|simp(disch:=omega) [go_sem,h])
 refine cS ⟨34,[],nY⟩ [] (Le.renSub [] [] (by simp[go_sem]) (by simp[go_sem]) (Le.sub4 rfl (by simp[go_sem]))) (by simp[go_sem]) ⟨rfl,rfl⟩
theorem cGb (s:ByteArray) (ts:List Tm) (h:ts.length≠0) (c:UInt8) (r:List UInt8) (h0:cV s=c::r) (hb:(cK (.mk s ts)).length≤3000000):MCall prog 132 [.ptr 1000 0 0,eT (.mk s ts)] rA (fun r' o'=>r'= .tup []∧o'=iJ (cK (.mk s ts))):=by
 have ih: ∀u∈ts,∀l:List UInt8,l.length+(cK u).length≤3000000→MCall prog 132 [.ptr 1000 0 0,eT u] (rB l) (fun r o'=>r= .tup []∧o'=iJ (l++cK u)):=fun u _ l hl=>aGk u l hl
 rw[nZ,if_neg h]at*
 have hsl:=oY s
 simp only[List.length_append,List.length_cons,List.length_nil]at hb
 have hq:=X8 ts
 have hall:=X6 ts
 rw[←hall]at hb hq ⊢
 have hle: ∀i,(dW ts i).length≤(dW ts ts.length).length:=fun i=>by rw[hall];exact X7 ts i
 have hge: ∀(i:Nat) (h:i<ts.length),(cK ts[i]).length≤(dW ts ts.length).length:=fun i h=>by rw[hall];exact X3 h
 clear hall
 rw[h0]at hb hsl ⊢
 have hP:(c::r).length=s.size:=hsl
 refine cL func132 call132 rfl (by simp[ntmps132]) ?_;simp only[ntmps132,results132]
 repeat' (first|(refine aC fun _ _=>?_)|refine zHg ?_|simp(disch:=omega) [go_sem])
 refine bC [] [] 10000 _ _ (Fits.mk' (by simp[go_sem]) (by simp[go_sem])) (by simp[go_sem]) (by simp[go_sem]) (X1 s (by omega) c r h0) (by simp[go_sem]) (by simp[go_sem]) ?_
 generalize hp:c::r=p at*
 clear hp
 repeat' (first|(refine aC fun _ _=>?_)|refine zHg ?_|simp(disch:=omega) [go_sem,h])
 refine bC [(1001,11001)] [(11001,1001),(1001,11001)] 20000 _ _ (Fits.mk' (by simp[go_sem]) (by simp[go_sem])) (by simp[go_sem]) (by simp[go_sem]) (sM p 40 (by omega)) (by simp[go_sem]) (by simp[go_sem]) ?_
 repeat' (first|(refine aC fun _ _=>?_)|refine zHg ?_|simp(disch:=omega) [go_sem,h])
 refine bR [0,17,18] [1000,1001,11001,21001] (fun i:Nat=> [(19,nt .i64 i)]) (fun i:Nat=> [(1000,uI (.ptr 1000 0 0) (.ref 1001 0 (p++40::dW ts i).length)),(1001,⟨true,false,false,1,(p++40::dW ts i).map eC,7⟩)]) (fun i:Nat=>ts.length - i) (fun i:Nat=>i≤ts.length) (0) (Le.renSub [(21001,1001),(1001,21001)] [(1001,21001),(21001,1001)] (by simp[go_sem,iB]) (by simp[go_sem,iB]) (Le.sub4 rfl (by simp[go_sem,iB]))) ⟨?_⟩ ?_
 ·exact Nat.zero_le _
 intro i hi AA hAA;simp only[kL,Nat.reduceBEq,Nat.reduceEqDiff,if_true,if_false,List.cons_append,List.nil_append,List.append_nil]
 by_cases hlt:i<ts.length
 ·have hu:=ih ts[i] (List.getElem_mem hlt)
  have hl1:=hle i
  have hl2:=hge i hlt
  have hl3:=hle (i+1)
  by_cases hi0:i=0
  ·subst hi0
   have hn:=X4 hlt
   have hl4:=congrArg List.length hn
   rw[show 0+1=1 from rfl]at hl3
   have hu:=hu (p++40::dW ts 0) (by simp only[List.length_append,List.length_cons,iB,List.length_nil]at*;omega)
   repeat' (first|(refine aC fun _ _=>?_)|refine zHg ?_|simp(disch:=omega) [go_sem,hlt])
   refine bC [] [] 30000 _ _ (Fits.mk' (by simp[go_sem]) (by simp[go_sem])) (by simp[go_sem]) (by simp[go_sem]) (hu) (by simp[go_sem]) (by simp[go_sem]) ?_
   repeat' (first|refine zHg ?_|(refine(hAA.next (0+1) (Le.renSub [(31001,1001),(1001,31001)] [(1001,31001),(31001,1001)] (by simp[go_sem,iB,hn]) (by simp[go_sem,iB,hn]) (Le.sub4 rfl (by simp[go_sem,iB,hn]))) (by(try dsimp only);omega) ?_))|simp(disch:=omega) [go_sem,hlt])
   exact⟨by omega⟩
  ·have hn:=X5 hlt (by omega)
   have hl4:=congrArg List.length hn
   simp only[List.length_append,List.length_cons]at hl4
   have hu:=hu (p++40::dW ts i++ [44]) (by simp only[List.length_append,List.length_cons,List.length_nil]at*;omega)
   have hi1:(0:Int)<i:=by omega
   repeat' (first|(refine aC fun _ _=>?_)|refine zHg ?_|(refine zqd ?_ ?_<;>(intro h;first|(exfalso;omega)|(simp only[h,zT])))|simp(disch:=omega) [go_sem,hlt,hi1])
   refine bC [] [] 30000 _ _ (Fits.mk' (by simp[go_sem]) (by simp[go_sem])) (by simp[go_sem]) (by simp[go_sem]) (sM (p++40::dW ts i) 44 (by simp only[List.length_append,List.length_cons,List.length_nil]at*;omega)) (by simp[go_sem]) (by simp[go_sem]) ?_
   repeat' (first|refine zHg ?_|simp(disch:=omega) [go_sem,hlt])
   refine bC [(1001,31001)] [(31001,1001),(1001,31001)] 40000 _ _ (Fits.mk' (by simp[go_sem]) (by simp[go_sem])) (by simp[go_sem]) (by simp[go_sem]) (hu) (by simp[go_sem]) (by simp[go_sem]) ?_
   repeat' (first|refine zHg ?_|(refine(hAA.next (i+1) (Le.renSub [(41001,1001),(1001,41001)] [(1001,41001),(41001,1001)] (by simp[go_sem,hn]) (by simp[go_sem,hn]) (Le.sub4 rfl (by simp[go_sem,hn]))) (by(try dsimp only);omega) ?_))|simp(disch:=omega) [go_sem,hlt])
   exact⟨by omega⟩
 ·obtain rfl:i=ts.length:=by omega
  repeat' (first|(refine aC fun _ _=>?_)|refine zHg ?_|simp(disch:=omega) [go_sem])
  refine bC [] [] 30000 _ _ (Fits.mk' (by simp[go_sem]) (by simp[go_sem])) (by simp[go_sem]) (by simp[go_sem]) (sM (p++40::dW ts ts.length) 41 (by simp only[List.length_append,List.length_cons,List.length_nil]at*;omega)) (by simp[go_sem]) (by simp[go_sem]) ?_
  repeat' (first|simp(disch:=omega) [go_sem])
  refine eR ⟨34,[],iJ (p++40::(dW ts ts.length++ [41]))⟩ [] (Le.renSub [(31001,1001),(1001,31001)] [(1001,31001),(31001,1001)] (by simp[go_sem]) (by simp[go_sem]) (Le.sub4 rfl (by simp[go_sem]))) (by simp[go_sem]) ⟨rfl,rfl⟩
theorem cGc (s:ByteArray) (ts:List Tm) (h:ts.length≠0) (h0:cV s= []) (hb:(cK (.mk s ts)).length≤3000000):MCall prog 132 [.ptr 1000 0 0,eT (.mk s ts)] rA (fun r' o'=>r'= .tup []∧o'=iJ (cK (.mk s ts))):=by
 have ih: ∀u∈ts,∀l:List UInt8,l.length+(cK u).length≤3000000→MCall prog 132 [.ptr 1000 0 0,eT u] (rB l) (fun r o'=>r= .tup []∧o'=iJ (l++cK u)):=fun u _ l hl=>aGk u l hl
 rw[nZ,if_neg h]at*
 simp only[List.length_append,List.length_cons,List.length_nil]at hb
 have hq:=X8 ts
 have hall:=X6 ts
 rw[←hall]at hb hq ⊢
 have hle: ∀i,(dW ts i).length≤(dW ts ts.length).length:=fun i=>by rw[hall];exact X7 ts i
 have hge: ∀(i:Nat) (h:i<ts.length),(cK ts[i]).length≤(dW ts ts.length).length:=fun i h=>by rw[hall];exact X3 h
 clear hall
 rw[h0]at hb ⊢
 simp only[List.length_nil]at hb
 refine cL func132 call132 rfl (by simp[ntmps132]) ?_;simp only[ntmps132,results132]
 repeat' (first|(refine aC fun _ _=>?_)|refine zHg ?_|simp(disch:=omega) [go_sem])
 refine bC [] [] 10000 _ _ (Fits.mk' (by simp[go_sem]) (by simp[go_sem])) (by simp[go_sem]) (by simp[go_sem]) (aGh s h0) (by simp[go_sem]) (by simp[go_sem]) ?_
 repeat' (first|(refine aC fun _ _=>?_)|refine zHg ?_|simp(disch:=omega) [go_sem,h])
 refine bC [] [] 20000 _ _ (Fits.mk' (by simp[go_sem]) (by simp[go_sem])) (by simp[go_sem]) (by simp[go_sem]) (cFv 40) (by simp[go_sem]) (by simp[go_sem]) ?_
 repeat' (first|(refine aC fun _ _=>?_)|refine zHg ?_|simp(disch:=omega) [go_sem,h])
 refine bR [0,17,18] [1000,1001,11001,21001] (fun i:Nat=> [(19,nt .i64 i)]) (fun i:Nat=> [(1000,uI (.ptr 1000 0 0) (.ref 1001 0 (([]:List UInt8)++40::dW ts i).length)),(1001,⟨true,false,false,1,(([]:List UInt8)++40::dW ts i).map eC,7⟩)]) (fun i:Nat=>ts.length - i) (fun i:Nat=>i≤ts.length) (0) (Le.renSub [(21001,1001),(1001,21001)] [(1001,21001),(21001,1001)] (by simp[go_sem,iB]) (by simp[go_sem,iB]) (Le.sub4 rfl (by simp[go_sem,iB]))) ⟨?_⟩ ?_
 ·exact Nat.zero_le _
 intro i hi AA hAA;simp only[kL,Nat.reduceBEq,Nat.reduceEqDiff,if_true,if_false,List.cons_append,List.nil_append,List.append_nil]
 by_cases hlt:i<ts.length
 ·have hu:=ih ts[i] (List.getElem_mem hlt)
  have hl1:=hle i
  have hl2:=hge i hlt
  have hl3:=hle (i+1)
  by_cases hi0:i=0
  ·subst hi0
   have hn:=X4 hlt
   have hl4:=congrArg List.length hn
   rw[show 0+1=1 from rfl]at hl3
   have hu:=hu (([]:List UInt8)++40::dW ts 0) (by simp only[List.length_append,List.length_cons,iB,List.length_nil]at*;omega)
   repeat' (first|(refine aC fun _ _=>?_)|refine zHg ?_|simp(disch:=omega) [go_sem,hlt])
   refine bC [] [] 30000 _ _ (Fits.mk' (by simp[go_sem]) (by simp[go_sem])) (by simp[go_sem]) (by simp[go_sem]) (hu) (by simp[go_sem]) (by simp[go_sem]) ?_
   repeat' (first|refine zHg ?_|(refine(hAA.next (0+1) (Le.renSub [(31001,1001),(1001,31001)] [(1001,31001),(31001,1001)] (by simp[go_sem,iB,hn]) (by simp[go_sem,iB,hn]) (Le.sub4 rfl (by simp[go_sem,iB,hn]))) (by(try dsimp only);omega) ?_))|simp(disch:=omega) [go_sem,hlt])
   exact⟨by omega⟩
  ·have hn:=X5 hlt (by omega)
   have hl4:=congrArg List.length hn
   simp only[List.length_append,List.length_cons]at hl4
   have hu:=hu (([]:List UInt8)++40::dW ts i++ [44]) (by simp only[List.length_append,List.length_cons,List.length_nil]at*;omega)
   have hi1:(0:Int)<i:=by omega
   repeat' (first|(refine aC fun _ _=>?_)|refine zHg ?_|(refine zqd ?_ ?_<;>(intro h;first|(exfalso;omega)|(simp only[h,zT])))|simp(disch:=omega) [go_sem,hlt,hi1])
   refine bC [] [] 30000 _ _ (Fits.mk' (by simp[go_sem]) (by simp[go_sem])) (by simp[go_sem]) (by simp[go_sem]) (sM (([]:List UInt8)++40::dW ts i) 44 (by simp only[List.length_append,List.length_cons,List.length_nil]at*;omega)) (by simp[go_sem]) (by simp[go_sem]) ?_
   repeat' (first|refine zHg ?_|simp(disch:=omega) [go_sem,hlt])
   refine bC [(1001,31001)] [(31001,1001),(1001,31001)] 40000 _ _ (Fits.mk' (by simp[go_sem]) (by simp[go_sem])) (by simp[go_sem]) (by simp[go_sem]) (hu) (by simp[go_sem]) (by simp[go_sem]) ?_
   repeat' (first|refine zHg ?_|(refine(hAA.next (i+1) (Le.renSub [(41001,1001),(1001,41001)] [(1001,41001),(41001,1001)] (by simp[go_sem,hn]) (by simp[go_sem,hn]) (Le.sub4 rfl (by simp[go_sem,hn]))) (by(try dsimp only);omega) ?_))|simp(disch:=omega) [go_sem,hlt])
   exact⟨by omega⟩
 ·obtain rfl:i=ts.length:=by omega
  repeat' (first|(refine aC fun _ _=>?_)|refine zHg ?_|simp(disch:=omega) [go_sem])
  refine bC [] [] 30000 _ _ (Fits.mk' (by simp[go_sem]) (by simp[go_sem])) (by simp[go_sem]) (by simp[go_sem]) (sM (([]:List UInt8)++40::dW ts ts.length) 41 (by simp only[List.length_append,List.length_cons,List.length_nil]at*;omega)) (by simp[go_sem]) (by simp[go_sem]) ?_
  repeat' (first|simp(disch:=omega) [go_sem])
  refine eR ⟨34,[],iJ (([]:List UInt8)++40::(dW ts ts.length++ [41]))⟩ [] (Le.renSub [(31001,1001),(1001,31001)] [(1001,31001),(31001,1001)] (by simp[go_sem]) (by simp[go_sem]) (Le.sub4 rfl (by simp[go_sem]))) (by simp[go_sem]) ⟨rfl,rfl⟩
theorem cGd (t:Tm) (hb:(cK t).length≤3000000) (hne:cK t≠ []):MCall prog 132 [.ptr 1000 0 0,eT t] rA (fun r' o'=>r'= .tup []∧o'=iJ (cK t)):=by
 obtain⟨s,ts⟩:=t
 have hsl:=oY s
 by_cases h:ts.length=0
 ·have e:cK (.mk s ts)=cV s:=by rw[nZ,if_pos h]
  rw[e]at hb hne ⊢
  rw[hsl]at hb
  cases h0:cV s with
  |nil=>exact absurd h0 hne
  |cons c r=>exact cF9 s (by omega) c r h0 ts h
 ·cases h0:cV s with
  |nil=>exact cGc s ts h h0 hb
  |cons c r=>exact cGb s ts h c r h0 hb
theorem cGe (t:Tm) (he:cK t= []):MCall prog 132 [.ptr 1000 0 0,eT t] rA (fun r' o'=>r'= .tup []∧o'=nY):=by
 obtain⟨s,ts⟩:=t
 by_cases h:ts.length=0
 ·have e:cK (.mk s ts)=cV s:=by rw[nZ,if_pos h]
  rw[e]at he
  exact cGa s he ts h
 ·rw[nZ,if_neg h]at he
  simp at he
def kS (t:Tm):ByteArray:=⟨(cK t).toArray⟩
theorem aGl (t:Tm) (hb:(cK t).length≤3000000):ACall prog 93 [eT t] (fun r=>r= .sc (.string (kS t))):=by
 unfold kS
 by_cases h:cK t= []
 ·have hw:=cGe t h
  rw[h]
  refine bD func93 call93 rfl (by simp[ntmps93]) ?_;simp only[ntmps93,results93]
  repeat' (first|(refine aC fun _ _=>?_)|refine zHg ?_|simp(disch:=omega) [go_sem])
  refine bC [(1000,3)] [(3,1000)] 10000 _ _ (Fits.mk' (by simp[go_sem]) (by simp[go_sem])) (by simp[go_sem]) (by simp[go_sem]) (hw) (by simp[go_sem]) (by simp[go_sem]) ?_
  repeat' (first|(refine aC fun _ _=>?_)|refine zHg ?_|simp(disch:=omega) [go_sem])
  refine bC [(1000,3)] [(3,1000)] 20000 _ _ (Fits.mk' (by simp[go_sem]) (by simp[go_sem])) (by simp[go_sem]) (by simp[go_sem]) (cF8) (by simp[go_sem]) (by simp[go_sem]) ?_
  repeat' (first|refine zHg ?_|(refine aT [] ?_;simp[go_sem])|simp(disch:=omega) [go_sem])
 ·have hw:=cGd t hb h
  generalize cK t=x at*
  refine bD func93 call93 rfl (by simp[ntmps93]) ?_;simp only[ntmps93,results93]
  repeat' (first|(refine aC fun _ _=>?_)|refine zHg ?_|simp(disch:=omega) [go_sem])
  refine bC [(1000,3)] [(3,1000)] 10000 _ _ (Fits.mk' (by simp[go_sem]) (by simp[go_sem])) (by simp[go_sem]) (by simp[go_sem]) (hw) (by simp[go_sem]) (by simp[go_sem]) ?_
  repeat' (first|(refine aC fun _ _=>?_)|refine zHg ?_|simp(disch:=omega) [go_sem])
  refine bC [(1000,3),(1001,11001)] [(3,1000),(11001,1001)] 20000 _ _ (Fits.mk' (by simp[go_sem]) (by simp[go_sem])) (by simp[go_sem]) (by simp[go_sem]) (aGi x h (by omega)) (by simp[go_sem]) (by simp[go_sem]) ?_
  repeat' (first|refine zHg ?_|(refine aT [] ?_;simp[go_sem])|simp(disch:=omega) [go_sem])
def tL (l:List UInt8):ByteArray:=⟨l.toArray⟩
theorem aGm (s:ByteArray):tL (cV s)=s:=by unfold tL cV;rfl
def nc (b:UInt8):Prop:=b≠40∧b≠41∧b≠44
theorem X9 {b:UInt8} (h:b.toNat≠40∧b.toNat≠41∧b.toNat≠44):nc b:=by
 refine⟨?_,?_,?_⟩<;>(rintro rfl;simp at h)
theorem zF {s:ByteArray} {b:UInt8} (h:b∈cV s): ∃i,i<s.size∧bt s i=b.toNat:=by
 obtain⟨i,hi,rfl⟩:=List.mem_iff_getElem.1 h
 refine⟨i,by rw[oY]at hi;exact hi,?_⟩
 unfold bt cV at*
 rw[List.getD_eq_getElem?_getD,List.getElem?_eq_getElem hi]
 rfl
theorem Y0 {s:ByteArray} {p q r:Int×Int} (h:kO s p q r=true):(1≤s.size∧s.size≤16)∧(p.1≤bt s 0∧bt s 0≤p.2)∧ ∀i,i<s.size→(p.1≤bt s i∧bt s i≤p.2)∨(q.1≤bt s i∧bt s i≤q.2)∨(r.1≤bt s i∧bt s i≤r.2):=by
 unfold kO nW at h
 simp only[Bool.and_eq_true,decide_eq_true_eq,List.all_eq_true,List.mem_range,V0,U9]at h
 exact⟨h.1.1,h.1.2,h.2⟩
theorem Y1 {s:ByteArray} (h:lI s=true):(1≤s.size∧s.size≤16)∧(97≤bt s 0∧bt s 0≤122)∧ ∀b∈cV s,nc b:=by
 unfold lI at h
 simp only[Bool.and_eq_true]at h
 have hs:=Y0 h.1.1.1
 refine⟨hs.1,hs.2.1,fun b hb=>?_⟩
 obtain⟨i,hi,he⟩:=zF hb
 have:=hs.2.2 i hi
 exact X9 (by dsimp only at this;omega)
theorem aGn {s:ByteArray} (h:cA s=true):(1≤s.size∧s.size≤16)∧(65≤bt s 0∧bt s 0≤90)∧ ∀b∈cV s,nc b:=by
 unfold cA at h
 have hs:=Y0 h
 refine⟨hs.1,hs.2.1,fun b hb=>?_⟩
 obtain⟨i,hi,he⟩:=zF hb
 have:=hs.2.2 i hi
 exact X9 (by dsimp only at this;omega)
theorem cGf {s:ByteArray} (h:(fZ s).2=true):(1≤s.size∧s.size≤16)∧(48≤bt s 0∧bt s 0≤57)∧ ∀b∈cV s,nc b:=by
 unfold fZ at h
 split at h
 ·rename_i hc
  obtain⟨⟨h1,h2,_⟩,hd⟩:=hc
  unfold mA at hd
  simp only[List.all_eq_true,List.mem_range,decide_eq_true_eq]at hd
  refine⟨by omega,hd 0 (by omega),fun b hb=>?_⟩
  obtain⟨i,hi,he⟩:=zF hb
  have:=hd i hi
  exact X9 (by omega)
 ·cases h
theorem aGo {s:ByteArray} (h:pT s=true):(1≤s.size∧s.size≤16)∧(¬(65≤bt s 0∧bt s 0≤90))∧ ∀b∈cV s,nc b:=by
 unfold pT at h
 rw[Bool.or_eq_true]at h
 rcases h with h|h
 ·have:=Y1 h;exact⟨this.1,by omega,this.2.2⟩
 ·have:=cGf h;exact⟨this.1,by omega,this.2.2⟩
theorem cGg {s:ByteArray} (h:pT s=true):cA s=false:=by
 cases hv:cA s with
 |false=>rfl
 |true=>exact absurd (aGn hv).2.1 (aGo h).2.1
def oA (r:List UInt8):Prop:=r= []∨(∃q,r=41::q)∨ ∃q,r=44::q
def I8 (r:List UInt8):Prop:= ∀b q,r=b::q→ ¬nc b
theorem I9 {r:List UInt8} (h:oA r):I8 r:=by
 rintro b q rfl hn
 rcases h with h|⟨q',h⟩|⟨q',h⟩
 ·cases h
 ·cases h;exact hn.2.1 rfl
 ·cases h;exact hn.2.2 rfl
theorem zG: ∀{a b x y:List UInt8},(∀c∈a,nc c)→(∀c∈b,nc c)→I8 x→I8 y→a++x=b++y→a=b∧x=y
 | [],[],_,_,_,_,_,_,h=>⟨rfl,h⟩
 | [],d::b,x,y,_,hb,hx,_,h=>absurd (hb d (by simp)) (hx d (b++y) h)
 |c::a,[],x,y,ha,_,_,hy,h=>absurd (ha c (by simp)) (hy c (a++x) h.symm)
 |c::a,d::b,x,y,ha,hb,hx,hy,h=>by
  simp only[List.cons_append,List.cons.injEq]at h
  obtain⟨rfl,h⟩:=h
  obtain⟨rfl,rfl⟩:=zG (fun c hc=>ha c (List.mem_cons_of_mem _ hc)) (fun c hc=>hb c (List.mem_cons_of_mem _ hc)) hx hy h
  exact⟨rfl,rfl⟩
theorem Y2 {s s':ByteArray} (h:cV s=cV s'):s=s':=by
 rw[←aGm s,←aGm s',h]
theorem Y3 {lv:Int} {s:ByteArray} {ts:List Tm} (h:eW lv true (.mk s ts)=true):(∀c∈cV s,nc c)∧s.size≤16∧(ts.length≠0→gS (lv - 1) true ts=true):=by
 rw[tW]at h
 split at h
 ·cases h
 ·split at h
  ·rename_i h0
   simp only[Bool.true_and,Bool.or_eq_true]at h
   rcases h with h|h
   ·have:=aGo h;exact⟨this.2.2,this.1.2,fun e=>absurd h0 e⟩
   ·have:=aGn h;exact⟨this.2.2,this.1.2,fun e=>absurd h0 e⟩
  ·rw[Bool.and_eq_true]at h
   have:=Y1 h.1;exact⟨this.2.2,this.1.2,fun _=>h.2⟩
theorem cGh {ts:List Tm}: ∀{us:List Tm} {lv lv':Int} {r r':List UInt8},
 (∀t∈ts,∀(u:Tm) (lv lv':Int) (r r':List UInt8),eW lv true t=true→eW lv' true u=true→oA r→oA r'→cK t++r=cK u++r'→t=u∧r=r')→
 gS lv true ts=true→gS lv' true us=true→cZ ts++41::r=cZ us++41::r'→ts=us∧r=r':=by
 induction ts with
 |nil=>
  intro us lv lv' r r' _ _ _ h
  cases us with
  |nil=>simp[cZ]at h;exact⟨rfl,h⟩
  |cons u us=>simp[cZ]at h
 |cons t ts ih2=>
  intro us lv lv' r r' ih h1 h2 h
  cases us with
  |nil=>simp[cZ]at h
  |cons u us=>
   simp only[gS,Bool.and_eq_true]at h1 h2
   simp only[cZ,List.cons_append,List.append_assoc,List.cons.injEq,true_and]at h
   have hok: ∀(l:List Tm) (q:List UInt8),oA (cZ l++41::q):=fun l q=>by
    cases l with
    |nil=>exact .inr (.inl ⟨q,rfl⟩)
    |cons v l=>exact .inr (.inr ⟨cK v++cZ l++41::q,by simp[cZ]⟩)
   obtain⟨rfl,he⟩:=ih t (by simp) u lv lv' _ _ h1.1 h2.1 (hok _ _) (hok _ _) h
   obtain⟨rfl,rfl⟩:=ih2 (fun v hv=>ih v (List.mem_cons_of_mem _ hv)) h1.2 h2.2 he
   exact⟨rfl,rfl⟩
theorem Y4 {ts:List Tm} (h:ts.length≠0):cZ ts=44::(cZ ts).tail:=by
 cases ts with
 |nil=>simp at h
 |cons t r=>rfl
theorem cGi: ∀t:Tm,∀(u:Tm) (lv lv':Int) (r r':List UInt8),eW lv true t=true→eW lv' true u=true→oA r→oA r'→cK t++r=cK u++r'→t=u∧r=r':=by
 refine dS fun t ih u lv lv' r r' h1 h2 hr hr' h=>?_
 obtain⟨s,ts⟩:=t
 obtain⟨s',us⟩:=u
 simp only[cT]at ih
 have w1:=Y3 h1
 have w2:=Y3 h2
 rw[nZ,nZ]at h
 have st: ∀x:List UInt8,I8 (40::x):=fun x b q e hn=>by cases e;exact hn.1 rfl
 by_cases h0:ts.length=0
 ·rw[if_pos h0]at h
  have e0:=List.eq_nil_of_length_eq_zero h0
  subst e0
  by_cases k0:us.length=0
  ·rw[if_pos k0]at h
   have e0:=List.eq_nil_of_length_eq_zero k0
   subst e0
   obtain⟨e1,e2⟩:=zG w1.1 w2.1 (I9 hr) (I9 hr') h
   exact⟨by rw[Y2 e1],e2⟩
  ·rw[if_neg k0,List.append_assoc,List.cons_append]at h
   obtain⟨e1,e2⟩:=zG w1.1 w2.1 (I9 hr) (st _) h
   rcases hr with rfl|⟨q,rfl⟩|⟨q,rfl⟩<;>simp at e2
 ·rw[if_neg h0]at h
  by_cases k0:us.length=0
  ·rw[if_pos k0,List.append_assoc,List.cons_append]at h
   obtain⟨e1,e2⟩:=zG w1.1 w2.1 (st _) (I9 hr') h
   rcases hr' with rfl|⟨q,rfl⟩|⟨q,rfl⟩<;>simp at e2
  ·rw[if_neg k0,List.append_assoc,List.append_assoc,List.cons_append,List.cons_append]at h
   obtain⟨e1,e2⟩:=zG w1.1 w2.1 (st _) (st _) h
   simp only[List.cons.injEq,true_and,List.append_assoc,List.cons_append,List.nil_append]at e2
   have e3:cZ ts++41::r=cZ us++41::r':=by
    rw[Y4 h0,Y4 k0,List.cons_append,List.cons_append,e2]
   obtain⟨rfl,rfl⟩:=cGh ih (w1.2.2 h0) (w2.2.2 k0) e3
   exact⟨by rw[Y2 e1],rfl⟩
theorem aGp {t u:Tm} {lv lv':Int} (h1:eW lv true t=true) (h2:eW lv' true u=true):cK t=cK u↔t=u:=by
 constructor
 ·intro h
  exact(cGi t u lv lv' [] [] h1 h2 (.inl rfl) (.inl rfl) (by rw[h])).1
 ·rintro rfl;rfl
theorem zH: ∀t:Tm,(cX t).length≤t.size:=by
 refine dS fun t ih=>?_
 obtain⟨s,ts⟩:=t
 simp only[cT]at ih
 rw[lK,Tm.size]
 split
 ·simp
 ·rename_i h0;clear h0
  induction ts with
  |nil=>simp[cE]
  |cons u r ih2=>
   have h1:=ih u (by simp)
   have h2:=ih2 fun v hv=>ih v (List.mem_cons_of_mem _ hv)
   simp only[cE,cU,List.length_append];omega
theorem aGq: ∀t:Tm,∀lv:Int,eW lv true t=true→(cK t).length+1≤20*t.size:=by
 refine dS fun t ih lv h=>?_
 obtain⟨s,ts⟩:=t
 simp only[cT]at ih
 have w:=Y3 h
 rw[nZ,Tm.size]
 have hs:=oY s
 split
 ·omega
 ·rename_i h0
  have hw:=w.2.2 h0
  have hS:(cZ ts).length≤20*cU ts:=by
   clear h0 h w
   induction ts with
   |nil=>simp[cZ]
   |cons u r ih2=>
    simp only[gS,Bool.and_eq_true]at hw
    have h1:=ih u (by simp) _ hw.1
    have h2:=ih2 (fun v hv=>ih v (List.mem_cons_of_mem _ hv)) hw.2
    simp only[cZ,cU,List.length_cons,List.length_append];omega
  have:=Y4 h0
  have h3:(cZ ts).length=(cZ ts).tail.length+1:=by rw[this];rfl
  simp only[List.length_append,List.length_cons,List.length_nil]
  have:=w.2.1
  omega
def iW {α:Type}:Nat→Nat→List α→List (List α)
 |0,_,l=> [l]
 |k+1,a,l=>(List.range (k+1)).flatMap fun d=>iW k (a+1) (fC l a (a+d))
theorem vZ {α:Type}: ∀(k a:Nat) (l m:List α),a+k=l.length→(m∈iW k a l↔m.Perm l∧m.take a=l.take a)
 |0,a,l,m,h=>by
  rw[iW,List.mem_singleton]
  constructor
  ·rintro rfl;exact⟨.refl _,rfl⟩
  ·rintro⟨h1,h2⟩
   have hml:=h1.length_eq
   rw[List.take_of_length_le (by omega),List.take_of_length_le (by omega)]at h2
   exact h2
 |k+1,a,l,m,h=>by
  have ha:a<l.length:=by omega
  rw[iW,List.mem_flatMap]
  constructor
  ·rintro⟨d,hd,hm⟩
   rw[List.mem_range]at hd
   have hl:(fC l a (a+d)).length=l.length:=vQ _ _ _
   obtain⟨h1,h2⟩:=(vZ k (a+1) _ m (by omega)).1 hm
   have hk:Keep l (fC l a (a+d)) a l.length:=yQ ⟨Nat.le_refl _,ha⟩ ⟨by omega,by omega⟩
   refine⟨h1.trans hk.perm,?_⟩
   have h3:=congrArg (List.take a) h2
   rw[List.take_take,List.take_take,Nat.min_eq_left (by omega)]at h3
   rw[h3]
   refine List.ext_getElem? fun i=>?_
   rw[List.getElem?_take,List.getElem?_take]
   split
   ·exact hk.out i (.inl (by assumption))
   ·rfl
  ·rintro⟨h1,h2⟩
   have hml:=h1.length_eq
   have e1:=(List.take_append_drop a l).symm
   have e2:=(List.take_append_drop a m).symm
   have hp:(m.drop a).Perm (l.drop a):=by
    rw[e1,e2,h2]at h1
    exact(List.perm_append_left_iff _).1 h1
   have hma:a<m.length:=by omega
   have hx:m[a]∈l.drop a:=hp.mem_iff.1 (by rw[List.drop_eq_getElem_cons hma];exact List.mem_cons_self)
   obtain⟨d,hd,hde⟩:=List.mem_iff_getElem.1 hx
   rw[List.length_drop]at hd
   rw[List.getElem_drop]at hde
   have hk:Keep l (fC l a (a+d)) a l.length:=yQ ⟨Nat.le_refl _,ha⟩ ⟨by omega,by omega⟩
   have hl:(fC l a (a+d)).length=l.length:=vQ _ _ _
   refine⟨d,List.mem_range.2 (by omega),(vZ k (a+1) _ m (by omega)).2 ⟨h1.trans hk.perm.symm,?_⟩⟩
   have ha2:a<(fC l a (a+d)).length:=by omega
   rw[iT hma,iT ha2,h2]
   congr 1
   ·refine List.ext_getElem? fun i=>?_
    rw[List.getElem?_take,List.getElem?_take]
    split
    ·exact(hk.out i (.inl (by assumption))).symm
    ·rfl
   ·congr 1
    have h5:=tU (l:=l) (i:=a) (j:=a+d) ha (by omega) a
    rw[List.getElem?_eq_getElem ha2,List.getElem?_eq_getElem (by omega:a+d<l.length)]at h5
    rw[←hde]
    by_cases h0:a=a+d
    ·rw[if_pos h0,List.getElem?_eq_getElem ha]at h5
     have h6:=Option.some.inj h5
     rw[h6]
     simp only[show a+d=a from h0.symm]
    ·rw[if_neg h0,if_pos rfl]at h5
     rw[Option.some.inj h5]
mutual
def cF (s:List Bd):Tm→Tm
 | .mk n ts=>if ts.length=0∧cA n=true then(fH s n).getD (.mk n ts)else .mk n (J0 s ts)
def J0 (s:List Bd):List Tm→List Tm
 | []=> []
 |t::r=>cF s t::J0 s r
end
theorem aGr {s:List Bd}: ∀{l:List Tm},J0 s l=l.map (cF s)
 | []=>rfl
 |t::r=>by rw[J0,aGr];rfl
theorem Y5 {s:List Bd} {n:ByteArray} {ts:List Tm}:cF s (.mk n ts)=if ts.length=0∧cA n=true then(fH s n).getD (.mk n ts)else .mk n (ts.map (cF s)):=by
 rw[cF,aGr]
def dA (s:List Bd) (b:Lt):Lt:=⟨b.neg,cF s b.atom⟩
def iC (s:List Bd) (r:Rl):Rl:=⟨cF s r.head,r.body.map (dA s)⟩
def mC (s:List Bd) (v:ByteArray):ByteArray:=match fH s v with
 |some t=>t.name
 |none=>v
theorem aGs {s:List Bd} (hs: ∀b∈s,b.t.args= []): ∀t:Tm,cF s t=dP (mC s) t:=by
 refine dS fun t ih=>?_
 obtain⟨n,ts⟩:=t
 simp only[cT]at ih
 rw[Y5,oX]
 by_cases h0:ts.length=0
 ·obtain rfl:=List.eq_nil_of_length_eq_zero h0
  by_cases hv:cA n=true
  ·rw[if_pos ⟨h0,hv⟩,if_pos h0,if_pos hv]
   unfold mC
   cases hq:fH s n with
   |none=>rfl
   |some t=>
    unfold fH at hq
    obtain⟨b,hb,rfl⟩:=Option.map_eq_some_iff.1 hq
    have:=hs b (List.mem_of_find?_eq_some hb)
    show b.t= .mk b.t.name []
    rw[←this];cases b.t;rfl
  ·rw[if_neg (fun h=>hv h.2),if_pos h0,if_neg hv];rfl
 ·rw[if_neg (fun h=>h0 h.1),if_neg h0]
  congr 1
  exact List.map_congr_left fun u hu=>ih u hu
theorem J1 {s:List Bd} (hs: ∀b∈s,b.t.args= []) (r:Rl):iC s r=fK (mC s) r:=by
 unfold iC fK dA uG
 rw[aGs hs]
 simp only[aGs hs]
def aW (vs l:List ByteArray):List Bd:=List.zipWith (fun v n=>⟨v,.mk n []⟩) vs l
theorem zI {vs l:List ByteArray}: ∀b∈aW vs l,b.t.args= []:=by
 intro b hb
 unfold aW at hb
 rw[List.mem_iff_getElem]at hb
 obtain⟨i,hi,rfl⟩:=hb
 rw[List.getElem_zipWith];rfl
theorem aGt {v n:ByteArray} {vs l:List ByteArray}:aW (v::vs) (n::l)=⟨v,.mk n []⟩::aW vs l:=rfl
theorem aGu {v n:ByteArray} {s:List Bd} {w:ByteArray}:mC (⟨v,.mk n []⟩::s) w=if v=w then n else mC s w:=by
 unfold mC fH
 rw[List.find?_cons]
 by_cases h:v=w<;>simp[h]
 rfl
theorem zJ: ∀{vs l:List ByteArray},vs.Nodup→vs.length=l.length→vs.map (mC (aW vs l))=l
 | [],[],_,_=>rfl
 | [],_::_,_,h=>by simp at h
 |_::_,[],_,h=>by simp at h
 |v::vs,n::l,hn,h=>by
  obtain⟨h1,h2⟩:=List.nodup_cons.1 hn
  rw[aGt,List.map_cons,aGu,if_pos rfl]
  congr 1
  rw[←zJ (l:=l) h2 (by simpa using h)]
  refine List.map_congr_left fun w hw=>?_
  rw[aGu,if_neg (by rintro rfl;exact h1 hw),zJ h2 (by simpa using h)]
def dF (r:Rl) (vs l:List ByteArray):Rl:=iV (iC (aW vs l) r)
theorem cGj {r:Rl} {vs:List ByteArray} (hv:vs.Perm (bQ r)) (x:Rl):uH r x↔ ∃l,l.Perm (gT (bQ r).length)∧x=dF r vs l:=by
 have hn:vs.Nodup:=hv.nodup_iff.2 (vX r)
 constructor
 ·rintro⟨f,h1,h2⟩
  refine⟨vs.map f,(hv.map f).trans h1,?_⟩
  rw[h2]
  unfold dF
  rw[J1 zI]
  congr 1
  refine aGd fun v hm=>?_
  have h3:=zJ (l:=vs.map f) hn (by simp)
  exact(List.map_inj_left.1 h3 v (hv.mem_iff.2 hm)).symm
 ·rintro⟨l,h1,h2⟩
  have hl:vs.length=l.length:=by rw[h1.length_eq,pX,hv.length_eq]
  refine⟨mC (aW vs l),?_,?_⟩
  ·have h3:=zJ hn hl
   exact(hv.symm.map _).trans (by rw[h3];exact h1)
  ·rw[h2]
   unfold dF
   rw[J1 zI]
def zR:Rl:=⟨.mk ⟨#[]⟩ [],[]⟩
def J2 (L:List Rl):Rl:=match L with
 | []=>zR
 |a::l=>jI dJ a l
theorem cGk {A B:List Rl} (h: ∀x,x∈A↔x∈B):J2 A=J2 B:=by
 cases A with
 |nil=>
  cases B with
  |nil=>rfl
  |cons b m=>exact absurd ((h b).2 (by simp)) (by simp)
 |cons a l=>
  cases B with
  |nil=>exact absurd ((h a).1 (by simp)) (by simp)
  |cons b m=>exact cEt qZ h
theorem cGl {A:List Rl} (h:A≠ []):J2 A∈A:=by
 cases A with
 |nil=>exact absurd rfl h
 |cons a l=>
  rcases(yX qZ l a).1 with e|e
  ·show jI dJ a l∈_;rw[e];simp
  ·show jI dJ a l∈_;simp[e]
def pZ (r:Rl):List ByteArray:=eH cD (bQ r)
def eU (r:Rl):Rl:=J2 ((iW (bQ r).length 0 (gT (bQ r).length)).map (dF r (pZ r)))
theorem rC:Tot cD:=⟨aFl,H1,aFs,fun _ _=>sH⟩
theorem J3 (r:Rl):(pZ r).Perm (bQ r):=by
 refine W9 ((uB rC _).imp fun {a b} h=>?_) (vX r) (sK rC _)
 rintro rfl
 rw[rC.self]at h;omega
theorem Y6 {r:Rl} {x:Rl}:x∈(iW (bQ r).length 0 (gT (bQ r).length)).map (dF r (pZ r))↔uH r x:=by
 rw[cGj (J3 r),List.mem_map]
 constructor
 ·rintro⟨l,h1,rfl⟩
  exact⟨l,((vZ _ 0 _ _ (by rw[pX];omega)).1 h1).1,rfl⟩
 ·rintro⟨l,h1,rfl⟩
  exact⟨l,(vZ _ 0 _ _ (by rw[pX];omega)).2 ⟨h1,rfl⟩,rfl⟩
theorem cGm {r r':Rl} (h: ∀x,uH r x↔uH r' x):eU r=eU r':=
 cGk fun x=>by rw[Y6,Y6,h]
theorem aGv (r:Rl):uH r (eU r):=by
 refine Y6.1 (cGl fun h=>?_)
 have:dF r (pZ r) (gT (bQ r).length)∈(iW (bQ r).length 0 (gT (bQ r).length)).map (dF r (pZ r)):=
  List.mem_map.2 ⟨_,(vZ _ 0 _ _ (by rw[pX];omega)).2 ⟨.refl _,rfl⟩,rfl⟩
 rw[h]at this
 simp at this
open Go.Ab
set_option maxRecDepth 100000
set_option maxHeartbeats 8000000
theorem cGn (a b:Lt):bU a b=if a.neg=b.neg then eF a.atom b.atom else if b.neg=true then -1 else 1:=by
 obtain⟨p,t⟩:=a
 obtain⟨q,u⟩:=b
 unfold bU
 cases p<;>cases q<;>simp[nb,dI,eA]
theorem Y7 (a b:Lt):ACall prog 30 [bW a,bW b] (fun r=>r=nt .i64 (bU a b)):=by
 have h:=aFp a.atom b.atom
 rw[cGn]
 obtain⟨p,t⟩:=a
 obtain⟨q,u⟩:=b
 dsimp only at*
 generalize eF t u=c at*
 cases p<;>cases q<;>simp only[if_true,if_false,Bool.false_eq_true,Bool.true_eq_false]
 ·refine bD func30 call30 rfl (by simp[ntmps30]) ?_;simp only[ntmps30,results30]
  repeat' (first|(refine aC fun _ _=>?_)|refine zHg ?_|(refine aT [] ?_;simp[go_sem])|refine aP rfl (h) (by simp) ?_|simp(disch:=omega) [go_sem])
 ·refine bD func30 call30 rfl (by simp[ntmps30]) ?_;simp only[ntmps30,results30]
  repeat' (first|(refine aC fun _ _=>?_)|refine zHg ?_|(refine aT [] ?_;simp[go_sem])|simp(disch:=omega) [go_sem])
 ·refine bD func30 call30 rfl (by simp[ntmps30]) ?_;simp only[ntmps30,results30]
  repeat' (first|(refine aC fun _ _=>?_)|refine zHg ?_|(refine aT [] ?_;simp[go_sem])|simp(disch:=omega) [go_sem])
 ·refine bD func30 call30 rfl (by simp[ntmps30]) ?_;simp only[ntmps30,results30]
  repeat' (first|(refine aC fun _ _=>?_)|refine zHg ?_|(refine aT [] ?_;simp[go_sem])|refine aP rfl (h) (by simp) ?_|simp(disch:=omega) [go_sem])
theorem cGo (x y:Int) (le fu:Bool):ACall prog 27 [.list le fu [nt .i64 x,nt .i64 y]] (fun r=>r=nt .i64 (eA x y)):=by
 generalize hV:eA x y=V
 unfold eA at hV
 refine bD func27 call27 rfl (by simp[ntmps27]) ?_;simp only[ntmps27,results27]
 repeat' (first|(refine aC fun _ _=>?_)|refine zHg ?_|simp(disch:=omega) [go_sem])
 refine bR [3,6,7] [] (fun i:Nat=> [(8,nt .i64 i)]) (fun i:Nat=> []) (fun i:Nat=>2 - i) (fun i:Nat=>i≤2∧(1≤i→x=0)∧(2≤i→y=0)) (0) (Le.sub4 rfl (by simp[go_sem])) ⟨?_⟩ ?_
 ·exact⟨by omega,fun h=>by omega,fun h=>by omega⟩
 intro i ⟨hi,h1,h2⟩ AA hAA;simp only[kL,Nat.reduceBEq,Nat.reduceEqDiff,if_true,if_false,List.cons_append,List.nil_append,List.append_nil]
 have hc:i=0∨i=1∨i=2:=by omega
 rcases hc with rfl|rfl|rfl
 ·by_cases hx:x=0
  ·subst hx
   repeat' (first|(refine aC fun _ _=>?_)|refine zHg ?_|(refine(hAA.next (1) (Le.sub4 rfl (by simp[go_sem])) (by(try dsimp only);omega) ?_))|simp(disch:=omega) [go_sem])
   all_goals(first|omega|skip)
   all_goals exact⟨by omega,fun _=>rfl,fun h=>by omega⟩
  ·rw[if_pos hx]at hV
   subst hV
   repeat' (first|(refine aC fun _ _=>?_)|refine zHg ?_|(refine aT [] ?_;simp[go_sem,hx])|simp(disch:=omega) [go_sem,hx])
 ·obtain rfl:=h1 (Nat.le_refl _)
  simp only[ne_eq,not_true_eq_false,if_false]at hV
  subst hV
  by_cases hy:y=0
  ·subst hy
   repeat' (first|(refine aC fun _ _=>?_)|refine zHg ?_|(refine(hAA.next (2) (Le.sub4 rfl (by simp[go_sem])) (by(try dsimp only);omega) ?_))|simp(disch:=omega) [go_sem])
   all_goals(first|omega|skip)
   all_goals exact⟨by omega,fun _=>rfl,fun _=>rfl⟩
  ·repeat' (first|(refine aC fun _ _=>?_)|refine zHg ?_|(refine aT [] ?_;simp[go_sem,hy])|simp(disch:=omega) [go_sem,hy])
 ·obtain rfl:=h1 (by omega)
  obtain rfl:=h2 (Nat.le_refl _)
  simp only[ne_eq,not_true_eq_false,if_false]at hV
  subst hV
  repeat' (first|(refine aC fun _ _=>?_)|refine zHg ?_|(refine aT [] ?_;simp[go_sem])|simp(disch:=omega) [go_sem])
theorem cGp {α:Type} {c:α→α→Int} {a b:List α} {i:Nat} (ha:i<a.length) (hb:i<b.length):eG c (a.drop i) (b.drop i)=eA (c a[i] b[i]) (eG c (a.drop (i+1)) (b.drop (i+1))):=by
 rw[List.drop_eq_getElem_cons ha,List.drop_eq_getElem_cons hb,aFu]
theorem cGq (a b:List Lt) (le fu le' fu':Bool):ACall prog 29 [.list le fu (a.map bW),.list le' fu' (b.map bW),.clo 30 []] (fun r=>r=nt .i64 (eG bU a b)):=by
 refine ACall.bound (i:=0) rfl call29 fun hba=>?_
 refine ACall.bound (i:=1) rfl call29 fun hbb=>?_
 rw[List.length_map]at hba hbb
 have hba:a.length≤140737488355328:=hba
 have hbb:b.length≤140737488355328:=hbb
 generalize hV:eG bU a b=V
 refine bD func29 call29 rfl (by simp[ntmps29]) ?_;simp only[ntmps29,results29]
 repeat' (first|(refine aC fun _ _=>?_)|refine zHg ?_|simp(disch:=omega) [go_sem])
 refine bR [0,1,2,11,12] [] (fun i:Nat=> [(13,nt .i64 i)]) (fun i:Nat=> []) (fun i:Nat=>a.length - i) (fun i:Nat=>i≤a.length∧i≤b.length∧eG bU (a.drop i) (b.drop i)=V) (0) (Le.sub4 rfl (by simp[go_sem])) ⟨?_⟩ ?_
 ·exact⟨Nat.zero_le _,Nat.zero_le _,hV⟩
 clear hV
 intro i ⟨hi,hj,hV⟩ AA hAA;simp only[kL,Nat.reduceBEq,Nat.reduceEqDiff,if_true,if_false,List.cons_append,List.nil_append,List.append_nil]
 by_cases hlt:i<a.length
 ·by_cases hjl:i<b.length
  ·have hc:=Y7 a[i] b[i]
   rw[cGp hlt hjl]at hV
   by_cases hz:bU a[i] b[i]=0
   ·rw[hz]at hV hc
    repeat' (first|(refine aC fun _ _=>?_)|refine zHg ?_|(refine zqd ?_ ?_<;>(intro h;first|(exfalso;omega)|(simp only[h,zT])))|refine aP rfl (hc) (by simp) ?_|(refine(hAA.next (i+1) (Le.sub4 rfl (by simp[go_sem])) (by(try dsimp only);omega) ?_))|simp(disch:=omega) [go_sem,hlt,hjl])
    all_goals(first|omega|skip)
    all_goals exact⟨hlt,hjl,by simpa[eA]using hV⟩
   ·have hV':bU a[i] b[i]=V:=by rw[←hV];unfold eA;rw[if_pos hz]
    rw[hV']at hc hz
    clear hV hV'
    repeat' (first|(refine aC fun _ _=>?_)|refine zHg ?_|(refine zqd ?_ ?_<;>(intro h;first|(exfalso;omega)|(simp only[h,zT])))|(refine aT [] ?_;simp[go_sem,hlt,hjl,hz])|refine aP rfl (hc) (by simp) ?_|simp(disch:=omega) [go_sem,hlt,hjl,hz])
  ·obtain rfl:i=b.length:=by omega
   rw[List.drop_length,List.drop_eq_getElem_cons hlt]at hV
   have hV:(1:Int)=V:=hV
   subst hV
   repeat' (first|(refine aC fun _ _=>?_)|refine zHg ?_|(refine aT [] ?_;simp[go_sem,hlt,hjl])|simp(disch:=omega) [go_sem,hlt,hjl])
 ·obtain rfl:i=a.length:=by omega
  rw[List.drop_length]at hV
  by_cases hjl:a.length<b.length
  ·rw[List.drop_eq_getElem_cons hjl]at hV
   have hV:(-1:Int)=V:=hV
   subst hV
   repeat' (first|(refine aC fun _ _=>?_)|refine zHg ?_|(refine aT [] ?_;simp[go_sem,hjl])|simp(disch:=omega) [go_sem,hjl])
  ·rw[List.drop_of_length_le (by omega)]at hV
   have hV:(0:Int)=V:=hV
   subst hV
   have hjl': ¬((a.length:Int)<b.length):=by omega
   repeat' (first|(refine aC fun _ _=>?_)|refine zHg ?_|(refine aT [] ?_;simp[go_sem,hjl'])|simp(disch:=omega) [go_sem,hjl'])
abbrev kT (le fu:Bool) (x:Rl):AV:= .agg [.sc (.string x.head.name),.list false false (x.head.args.map bO),.list le fu (x.body.map bW)]
theorem qA (a b:Rl) (le fu le' fu':Bool):ACall prog 12 [kT le fu a,kT le' fu' b] (fun r=>r=nt .i64 (dJ a b)):=by
 have h1:=aFp a.head b.head
 have h2:=cGq a.body b.body le fu le' fu'
 have h3:=cGo (eF a.head b.head) (eG bU a.body b.body) true false
 unfold dJ
 generalize eA (eF a.head b.head) (eG bU a.body b.body)=V at*
 generalize eF a.head b.head=x at*
 generalize eG bU a.body b.body=y at*
 refine bD func12 call12 rfl (by simp[ntmps12]) ?_;simp only[ntmps12,results12]
 have hlenT:True:=trivial
 repeat' (first|(refine aC fun _ _=>?_)|refine zHg ?_|(refine aT [] ?_;simp[go_sem,hlenT])|refine cP rfl (h1) rfl (by simp) ?_|refine cP rfl (h2) rfl (by simp) ?_|refine aP rfl (h3) (by simp) ?_|simp(disch:=omega) [go_sem,hlenT]|refine zDr 10 bE ?_|fail)
abbrev J4:ByteArray:=⟨#[100,105,115,116,105,110,99,116]⟩
abbrev aGw:ByteArray:=⟨#[105,110,105,116]⟩
abbrev aGx:ByteArray:=⟨#[110,101,120,116]⟩
abbrev zK:ByteArray:=⟨#[116,114,117,101]⟩
abbrev aGy:ByteArray:=⟨#[108,101,103,97,108]⟩
abbrev Y8:ByteArray:=⟨#[100,111,101,115]⟩
def rD (r:List Bd×Bool) (nx:List (List Bd)):List (List Bd):=if r.2=true then nx++ [r.1]else nx
def iK (a:Tm) (s:List Bd):List Tm→List (List Bd)→Int→Option (List (List Bd))×Int
 | [],nx,lf=>(some nx,lf)
 |t::ts,nx,lf=>if t.name=a.name∧t.args.length=a.args.length then
  (if lf - 1<0∨5000<(rD (eX a t s) nx).length then(none,lf - 1)else iK a s ts (rD (eX a t s) nx) (lf - 1))
  else iK a s ts nx lf
def oB (a:Tm) (A:List Tm):List (List Bd)→List (List Bd)→Int→Option (List (List Bd))×Int
 | [],nx,lf=>(some nx,lf)
 |s::ss,nx,lf=>match iK a s A nx lf with
  |(some nx',lf')=>oB a A ss nx' lf'
  |(none,lf')=>(none,lf')
def gU (A:List Tm):List Lt→List (List Bd)→Int→Option (List (List Bd))×Int
 | [],out,lf=>(some out,lf)
 |b::bs,out,lf=>if b.neg=true∨b.atom.name=J4 then gU A bs out lf else match oB b.atom A out [] lf with
  |(some nx,lf')=>gU A bs nx lf'
  |(none,lf')=>(none,lf')
def mD (q M k:Nat) (W:List (List Bd)):Prop:= ∀s∈W,mY q M s∧s.length≤k
def mE (q M:Nat) (A:List Tm):Prop:= ∀t∈A,eE q M t∧t.depth≤4
theorem Y9 {q M k:Nat} {a:Tm} {s:List Bd} (hs:mY q M s∧s.length≤k): ∀{A:List Tm} {nx:List (List Bd)} {lf:Int},mE q M A→mD q M (k+a.size) nx→nx.length≤5000→0≤lf→
 (iK a s A nx lf).2≤lf∧ -1≤(iK a s A nx lf).2∧ ∀nx',(iK a s A nx lf).1=some nx'→mD q M (k+a.size) nx'∧nx'.length≤5000∧0≤(iK a s A nx lf).2
 | [],nx,lf,_,hn,hl,h0=>⟨Int.le_refl _,by show(-1:Int)≤lf;omega,fun nx' h=>by
  obtain rfl:=Option.some.inj h
  exact⟨hn,hl,h0⟩⟩
 |t::ts,nx,lf,hA,hn,hl,h0=>by
  have hA':mE q M ts:=fun u hu=>hA u (by simp[hu])
  obtain⟨ht,hd⟩:=hA t (by simp)
  unfold iK
  split
  ·split
   ·exact⟨by show lf - 1≤lf;omega,by show(-1:Int)≤lf - 1;omega,fun _ h=>by cases h⟩
   ·rename_i he hc
    rw[not_or]at hc
    obtain⟨b1,b2⟩:=aF9 a t s ht hd (fun hu=>by
     have h0:t.args.length=0:=by
      unfold mX at hu
      rw[Bool.and_eq_true,decide_eq_true_eq]at hu
      rw[he.2];exact hu.1
     rw[pS,List.eq_nil_of_length_eq_zero h0]
     simp[eV]) hs.1
    have hn':mD q M (k+a.size) (rD (eX a t s) nx):=by
     unfold rD
     split
     ·intro u hu
      rcases List.mem_append.1 hu with hu|hu
      ·exact hn u hu
      ·obtain rfl:=List.mem_singleton.1 hu
       exact⟨b1,by omega⟩
     ·exact hn
    obtain⟨c1,c2,c3⟩:=Y9 hs (A:=ts) hA' hn' (by omega) (show 0≤lf - 1 by omega)
    exact⟨by omega,c2,c3⟩
  ·exact Y9 hs hA' hn hl h0
theorem aGz {q M k:Nat} {a:Tm} {A:List Tm} (hA:mE q M A): ∀{W nx:List (List Bd)} {lf:Int},mD q M k W→mD q M (k+a.size) nx→nx.length≤5000→0≤lf→
 (oB a A W nx lf).2≤lf∧ -1≤(oB a A W nx lf).2∧ ∀nx',(oB a A W nx lf).1=some nx'→mD q M (k+a.size) nx'∧nx'.length≤5000∧0≤(oB a A W nx lf).2
 | [],nx,lf,_,hn,hl,h0=>⟨Int.le_refl _,by show(-1:Int)≤lf;omega,fun nx' h=>by
  obtain rfl:=Option.some.inj h
  exact⟨hn,hl,h0⟩⟩
 |s::ss,nx,lf,hW,hn,hl,h0=>by
  obtain⟨a1,a2,a3⟩:=Y9 (hW s (by simp)) hA hn hl h0
  unfold oB
  split
  ·rename_i nx' lf' he
   rw[he]at a1 a2 a3
   obtain⟨b1,b2,b3⟩:=a3 nx' rfl
   dsimp only at a1 a2 b3
   obtain⟨c1,c2,c3⟩:=aGz hA (W:=ss) (fun u hu=>hW u (by simp[hu])) b1 b2 b3
   exact⟨by omega,c2,c3⟩
  ·rename_i lf' he
   rw[he]at a1 a2
   exact⟨a1,a2,fun _ h=>by cases h⟩
def J5:List Lt→Nat
 | []=>0
 |b::bs=>b.atom.size+J5 bs
theorem Z0 {q M:Nat} {A:List Tm} (hA:mE q M A): ∀{B:List Lt} {k:Nat} {W:List (List Bd)} {lf:Int},mD q M k W→W.length≤5000→0≤lf→
 (gU A B W lf).2≤lf∧ -1≤(gU A B W lf).2∧ ∀W',(gU A B W lf).1=some W'→mD q M (k+J5 B) W'∧W'.length≤5000∧0≤(gU A B W lf).2
 | [],k,W,lf,hW,hl,h0=>⟨Int.le_refl _,by show(-1:Int)≤lf;omega,fun nx' h=>by
  obtain rfl:=Option.some.inj h
  exact⟨hW,hl,h0⟩⟩
 |b::bs,k,W,lf,hW,hl,h0=>by
  unfold gU
  have up: ∀{j i:Nat} {W:List (List Bd)},mD q M j W→j≤i→mD q M i W:=fun h hji s hs=>⟨(h s hs).1,Nat.le_trans (h s hs).2 hji⟩
  split
  ·obtain⟨c1,c2,c3⟩:=Z0 hA (B:=bs) hW hl h0
   exact⟨c1,c2,fun W' h=>⟨up (c3 W' h).1 (by rw[J5];omega),(c3 W' h).2⟩⟩
  ·obtain⟨a1,a2,a3⟩:=aGz (a:=b.atom) hA (nx:= []) hW (fun s hs=>by simp at hs) (by simp) h0
   split
   ·rename_i nx lf' he
    rw[he]at a1 a2 a3
    obtain⟨b1,b2,b3⟩:=a3 nx rfl
    dsimp only at a1 a2 b3
    obtain⟨c1,c2,c3⟩:=Z0 hA (B:=bs) b1 b2 b3
    exact⟨by omega,c2,fun W' h=>⟨up (c3 W' h).1 (by rw[J5];omega),(c3 W' h).2⟩⟩
   ·rename_i lf' he
    rw[he]at a1 a2
    exact⟨a1,a2,fun _ h=>by cases h⟩
def oZ (h:Tm) (W:List (List Bd)):List Tm:=W.filterMap fun s=>if(gL h s).2=true then some (gL h s).1 else none
def qB (A:List Tm):List Rl→List Tm→Int→Option (List Tm)×Int
 | [],m,lf=>(some m,lf)
 |r::rs,m,lf=>match gU A r.body [[]] lf with
  |(some W,lf')=>qB A rs (m++oZ r.head W) lf'
  |(none,lf')=>(none,lf')
def jU (t:Tm):List Tm:=if t.args.length=1∧(t.name=aGw∨t.name=aGx)then[.mk zK t.args]else if t.args.length=2∧t.name=aGy then[.mk Y8 t.args]else[]
def oC (A:List Tm):List Tm:=A.flatMap jU
def gM (A:List Tm) (t:Tm):List Tm:=if A.any (fun u=>decide (fD u=fD t))=false∧t.depth≤4 then A++ [t]else A
def rE (l:List Rl):Nat→Int→List Tm→Int→Bool
 |0,_,_,_=>false
 |f+1,n,A,lf=>if n<A.length∧A.length≤1000 then match qB A l [] lf with
  |(some m,lf')=>rE l f A.length ((m++oC A).foldl gM A) lf'
  |(none,_)=>false
  else decide (A.length≤1000)
def J6 (l:List Rl) (G:List Tm):Bool:=rE l 1003 (-1) (G.foldl gM []) 1000000
def okR (q M:Nat) (r:Rl):Prop:=eE q M r.head∧r.head.size≤20∧r.body.length≤8∧ ∀b∈r.body,eE q M b.atom∧b.atom.size≤20
def BG (q M:Nat):Nat:=20*(M+3)+20*KB q M 3+KB q M 4
def J7 (q M:Nat) (X:List Tm):Prop:= ∀t∈X,eE q M t∧fP t≤BG q M∧t.depth≤1000
theorem cGr {t:Tm} {n:Nat} (h:t.size≤n):t.depth≤n:=Nat.le_trans (cDr t) h
theorem cGs {q M:Nat} {h:Tm} (hh:eE q M h) (hz:h.size≤20) {k:Nat} {W:List (List Bd)} (hW:mD q M k W):J7 q M (oZ h W):=by
 intro t ht
 unfold oZ at ht
 obtain⟨s,hs,he⟩:=List.mem_filterMap.1 ht
 split at he
 ·obtain rfl:=Option.some.inj he
  obtain⟨a1,a2,a3⟩:=cEy (hW s hs).1 h hh
  have b1:=cEw hh
  have b2:=cGr hz
  have b3:h.size*(M+3)≤20*(M+3):=Nat.mul_le_mul_right _ hz
  have b4:h.size*KB q M 3≤20*KB q M 3:=Nat.mul_le_mul_right _ hz
  exact⟨a1,by unfold BG;omega,by omega⟩
 ·cases he
theorem cGt {h:Tm} {W:List (List Bd)}:(oZ h W).length≤W.length:=List.length_filterMap_le _ _
theorem cGu (t:Tm):(jU t).length≤1:=by
 unfold jU
 split
 ·simp
 ·split<;>simp
theorem aG1: ∀A:List Tm,(oC A).length≤A.length
 | []=>by simp[oC]
 |t::A=>by
  have h1:=cGu t
  have h2:=aG1 A
  unfold oC at*
  rw[List.flatMap_cons,List.length_append,List.length_cons];omega
theorem cGv {q M:Nat}:KB q M 4≤BG q M:=by unfold BG;omega
theorem cGw {q M:Nat} (hM:5≤M) {A:List Tm} (hA:mE q M A):J7 q M (oC A):=by
 intro t ht
 obtain⟨u,hu,ht⟩:=List.mem_flatMap.1 ht
 obtain⟨h1,h2⟩:=hA u hu
 have key: ∀n:ByteArray,n.size≤M→eE q M (.mk n u.args)∧fP (.mk n u.args)≤BG q M∧(Tm.mk n u.args).depth≤1000:=fun n hn=>by
  obtain⟨m,ts⟩:=u
  have o:eE q M (.mk n ts):=pV.2 ⟨hn,(pV.1 h1).2⟩
  have d:(Tm.mk n ts).depth≤4:=by rw[pS,cT]at*;exact h2
  exact⟨o,Nat.le_trans (W5 o d) cGv,by show(Tm.mk n ts).depth≤1000;omega⟩
 unfold jU at ht
 split at ht
 ·obtain rfl:=List.mem_singleton.1 ht
  exact key _ (by show 4≤M;omega)
 ·split at ht
  ·obtain rfl:=List.mem_singleton.1 ht
   exact key _ (by show 4≤M;omega)
  ·simp at ht
theorem cGx {q M:Nat} {A:List Tm} (hA:mE q M A) {t:Tm} (ht:eE q M t):mE q M (gM A t):=by
 unfold gM
 split
 ·rename_i h
  intro u hu
  rcases List.mem_append.1 hu with hu|hu
  ·exact hA u hu
  ·obtain rfl:=List.mem_singleton.1 hu
   exact⟨ht,h.2⟩
 ·exact hA
theorem cGy {A:List Tm} {t:Tm}:A.length≤(gM A t).length∧(gM A t).length≤A.length+1:=by
 unfold gM
 split<;>simp
theorem zM {q M:Nat}: ∀{X A:List Tm},mE q M A→(∀t∈X,eE q M t)→mE q M (X.foldl gM A)
 | [],_,h,_=>h
 |t::X,A,h,hx=>by
  rw[List.foldl_cons]
  exact zM (cGx h (hx t (by simp))) fun u hu=>hx u (by simp[hu])
theorem aG2: ∀{X A:List Tm},A.length≤(X.foldl gM A).length∧(X.foldl gM A).length≤A.length+X.length
 | [],A=>by simp
 |t::X,A=>by
  have h1:=cGy (A:=A) (t:=t)
  have h2:=aG2 (X:=X) (A:=gM A t)
  rw[List.foldl_cons,List.length_cons];omega
end Go.Proofs.YtkbglbcphjmiiaaGreatDoor
