import Derived.Test.YtgmibdiofkmmbaaGreatDoorS1
import Derived.Lib.Strings
import Derived.Lib.Slices
import Derived.Lib.Walk
import Derived.Lib.Bytealg
set_option linter.all false
open Go.Proofs.Tryz
namespace Go.Proofs.YtgmibdiofkmmbaaGreatDoor
open Go.Ab
variable [Glob prog]
set_option maxRecDepth 100000
abbrev K2:ByteArray:=ByteArray.mk #[105,102]
abbrev K3:ByteArray:=ByteArray.mk #[97,110,100]
abbrev K4:ByteArray:=ByteArray.mk #[110,111,116]
theorem W5 (c:Int) (p q r:Int×Int):lU c [p,q,r]=decide ((p.1<=c/\c<=p.2)\/(q.1<=c/\c<=q.2)\/(r.1<=c/\c<=r.2)):=by
 rw[Bool.eq_iff_iff];simp[lU]
theorem W6 (c:Int) (p:Int×Int):lU c [p]=decide (p.1<=c/\c<=p.2):=by
 rw[Bool.eq_iff_iff];simp[lU]
def iJ (s:ByteArray):Bool:=nJ s (97,122) (48,57) (45,45)&& !decide (s=K2)&& !decide (s=K3)&& !decide (s=K4)
theorem aE8 (s:ByteArray):ACall prog 107 [.sc (.string s)] (fun r=>r=bl (iJ s)):=by
 have h1:=aNg s (97,122) (48,57) (45,45)
 simp only[iJ]
 generalize nJ s (97,122) (48,57) (45,45)=b at*
 refine aX func107 call107 rfl (by simp[ntmps107]) ?_;simp only[ntmps107,results107]
 cases b
 ·repeat' (first|(refine aE fun _ _=>?_)|refine zHg ?_|(refine aL [] ?_;simp[go_sem])|refine aI rfl (h1) (by simp) ?_|simp(disch:=omega) [go_sem])
 ·repeat' (first|(refine aE fun _ _=>?_)|refine zHg ?_|(refine zgn ?_ ?_<;>(intro h;(simp only[h,zT])))|(refine aL [] ?_;simp[go_sem])|refine aI rfl (h1) (by simp) ?_|simp(disch:=omega) [go_sem])
  all_goals(simp_all [K2,K3,K4]<;>(rw[Bool.eq_iff_iff];simp))
def iA (s:ByteArray):Bool:=nJ s (65,90) (97,122) (48,57)
theorem W7 (s:ByteArray):ACall prog 146 [.sc (.string s)] (fun r=>r=bl (iA s)):=by
 have h1:=aNg s (65,90) (97,122) (48,57)
 simp only[iA]
 generalize nJ s (65,90) (97,122) (48,57)=b at*
 refine aX func146 call146 rfl (by simp[ntmps146]) ?_;simp only[ntmps146,results146]
 repeat' (first|(refine aE fun _ _=>?_)|refine zHg ?_|(refine aL [] ?_;simp[go_sem])|refine aI rfl (h1) (by simp) ?_|simp(disch:=omega) [go_sem])
theorem aE9 (c:Int):ACall prog 56 [nt .u8 c] (fun r=>r=bl (decide (97<=c/\c<=122))):=by
 refine aX func56 call56 rfl (by simp[ntmps56]) ?_;simp only[ntmps56,results56]
 repeat' (first|(refine aE fun _ _=>?_)|refine zHg ?_|(refine zgd ?_ ?_<;>(intro h;(simp only[h,zT])))|(refine aL [] ?_;simp[go_sem])|simp(disch:=omega) [go_sem])
 all_goals(first|omega|(rw[Bool.eq_iff_iff];simp;omega))
theorem aNh (c:Int):ACall prog 161 [nt .u8 c] (fun r=>r=bl (decide (65<=c/\c<=90))):=by
 refine aX func161 call161 rfl (by simp[ntmps161]) ?_;simp only[ntmps161,results161]
 repeat' (first|(refine aE fun _ _=>?_)|refine zHg ?_|(refine zgd ?_ ?_<;>(intro h;(simp only[h,zT])))|(refine aL [] ?_;simp[go_sem])|simp(disch:=omega) [go_sem])
 all_goals(first|omega|(rw[Bool.eq_iff_iff];simp;omega))
theorem aFa (c:Int):ACall prog 57 [nt .u8 c] (fun r=>r=bl (decide (48<=c/\c<=57))):=by
 refine aX func57 call57 rfl (by simp[ntmps57]) ?_;simp only[ntmps57,results57]
 repeat' (first|(refine aE fun _ _=>?_)|refine zHg ?_|(refine zgd ?_ ?_<;>(intro h;(simp only[h,zT])))|(refine aL [] ?_;simp[go_sem])|simp(disch:=omega) [go_sem])
 all_goals(first|omega|(rw[Bool.eq_iff_iff];simp;omega))
theorem aFb (s:ByteArray):ACall prog 29 [.sc (.string s)] (fun r=>r=bl (iJ s)):=by
 have h1:=aE9 (bt s 0)
 by_cases a1:1<=s.size/\s.size<=16/\(97<=bt s 0/\bt s 0<=122)/\s≠K2/\s≠K3/\s≠K4
 ·have e:iJ s=pR s (97,122) (48,57) (45,45) s.size:=by simp[iJ,nJ,a1,W6]
  rw[e]
  obtain⟨b1,b2,b3,b4,b5,b6⟩:=a1
  unfold K2 at b4
  unfold K3 at b5
  unfold K4 at b6
  refine aX func29 call29 rfl (by simp[ntmps29]) ?_;simp only[ntmps29,results29]
  repeat' (first|(refine aE fun _ _=>?_)|refine zHg ?_|(refine zgd ?_ ?_<;>(intro h;first|(exfalso;omega)|(simp only[h,zT])))|refine aI rfl (h1) (by simp) ?_|simp(disch:=omega) [go_sem,b4,b5,b6]|refine zAo ?_|(refine zgs ?_ ?_<;>(intro h;first|(exfalso;simp at h;omega)|((try simp only[h]);(try simp at h)))))
  refine A1 (fun nn ss_=> ∃i:Nat,i<=s.size/\nn=s.size - i/\(pR s (97,122) (48,57) (45,45) i=true)/\ss_= {n:=54,t:= [(0,.sc (.string s)),(31,nt .i64 s.size),(32,nt .i64 (i))],o:= []}) (s.size) {n:=54,t:= [(0,.sc (.string s)),(31,nt .i64 s.size),(32,nt .i64 (0))],o:= []} (Le.sub4 rfl (by simp[go_sem])) ⟨0,Nat.zero_le _,rfl,rfl,rfl⟩ ?_;rintro _ _ ⟨i,hi,rfl,hin,rfl⟩
  have hl:=aE9 (bt s i)
  have hd:=aFa (bt s i)
  by_cases hlt:i<s.size
  ·have hs:=aE6 s (97,122) (48,57) (45,45) i
   rw[W5,hin,Bool.true_and]at hs
   dsimp only at hs
   repeat' (first|(refine aE fun _ _=>?_)|refine zHg ?_|(refine zqn ?_ ?_<;>(intro h;(simp only[h,zT])))|(refine aL [] ?_;simp[go_sem,hlt])|refine aI rfl (hl) (by simp) ?_|refine aI rfl (hd) (by simp) ?_|(refine Again.mk (s.size - (i+1)) {n:=54,t:= [(0,.sc (.string s)),(31,nt .i64 s.size),(32,nt .i64 ((i+1:Nat)))],o:= []} (by omega) (Le.sub4 rfl (by simp[go_sem])) ⟨i+1,by omega,rfl,by rw[hs];exact decide_eq_true (by omega),rfl⟩)|simp(disch:=omega) [go_sem,hlt]|(refine zgs ?_ ?_<;>(intro h;((try simp only[h]);(try simp at h)))))
   all_goals exact aE7 (i:=i) (by rw[W5];exact decide_eq_false (by(try dsimp only);omega)) hlt
  ·obtain rfl:i=s.size:=by omega
   repeat' (first|(refine aE fun _ _=>?_)|refine zHg ?_|(refine aL [] ?_;simp[go_sem,hin])|simp(disch:=omega) [go_sem,hin])
 ·have e:iJ s=false:=by
   rw[Bool.eq_false_iff]
   intro h
   simp[iJ,nJ,W6]at h
   exact a1 (by simp[h])
  rw[e]
  unfold K2 K3 K4 at a1
  refine aX func29 call29 rfl (by simp[ntmps29]) ?_;simp only[ntmps29,results29]
  repeat' (first|(refine aE fun _ _=>?_)|refine zHg ?_|((first|refine zqd ?_ ?_|refine zgd ?_ ?_)<;>(intro h;(simp only[h,zT])))|(refine aL [] ?_;simp[go_sem])|refine aI rfl (h1) (by simp) ?_|simp(disch:=omega) [go_sem]|refine zAo ?_|(refine zgs ?_ ?_<;>(intro h;((try simp only[h]);(try simp at h)))))
  all_goals(exfalso;apply a1;refine⟨by omega,by omega,by omega,?_,?_,?_⟩<;>assumption)
theorem aNi (s:ByteArray):ACall prog 134 [.sc (.string s)] (fun r=>r=bl (iA s)):=by
 have h1:=aNh (bt s 0)
 by_cases a1:1<=s.size/\s.size<=16/\(65<=bt s 0/\bt s 0<=90)
 ·have e:iA s=pR s (65,90) (97,122) (48,57) s.size:=by simp[iA,nJ,a1,W6]
  rw[e]
  obtain⟨b1,b2,b3⟩:=a1
  refine aX func134 call134 rfl (by simp[ntmps134]) ?_;simp only[ntmps134,results134]
  repeat' (first|(refine aE fun _ _=>?_)|refine zHg ?_|(refine zgd ?_ ?_<;>(intro h;first|(exfalso;omega)|(simp only[h,zT])))|refine aI rfl (h1) (by simp) ?_|simp(disch:=omega) [go_sem]|refine zAo ?_|(refine zqs ?_ ?_<;>(intro h;first|(exfalso;simp at h;omega)|((try simp only[h]);(try simp at h)))))
  refine A1 (fun nn ss_=> ∃i:Nat,i<=s.size/\nn=s.size - i/\(pR s (65,90) (97,122) (48,57) i=true)/\ss_= {n:=43,t:= [(0,.sc (.string s)),(19,nt .i64 s.size),(20,nt .i64 (i))],o:= []}) (s.size) {n:=43,t:= [(0,.sc (.string s)),(19,nt .i64 s.size),(20,nt .i64 (0))],o:= []} (Le.sub4 rfl (by simp[go_sem])) ⟨0,Nat.zero_le _,rfl,rfl,rfl⟩ ?_;rintro _ _ ⟨i,hi,rfl,hin,rfl⟩
  have hl:=aE9 (bt s i)
  have hu:=aNh (bt s i)
  have hd:=aFa (bt s i)
  by_cases hlt:i<s.size
  ·have hs:=aE6 s (65,90) (97,122) (48,57) i
   rw[W5,hin,Bool.true_and]at hs
   dsimp only at hs
   repeat' (first|(refine aE fun _ _=>?_)|refine zHg ?_|(refine aL [] ?_;simp[go_sem,hlt])|refine aI rfl (hl) (by simp) ?_|refine aI rfl (hd) (by simp) ?_|refine aI rfl (hu) (by simp) ?_|(refine Again.mk (s.size - (i+1)) {n:=43,t:= [(0,.sc (.string s)),(19,nt .i64 s.size),(20,nt .i64 ((i+1:Nat)))],o:= []} (by omega) (Le.sub4 rfl (by simp[go_sem])) ⟨i+1,by omega,rfl,by rw[hs];exact decide_eq_true (by omega),rfl⟩)|simp(disch:=omega) [go_sem,hlt]|((first|refine zqs ?_ ?_|refine zgs ?_ ?_)<;>(intro h;((try simp only[h]);(try simp at h)))))
   all_goals exact aE7 (i:=i) (by rw[W5];exact decide_eq_false (by(try dsimp only);omega)) hlt
  ·obtain rfl:i=s.size:=by omega
   repeat' (first|(refine aE fun _ _=>?_)|refine zHg ?_|(refine aL [] ?_;simp[go_sem,hin])|simp(disch:=omega) [go_sem,hin])
 ·have e:iA s=false:=by
   rw[Bool.eq_false_iff]
   intro h
   simp[iA,nJ,W6]at h
   exact a1 (by simp[h])
  rw[e]
  refine aX func134 call134 rfl (by simp[ntmps134]) ?_;simp only[ntmps134,results134]
  repeat' (first|(refine aE fun _ _=>?_)|refine zHg ?_|(refine zgd ?_ ?_<;>(intro h;(simp only[h,zT])))|(refine aL [] ?_;simp[go_sem])|refine aI rfl (h1) (by simp) ?_|simp(disch:=omega) [go_sem]|refine zAo ?_|(refine zqs ?_ ?_<;>(intro h;first|(exfalso;simp at h;omega)|((try simp only[h]);(try simp at h)))))
  all_goals(exfalso;apply a1;omega)
def oC (s:ByteArray) (n:Nat):Bool:=(List.range n).all fun i=>decide (48<=bt s i/\bt s i<=57)
theorem aFc (s:ByteArray) (n:Nat):oC s (n+1)=(oC s n&&decide (48<=bt s n/\bt s n<=57)):=by
 simp[oC,List.range_succ,List.all_append]
theorem aNj {s:ByteArray} {i n:Nat} (h: ¬(48<=bt s i/\bt s i<=57)) (hn:i<n):oC s n=false:=by
 unfold oC;rw[List.all_eq_false];exact⟨i,by simpa using hn,by simpa using h⟩
def jJ (s:ByteArray):Nat->Int
 |0=>0
 |n+1=>10*jJ s n+(bt s n - 48)
theorem aFd {s:ByteArray}: ∀{n:Nat},oC s n=true->0<=jJ s n/\jJ s n<=10^n - 1
 |0,_=>by simp[jJ]
 |n+1,h=>by
  rw[aFc,Bool.and_eq_true,decide_eq_true_eq]at h
  have:=aFd h.1
  rw[Int.pow_succ]
  simp only[jJ]
  omega
theorem aNk {s:ByteArray} {n:Nat} (h:oC s n=true) (hn:n<=3):0<=jJ s n/\jJ s n<=999:=by
 have h1:=aFd h
 have:n=0\/n=1\/n=2\/n=3:=by omega
 rcases this with rfl|rfl|rfl|rfl<;>simp at h1<;>omega
theorem aNl {s:ByteArray} {n:Nat} (h:oC s n=true) (hn:n<=4):0<=jJ s n/\jJ s n<=9999:=by
 have h1:=aFd h
 have:n=0\/n=1\/n=2\/n=3\/n=4:=by omega
 rcases this with rfl|rfl|rfl|rfl|rfl<;>simp at h1<;>omega
def fO (s:ByteArray):Int×Bool:=if(1<=s.size/\s.size<=4/\ ¬(bt s 0=48/\1<s.size))/\oC s s.size=true then(jJ s s.size,true)else(0,false)
theorem aNm {s:ByteArray} (h: ¬(1<=s.size/\s.size<=4/\ ¬(bt s 0=48/\1<s.size))):fO s=(0,false):=by
 unfold fO;rw[if_neg (fun e=>h e.1)]
theorem aNn {s:ByteArray} (h:1<=s.size/\s.size<=4/\ ¬(bt s 0=48/\1<s.size)):fO s=if oC s s.size=true then(jJ s s.size,true)else(0,false):=by
 unfold fO;simp only[h,true_and];simp
theorem aNo (s:ByteArray):ACall prog 157 [.sc (.string s)] (fun r=>r= .tup [nt .i64 (fO s).1,bl (fO s).2]):=by
 by_cases a1:1<=s.size/\s.size<=4/\ ¬(bt s 0=48/\1<s.size)
 ·rw[aNn a1]
  refine aX func157 call157 rfl (by simp[ntmps157]) ?_;simp only[ntmps157,results157]
  repeat' (first|(refine aE fun _ _=>?_)|refine zHg ?_|((first|refine zqd ?_ ?_|refine zgd ?_ ?_)<;>(intro h;first|(exfalso;omega)|(simp only[h,zT])))|simp(disch:=omega) [go_sem]|refine zAo ?_|fail)
  all_goals(try(exfalso;omega))
  all_goals
   refine A1 (fun nn ss_=> ∃i:Nat,i<=s.size/\nn=s.size - i/\(oC s i=true)/\ss_= {n:=51,t:= [(0,.sc (.string s)),(4,nt .i64 (jJ s i)),(5,nt .i64 (i))],o:= []}) (s.size) {n:=51,t:= [(0,.sc (.string s)),(4,nt .i64 (jJ s 0)),(5,nt .i64 (0))],o:= []} (Le.sub4 rfl (by simp[go_sem,jJ])) ⟨0,Nat.zero_le _,rfl,rfl,rfl⟩ ?_;rintro _ _ ⟨i,hi,rfl,hin,rfl⟩
   have hb:=aLp s i
   by_cases hlt:i<s.size
   ·have hv:=aNk hin (by omega)
    have hs:=aFc s i
    rw[hin,Bool.true_and]at hs
    repeat' (first|(refine aE fun _ _=>?_)|refine zHg ?_|((first|refine zqd ?_ ?_|refine zgd ?_ ?_)<;>(intro h;(simp only[h,zT])))|(refine aL [] ?_;simp[go_sem,hlt])|(refine Again.mk (s.size - (i+1)) {n:=51,t:= [(0,.sc (.string s)),(4,nt .i64 (jJ s (i+1:Nat))),(5,nt .i64 ((i+1:Nat)))],o:= []} (by omega) (Le.sub4 rfl (by simp[go_sem,jJ])) ⟨i+1,by omega,rfl,by rw[hs];exact decide_eq_true (by omega),rfl⟩)|simp(disch:=omega) [go_sem,hlt])
    all_goals(try simp)
    all_goals(have hf:oC s s.size=false:=aNj (i:=i) (by omega) hlt)
    all_goals(simp[hf])
   ·obtain rfl:i=s.size:=by omega
    have hv:=aNl hin (by omega)
    repeat' (first|(refine aE fun _ _=>?_)|refine zHg ?_|(refine aL [] ?_;simp[go_sem,hin])|simp(disch:=omega) [go_sem,hin])
    all_goals(try simp[hin])
    all_goals(try omega)
 ·rw[aNm a1]
  refine aX func157 call157 rfl (by simp[ntmps157]) ?_;simp only[ntmps157,results157]
  repeat' (first|(refine aE fun _ _=>?_)|refine zHg ?_|((first|refine zqd ?_ ?_|refine zgd ?_ ?_)<;>(intro h;first|(exfalso;omega)|(simp only[h,zT])))|(refine aL [] ?_;simp[go_sem])|simp(disch:=omega) [go_sem]|refine zAo ?_|fail)
  all_goals(exfalso;omega)
theorem aNp (s:ByteArray):ACall prog 135 [.sc (.string s)] (fun r=>r= .tup [nt .i64 (fO s).1,bl (fO s).2]):=by
 by_cases a1:1<=s.size/\s.size<=4/\ ¬(bt s 0=48/\1<s.size)
 ·rw[aNn a1]
  refine aX func135 call135 rfl (by simp[ntmps135]) ?_;simp only[ntmps135,results135]
  repeat' (first|(refine aE fun _ _=>?_)|refine zHg ?_|((first|refine zqd ?_ ?_|refine zgd ?_ ?_)<;>(intro h;first|(exfalso;omega)|(simp only[h,zT])))|simp(disch:=omega) [go_sem]|refine zAo ?_|fail)
  all_goals(try(exfalso;omega))
  all_goals
   refine A1 (fun nn ss_=> ∃i:Nat,i<=s.size/\nn=s.size - i/\(oC s i=true)/\ss_= {n:=44,t:= [(0,.sc (.string s)),(25,nt .i64 s.size),(4,nt .i64 (jJ s i)),(26,nt .i64 (i))],o:= []}) (s.size) {n:=44,t:= [(0,.sc (.string s)),(25,nt .i64 s.size),(4,nt .i64 (jJ s 0)),(26,nt .i64 (0))],o:= []} (Le.sub4 rfl (by simp[go_sem,jJ])) ⟨0,Nat.zero_le _,rfl,rfl,rfl⟩ ?_;rintro _ _ ⟨i,hi,rfl,hin,rfl⟩
   have hb:=aLp s i
   have hd:=aFa (bt s i)
   by_cases hlt:i<s.size
   ·have hv:=aNk hin (by omega)
    have hs:=aFc s i
    rw[hin,Bool.true_and]at hs
    repeat' (first|(refine aE fun _ _=>?_)|refine zHg ?_|(refine aL [] ?_;simp[go_sem,hlt])|refine aI rfl (hd) (by simp) ?_|(refine Again.mk (s.size - (i+1)) {n:=44,t:= [(0,.sc (.string s)),(25,nt .i64 s.size),(4,nt .i64 (jJ s (i+1:Nat))),(26,nt .i64 ((i+1:Nat)))],o:= []} (by omega) (Le.sub4 rfl (by simp[go_sem,jJ])) ⟨i+1,by omega,rfl,by rw[hs];exact decide_eq_true (by omega),rfl⟩)|simp(disch:=omega) [go_sem,hlt]|(refine zqs ?_ ?_<;>(intro h;((try simp only[h]);(try simp at h)))))
    all_goals(try simp)
    all_goals(have hf:oC s s.size=false:=aNj (i:=i) (by omega) hlt)
    all_goals(simp[hf])
   ·obtain rfl:i=s.size:=by omega
    have hv:=aNl hin (by omega)
    repeat' (first|(refine aE fun _ _=>?_)|refine zHg ?_|(refine aL [] ?_;simp[go_sem,hin])|simp(disch:=omega) [go_sem,hin])
    all_goals(try simp[hin])
    all_goals(try omega)
 ·rw[aNm a1]
  refine aX func135 call135 rfl (by simp[ntmps135]) ?_;simp only[ntmps135,results135]
  repeat' (first|(refine aE fun _ _=>?_)|refine zHg ?_|((first|refine zqd ?_ ?_|refine zgd ?_ ?_)<;>(intro h;first|(exfalso;omega)|(simp only[h,zT])))|(refine aL [] ?_;simp[go_sem])|simp(disch:=omega) [go_sem]|refine zAo ?_|fail)
  all_goals(exfalso;omega)
set_option maxHeartbeats 4000000
theorem aNq (s:ByteArray):ACall prog 133 [.sc (.string s)] (fun r=>r=bl (fO s).2):=by
 have hc:=aNp s
 generalize fO s=q at*
 obtain⟨v,b⟩:=q
 dsimp only at*
 refine aX func133 call133 rfl (by simp[ntmps133]) ?_;simp only[ntmps133,results133]
 repeat' (first|(refine aE fun _ _=>?_)|refine zHg ?_|(refine aL [] ?_;simp[go_sem])|refine aI rfl (hc) (by simp) ?_|simp(disch:=omega) [go_sem])
def K5 (s:ByteArray):Bool:=iJ s||(fO s).2
def yO (t:Tm):Bool:=t.args.isEmpty&&K5 t.name
def isV (t:Tm):Bool:=t.args.isEmpty&&iA t.name
theorem aFg {α:Type} (l:List α):l.isEmpty=decide (l.length=0):=by cases l<;>simp
theorem cY3 (t:Tm):ACall prog 100 [eT t] (fun r=>r=bl (yO t)):=by
 have h1:=aFb t.name
 have h2:=aNq t.name
 unfold yO K5
 rw[aFg]
 generalize iJ t.name=a at*
 generalize(fO t.name).2=b at*
 refine aX func100 call100 rfl (by simp[ntmps100]) ?_;simp only[ntmps100,results100]
 by_cases h:t.args.length=0
 ·cases a
  ·repeat' (first|(refine aE fun _ _=>?_)|refine zHg ?_|(refine aL [] ?_;simp[go_sem,h])|refine aI rfl (h1) (by simp) ?_|refine aI rfl (h2) (by simp) ?_|simp(disch:=omega) [go_sem,h])
  ·repeat' (first|(refine aE fun _ _=>?_)|refine zHg ?_|(refine aL [] ?_;simp[go_sem,h])|refine aI rfl (h1) (by simp) ?_|simp(disch:=omega) [go_sem,h])
 ·repeat' (first|(refine aE fun _ _=>?_)|refine zHg ?_|(refine aL [] ?_;simp[go_sem,h])|simp(disch:=omega) [go_sem,h])
theorem cY4 (t:Tm):ACall prog 101 [eT t] (fun r=>r=bl (isV t)):=by
 have h1:=aNi t.name
 unfold isV
 rw[aFg]
 generalize iA t.name=a at*
 refine aX func101 call101 rfl (by simp[ntmps101]) ?_;simp only[ntmps101,results101]
 by_cases h:t.args.length=0
 ·repeat' (first|(refine aE fun _ _=>?_)|refine zHg ?_|(refine aL [] ?_;simp[go_sem,h])|refine aI rfl (h1) (by simp) ?_|simp(disch:=omega) [go_sem,h])
 ·repeat' (first|(refine aE fun _ _=>?_)|refine zHg ?_|(refine aL [] ?_;simp[go_sem,h])|simp(disch:=omega) [go_sem,h])
mutual
def sU:Int->Bool->Tm->Bool
 |lv,v,.mk s ts=>if lv<1\/4<ts.length then false else if ts.length=0 then K5 s||(v&&iA s)else iJ s&&mP (lv - 1) v ts
def mP:Int->Bool->List Tm->Bool
 |_,_,[]=>true
 |lv,v,t::r=>sU lv v t&&mP lv v r
end
theorem cY5 {lv:Int} {v:Bool} {s:ByteArray} {ts:List Tm}:sU lv v (.mk s ts)=if lv<1\/4<ts.length then false else if ts.length=0 then K5 s||(v&&iA s)else iJ s&&mP (lv - 1) v ts:=rfl
theorem aNr {lv:Int} {v:Bool}: ∀a b:List Tm,mP lv v (a++b)=(mP lv v a&&mP lv v b)
 | [],b=>by simp[mP]
 |t::r,b=>by simp[mP,aNr r b,Bool.and_assoc]
theorem cY6 {lv:Int} {v:Bool} {l:List Tm} {i:Nat} (h:i<l.length):mP lv v (l.take (i+1))=(mP lv v (l.take i)&&sU lv v l[i]):=by
 rw[hZ h,aNr];simp[mP]
theorem aNs {lv:Int} {v:Bool}: ∀{l:List Tm} {t:Tm},t∈l->sU lv v t=false->mP lv v l=false
 |u::r,t,h,hf=>by
  rcases List.mem_cons.1 h with rfl|h
  ·simp[mP,hf]
  ·simp[mP,aNs h hf]
theorem cY7 (v:Bool): ∀(t:Tm) (lv:Int),-1000<=lv->lv<=1000->ACall prog 55 [eT t,nt .i64 lv,bl (!v)] (fun r=>r=bl (sU lv v t)):=by
 refine fM fun t ih lv hl1 hl2=>?_
 obtain⟨s,ts⟩:=t
 rw[cY5]
 simp only[cM,jI]at*
 have h1:=aFb s
 have h2:=cY3 (.mk s ts)
 have h3:=cY4 (.mk s ts)
 simp only[yO,isV,cM,jI,aFg]at h2 h3
 by_cases hc:lv<1\/4<ts.length
 ·rw[if_pos hc]
  generalize iJ s=a at*
  by_cases h0:ts.length=0
  ·refine aX func55 call55 rfl (by simp[ntmps55]) ?_;simp only[ntmps55,results55]
   cases a
   all_goals
    repeat' (first|(refine aE fun _ _=>?_)|refine zHg ?_|(refine zqd ?_ ?_<;>(intro h;first|(exfalso;omega)|(simp only[h,zT])))|(refine aL [] ?_;simp[go_sem,h0])|simp(disch:=omega) [go_sem,h0])
   all_goals omega
  ·refine aX func55 call55 rfl (by simp[ntmps55]) ?_;simp only[ntmps55,results55]
   cases a
   all_goals
    repeat' (first|(refine aE fun _ _=>?_)|refine zHg ?_|(refine zqd ?_ ?_<;>(intro h;first|(exfalso;omega)|(simp only[h,zT])))|(refine aL [] ?_;simp[go_sem,h0])|refine aI rfl (h1) (by simp) ?_|simp(disch:=omega) [go_sem,h0])
   all_goals omega
 ·rw[if_neg hc]
  simp only[not_or]at hc
  obtain⟨hc1,hc2⟩:=hc
  by_cases h0:ts.length=0
  ·rw[if_pos h0]
   simp only[h0,decide_true,Bool.true_and]at h2 h3
   generalize K5 s=a at*
   generalize iA s=c at*
   refine aX func55 call55 rfl (by simp[ntmps55]) ?_;simp only[ntmps55,results55]
   cases a<;>cases v
   all_goals
    repeat' (first|(refine aE fun _ _=>?_)|refine zHg ?_|(refine zqd ?_ ?_<;>(intro h;first|(exfalso;omega)|(simp only[h,zT])))|(refine aL [] ?_;simp[go_sem,h0])|refine aI rfl (h2) (by simp) ?_|refine aI rfl (h3) (by simp) ?_|simp(disch:=omega) [go_sem,h0])
  ·rw[if_neg h0]
   clear h2 h3
   cases ha:iJ s with
   |false=>
    rw[ha]at h1
    refine aX func55 call55 rfl (by simp[ntmps55]) ?_;simp only[ntmps55,results55]
    repeat' (first|(refine aE fun _ _=>?_)|refine zHg ?_|(refine zqd ?_ ?_<;>(intro h;first|(exfalso;omega)|(simp only[h,zT])))|(refine aL [] ?_;simp[go_sem,h0])|refine aI rfl (h1) (by simp) ?_|simp(disch:=omega) [go_sem,h0])
   |true=>
    rw[ha]at h1
    simp only[Bool.true_and]
    generalize hR:mP (lv - 1) v ts=R
    refine aX func55 call55 rfl (by simp[ntmps55]) ?_;simp only[ntmps55,results55]
    repeat' (first|(refine aE fun _ _=>?_)|refine zHg ?_|(refine zqd ?_ ?_<;>(intro h;first|(exfalso;omega)|(simp only[h,zT])))|refine aI rfl (h1) (by simp) ?_|simp(disch:=omega) [go_sem,h0])
    refine bZ [1,2,3,36] [] (fun i:Nat=> [(37,nt .i64 i)]) (fun i:Nat=> []) (fun i:Nat=>ts.length - i) (fun i:Nat=>i<=ts.length/\mP (lv - 1) v (ts.take i)=true) (0) (Le.sub4 rfl (by simp[go_sem])) ⟨?_⟩ ?_
    ·exact⟨Nat.zero_le _,rfl⟩
    intro i ⟨hi,hw⟩ AA hAA;simp only[kL,Nat.reduceBEq,Nat.reduceEqDiff]
    by_cases hlt:i<ts.length
    ·have hu:=ih ts[i] (List.getElem_mem hlt) (lv - 1) (by omega) (by omega)
     have hn:=cY6 (lv:=lv - 1) (v:=v) hlt
     rw[hw,Bool.true_and]at hn
     cases hq:sU (lv - 1) v ts[i]with
     |true=>
      rw[hq]at hu hn
      repeat' (first|(refine aE fun _ _=>?_)|refine zHg ?_|refine aI rfl (hu) (by simp) ?_|(refine(hAA.next (i+1) (Le.sub4 rfl (by simp[go_sem])) (by(try dsimp only);omega) ?_))|simp(disch:=omega) [go_sem,hlt])
      exact⟨⟨hlt,hn⟩⟩
     |false=>
      rw[hq]at hu
      have:=aNs (List.getElem_mem hlt) hq
      rw[this]at hR
      subst hR
      repeat' (first|(refine aE fun _ _=>?_)|refine zHg ?_|(refine aL [] ?_;simp[go_sem,hlt])|refine aI rfl (hu) (by simp) ?_|simp(disch:=omega) [go_sem,hlt])
    ·obtain rfl:i=ts.length:=by omega
     rw[List.take_length]at hw
     rw[hw]at hR
     subst hR
     repeat' (first|(refine aE fun _ _=>?_)|refine zHg ?_|(refine aL [] ?_;simp[go_sem])|simp(disch:=omega) [go_sem])
theorem cY8 (t:Tm):ACall prog 28 [eT t] (fun r=>r=bl (sU 4 false t)):=by
 have h:=cY7 false t 4 (by decide) (by decide)
 generalize sU 4 false t=b at*
 refine aX func28 call28 rfl (by simp[ntmps28]) ?_;simp only[ntmps28,results28]
 repeat' (first|(refine aE fun _ _=>?_)|refine zHg ?_|(refine aL [] ?_;simp[go_sem])|refine aI rfl (h) (by simp) ?_|simp(disch:=omega) [go_sem])
open Go.Ab Go.RowKit
set_option maxRecDepth 100000
set_option maxHeartbeats 4000000
theorem cY9 (a b:ByteArray) (w:World):
 Calls prog 158 #[.string a,.string b] w fun e w'=>e= .returned (.int .i64 (Lib.compareBytes a.data.toList b.data.toList))/\w'=w:=by
 go_enter func158,ntmps158
 go_wp2
 rw[run_callFunc_extern func179 (by kernel_rfl) (by kernel_rfl) (by kernel_rfl) (e:=Extern.BytealgCompare.compare) (by kernel_rfl),Lib.run_compareString]
 simp only[Result.andThen]
 rw[Oper.upon_value]
 go_wp2
 go_ret
 exact⟨rfl,rfl⟩
theorem APost.refl {F:Bool->bY} {w:World} (h:Fok F w):APost F w F w:=⟨h,FLe.refl _,fun _ _ _ h=> .inl h,fun _ _ _ h=> .inl h,Fr.refl _ _⟩
def dF (a b:ByteArray):Int:=Lib.compareBytes a.data.toList b.data.toList
theorem cZa (a b:ByteArray):ACall prog 158 [.sc (.string a),.sc (.string b)] (fun r=>r=nt .i64 (dF a b)):=by
 refine⟨call158,fun w F cargs h0 h1 h2 h3=>?_⟩
 obtain⟨l⟩:=cargs
 match l,h2,h3 with
 | [v0,v1],_,h3=>
  have g0:=h3 0 _ v0 rfl rfl
  have g1:=h3 1 _ v1 rfl rfl
  cases g0
  cases g1
  exact(cY9 a b w).mono fun e w' ⟨he,hw⟩=>by
   subst hw
   exact⟨_,nt .i64 (dF a b),F,he,rfl,APost.refl h1,none,rfl,.sc rfl⟩
theorem cZb (a b:ByteArray):ACall prog 123 [.sc (.string a),.sc (.string b)] (fun r=>r=nt .i64 (dF a b)):=by
 have h:=cZa a b
 generalize dF a b=c at*
 refine aX func123 call123 rfl (by simp[ntmps123]) ?_;simp only[ntmps123,results123]
 repeat' (first|(refine aE fun _ _=>?_)|refine zHg ?_|(refine aL [] ?_;simp[go_sem])|refine aI rfl (h) (by simp) ?_|simp(disch:=omega) [go_sem])
theorem aNt: ∀a b:List UInt8,Lib.compareBytes a b= -1\/Lib.compareBytes a b=0\/Lib.compareBytes a b=1
 | [],[]=>by simp[Lib.compareBytes]
 | [],_::_=>by simp[Lib.compareBytes]
 |_::_,[]=>by simp[Lib.compareBytes]
 |a::xs,b::bs=>by
  simp only[Lib.compareBytes]
  split
  ·simp
  ·split
   ·simp
   ·exact aNt xs bs
theorem aNu: ∀a b:List UInt8,Lib.compareBytes a b=0↔a=b
 | [],[]=>by simp[Lib.compareBytes]
 | [],_::_=>by simp[Lib.compareBytes]
 |_::_,[]=>by simp[Lib.compareBytes]
 |a::xs,b::bs=>by
  simp only[Lib.compareBytes]
  split
  ·rename_i h
   have:a≠b:=fun e=>by subst e;exact UInt8.lt_irrefl _ h
   simp[this]
  ·split
   ·rename_i h
    have:a≠b:=fun e=>by subst e;exact UInt8.lt_irrefl _ h
    simp[this]
   ·rename_i h1 h2
    have:a=b:=UInt8.le_antisymm (UInt8.not_lt.1 h2) (UInt8.not_lt.1 h1)
    subst this
    rw[aNu xs bs];simp
theorem aFh: ∀a b:List UInt8,Lib.compareBytes b a= -Lib.compareBytes a b
 | [],[]=>by simp[Lib.compareBytes]
 | [],_::_=>by simp[Lib.compareBytes]
 |_::_,[]=>by simp[Lib.compareBytes]
 |a::xs,b::bs=>by
  simp only[Lib.compareBytes]
  by_cases h1:a<b
  ·have h2: ¬b<a:=fun h=>UInt8.lt_irrefl _ (UInt8.lt_trans h h1)
   simp[h1,h2]
  ·by_cases h2:b<a
   ·simp[h1,h2]
   ·simp[h1,h2,aFh xs bs]
theorem aNv: ∀a b c:List UInt8,Lib.compareBytes a b<=0->Lib.compareBytes b c<=0->Lib.compareBytes a c<=0
 | [],_,[],_,_=>by simp[Lib.compareBytes]
 | [],_,_::_,_,_=>by simp[Lib.compareBytes]
 |a::xs,[],_,h,_=>by simp[Lib.compareBytes]at h
 |a::xs,b::bs,[],_,h=>by simp[Lib.compareBytes]at h
 |a::xs,b::bs,c::cs,h1,h2=>by
  simp only[Lib.compareBytes]at*
  by_cases hac:a<c
  ·simp[hac]
  ·by_cases hab:a<b
   ·have hcb:c<b:=Nat.lt_of_le_of_lt (UInt8.not_lt.1 hac) hab
    have hbc: ¬b<c:=fun h=>UInt8.lt_irrefl _ (UInt8.lt_trans h hcb)
    rw[if_neg hbc,if_pos hcb]at h2
    omega
   ·rw[if_neg hab]at h1
    by_cases hba:b<a
    ·rw[if_pos hba]at h1;omega
    ·rw[if_neg hba]at h1
     have e:a=b:=UInt8.le_antisymm (UInt8.not_lt.1 hba) (UInt8.not_lt.1 hab)
     subst e
     rw[if_neg hac]at h2
     by_cases hca:c<a
     ·rw[if_pos hca]at h2;omega
     ·rw[if_neg hca]at h2
      rw[if_neg hac,if_neg hca]
      exact aNv xs bs cs h1 h2
theorem aNw: ∀a b:List UInt8,Op.bytesLess a b=decide (Lib.compareBytes a b<0)
 | [],[]=>by simp[Lib.compareBytes,Op.bytesLess]
 | [],_::_=>by simp[Lib.compareBytes,Op.bytesLess]
 |_::_,[]=>by simp[Lib.compareBytes,Op.bytesLess]
 |a::xs,b::bs=>by
  simp only[Lib.compareBytes,Op.bytesLess]
  by_cases h1:a<b
  ·simp[h1]
  ·by_cases h2:b<a
   ·have:a≠b:=fun e=>by subst e;exact UInt8.lt_irrefl _ h2
    simp[h1,h2,this]
   ·have:a=b:=UInt8.le_antisymm (UInt8.not_lt.1 h2) (UInt8.not_lt.1 h1)
    subst this
    simp[UInt8.lt_irrefl,aNw xs bs]
theorem K6 (a b:ByteArray):dF a b= -1\/dF a b=0\/dF a b=1:=aNt _ _
theorem yB {a b:ByteArray}:dF a b=0↔a=b:=by
 unfold dF
 rw[aNu]
 constructor
 ·intro h
  obtain⟨⟨a⟩⟩:=a;obtain⟨⟨b⟩⟩:=b
  simp only at h;subst h;rfl
 ·rintro rfl;rfl
theorem aFi (a b:ByteArray):dF b a= -dF a b:=aFh _ _
theorem cZc {a b c:ByteArray} (h1:dF a b<=0) (h2:dF b c<=0):dF a c<=0:=aNv _ _ _ h1 h2
theorem toList_data (a:ByteArray):a.toList=a.data.toList:=Lib.toList_data a
theorem aNx (a b:ByteArray):Op.bytesLess a.toList b.toList=decide (dF a b<0):=by
 rw[toList_data,toList_data,aNw];rfl
theorem cZd (a:ByteArray):dF a a=0:=yB.2 rfl
def cR (a b:Int):Int:=if a<b then -1 else if b<a then 1 else 0
theorem W8 (a b:Int):ACall prog 122 [nt .i64 a,nt .i64 b] (fun r=>r=nt .i64 (cR a b)):=by
 unfold cR
 refine aX func122 call122 rfl (by simp[ntmps122]) ?_;simp only[ntmps122,results122]
 repeat' (first|(refine aE fun _ _=>?_)|refine zHg ?_|(refine zqd ?_ ?_<;>(intro h;(simp only[h,zT])))|(refine aL [] ?_;simp[go_sem])|simp(disch:=omega) [go_sem])
 all_goals(first|omega|simp[*])
theorem W9 (a b:Int):ACall prog 87 [nt .i64 a,nt .i64 b] (fun r=>r=nt .i64 (cR a b)):=by
 unfold cR
 refine aX func87 call87 rfl (by simp[ntmps87]) ?_;simp only[ntmps87,results87]
 repeat' (first|(refine aE fun _ _=>?_)|refine zHg ?_|(refine zqd ?_ ?_<;>(intro h;(simp only[h,zT])))|(refine aL [] ?_;simp[go_sem])|simp(disch:=omega) [go_sem])
 all_goals(first|omega|simp[*])
theorem cZe (a b:ByteArray):ACall prog 90 [.sc (.string a),.sc (.string b)] (fun r=>r=nt .i64 (dF a b)):=by
 have hr:=K6 a b
 have hz:=yB (a:=a) (b:=b)
 have hs:=aNx a b
 generalize dF a b=c at*
 by_cases he:a=b
 ·subst he
  have:c=0:=hz.2 rfl
  subst this
  simp at hs
  refine aX func90 call90 rfl (by simp[ntmps90]) ?_;simp only[ntmps90,results90]
  repeat' (first|(refine aE fun _ _=>?_)|refine zHg ?_|(refine aL [] ?_;simp[go_sem,hs])|simp(disch:=omega) [go_sem,hs])
 ·have hc:c≠0:=fun h=>he (hz.1 h)
  refine aX func90 call90 rfl (by simp[ntmps90]) ?_;simp only[ntmps90,results90]
  repeat' (first|(refine aE fun _ _=>?_)|refine zHg ?_|((first|refine zqd ?_ ?_|refine zqn ?_ ?_)<;>(intro h;first|(exfalso;omega)|(simp only[h,zT])))|(refine aL [] ?_;simp[go_sem,hs,he])|simp(disch:=omega) [go_sem,hs,he])
  all_goals omega
def kd (t:Tm):Int×Int×Int×ByteArray:=
 if 0<t.args.length then(3,0,t.args.length,t.name)
 else if(fO t.name).2=true then(0,(fO t.name).1,0,ByteArray.mk #[])
 else if iA t.name=true then(2,0,0,t.name)
 else(1,0,0,t.name)
abbrev eK (k:Int×Int×Int×ByteArray):AV:= .agg [nt .i64 k.1,nt .i64 k.2.1,nt .i64 k.2.2.1,.sc (.string k.2.2.2)]
theorem aNy (t:Tm):ACall prog 121 [eT t] (fun r=>r=eK (kd t)):=by
 have h1:=aNo t.name
 have h2:=W7 t.name
 unfold kd
 by_cases h0:0<t.args.length
 ·rw[if_pos h0]
  have h0':(0:Int)<t.args.length:=by omega
  refine aX func121 call121 rfl (by simp[ntmps121]) ?_;simp only[ntmps121,results121]
  repeat' (first|(refine aE fun _ _=>?_)|refine zHg ?_|(refine aL [] ?_;simp[go_sem,h0])|simp(disch:=omega) [go_sem,h0])
 ·rw[if_neg h0]
  generalize fO t.name=q at*
  obtain⟨v,b⟩:=q
  dsimp only at*
  cases b
  ·generalize iA t.name=c at*
   cases c
   ·refine aX func121 call121 rfl (by simp[ntmps121]) ?_;simp only[ntmps121,results121]
    repeat' (first|(refine aE fun _ _=>?_)|refine zHg ?_|(refine aL [] ?_;simp[go_sem,h0])|refine aI rfl (h1) (by simp) ?_|refine aI rfl (h2) (by simp) ?_|simp(disch:=omega) [go_sem,h0])
   ·refine aX func121 call121 rfl (by simp[ntmps121]) ?_;simp only[ntmps121,results121]
    repeat' (first|(refine aE fun _ _=>?_)|refine zHg ?_|(refine aL [] ?_;simp[go_sem,h0])|refine aI rfl (h1) (by simp) ?_|refine aI rfl (h2) (by simp) ?_|simp(disch:=omega) [go_sem,h0])
  ·refine aX func121 call121 rfl (by simp[ntmps121]) ?_;simp only[ntmps121,results121]
   repeat' (first|(refine aE fun _ _=>?_)|refine zHg ?_|(refine aL [] ?_;simp[go_sem,h0])|refine aI rfl (h1) (by simp) ?_|simp(disch:=omega) [go_sem,h0])
mutual
def cS:Tm->Tm->Int
 | .mk s ts,b=>
  let x:=kd (.mk s ts)
  let y:=kd b
  if x=y then eP ts b.args
  else if x.1≠y.1 then cR x.1 y.1
  else if x.2.1≠y.2.1 then cR x.2.1 y.2.1
  else if x.2.2.1≠y.2.2.1 then cR x.2.2.1 y.2.2.1
  else dF x.2.2.2 y.2.2.2
def eP:List Tm->List Tm->Int
 | [],[]=>0
 | [],_::_=> -1
 |_::_,[]=>1
 |t::r,u::q=>if cS t u≠0 then cS t u else eP r q
end
theorem aFj {a b:Tm}:cS a b=if kd a=kd b then eP a.args b.args
 else if(kd a).1≠(kd b).1 then cR (kd a).1 (kd b).1
 else if(kd a).2.1≠(kd b).2.1 then cR (kd a).2.1 (kd b).2.1
 else if(kd a).2.2.1≠(kd b).2.2.1 then cR (kd a).2.2.1 (kd b).2.2.1
 else dF (kd a).2.2.2 (kd b).2.2.2:=by cases a;rfl
theorem aNz (ts us:List Tm) (l f l' f':Bool) (h: ∀t∈ts,∀u,ACall prog 73 [eT t,eT u] (fun r=>r=nt .i64 (cS t u))):
 ACall prog 86 [.list l f (ts.map aP),.list l' f' (us.map aP)] (fun r=>r=nt .i64 (eP ts us)):=by
 refine ACall.bound (i:=0) rfl call86 fun hb=>?_
 rw[List.length_map]at hb
 have hb:ts.length<=140737488355328:=hb
 have ho:=W8 ts.length us.length
 generalize hR:eP ts us=R
 refine aX func86 call86 rfl (by simp[ntmps86]) ?_;simp only[ntmps86,results86]
 repeat' (first|(refine aE fun _ _=>?_)|refine zHg ?_|simp(disch:=omega) [go_sem])
 refine bZ [0,1] [] (fun i:Nat=> [(5,nt .i64 i)]) (fun i:Nat=> []) (fun i:Nat=>ts.length - i) (fun i:Nat=>i<=ts.length/\i<=us.length/\eP (ts.drop i) (us.drop i)=R) (0) (Le.sub4 rfl (by simp[go_sem])) ⟨?_⟩ ?_
 ·exact⟨Nat.zero_le _,Nat.zero_le _,by simpa using hR⟩
 intro i ⟨hi,hi2,hc⟩ AA hAA;simp only[kL,Nat.reduceBEq,Nat.reduceEqDiff]
 by_cases h1:i<ts.length
 ·by_cases h2:i<us.length
  ·have hu:=h ts[i] (List.getElem_mem h1) us[i]
   rw[List.drop_eq_getElem_cons h1,List.drop_eq_getElem_cons h2]at hc
   simp only[eP]at hc
   generalize cS ts[i] us[i]=c at*
   by_cases hz:c=0
   ·subst hz
    simp at hc
    repeat' (first|(refine aE fun _ _=>?_)|refine zHg ?_|refine bI rfl (hu) rfl (by simp) ?_|(refine(hAA.next (i+1) (Le.sub4 rfl (by simp[go_sem])) (by(try dsimp only);omega) ?_))|simp(disch:=omega) [go_sem,h1,h2]|refine zDr 10 bA ?_|fail)
    exact⟨⟨h1,h2,hc⟩⟩
   ·simp only[ne_eq,hz,not_false_eq_true,if_true]at hc
    repeat' (first|(refine aE fun _ _=>?_)|refine zHg ?_|(refine zqn ?_ ?_<;>(intro h;first|(exfalso;omega)|(simp only[h,zT])))|(refine aL [] ?_;simp[go_sem,h1,h2,hz,hc])|refine bI rfl (hu) rfl (by simp) ?_|simp(disch:=omega) [go_sem,h1,h2,hz,hc]|refine zDr 10 bA ?_|fail)
  ·have e1:us.drop i= []:=List.drop_of_length_le (by omega)
   rw[List.drop_eq_getElem_cons h1,e1]at hc
   simp only[eP]at hc
   have e2:cR ts.length us.length=1:=by unfold cR;rw[if_neg (by omega),if_pos (by omega)]
   rw[e2]at ho
   repeat' (first|(refine aE fun _ _=>?_)|refine zHg ?_|(refine aL [] ?_;simp[go_sem,h1,h2,hc])|refine aI rfl (ho) (by simp) ?_|simp(disch:=omega) [go_sem,h1,h2,hc])
 ·have e1:ts.drop i= []:=List.drop_of_length_le (by omega)
  by_cases h2:i<us.length
  ·rw[List.drop_eq_getElem_cons h2,e1]at hc
   simp only[eP]at hc
   have e2:cR ts.length us.length= -1:=by unfold cR;rw[if_pos (by omega)]
   rw[e2]at ho
   repeat' (first|(refine aE fun _ _=>?_)|refine zHg ?_|(refine aL [] ?_;simp[go_sem,h1,h2,hc])|refine aI rfl (ho) (by simp) ?_|simp(disch:=omega) [go_sem,h1,h2,hc])
  ·have e3:us.drop i= []:=List.drop_of_length_le (by omega)
   rw[e1,e3]at hc
   simp only[eP]at hc
   have e2:cR ts.length us.length=0:=by unfold cR;rw[if_neg (by omega),if_neg (by omega)]
   rw[e2]at ho
   repeat' (first|(refine aE fun _ _=>?_)|refine zHg ?_|(refine aL [] ?_;simp[go_sem,h1,h2,hc])|refine aI rfl (ho) (by simp) ?_|simp(disch:=omega) [go_sem,h1,h2,hc])
theorem yC: ∀a b:Tm,ACall prog 73 [eT a,eT b] (fun r=>r=nt .i64 (cS a b)):=by
 refine fM fun a ih b=>?_
 have h1:=aNy a
 have h2:=aNy b
 have h3:=aNz a.args b.args false false false false ih
 rw[aFj]
 have ho1:=W8 (kd a).1 (kd b).1
 have ho2:=W8 (kd a).2.1 (kd b).2.1
 have ho3:=W8 (kd a).2.2.1 (kd b).2.2.1
 have ho4:=cZb (kd a).2.2.2 (kd b).2.2.2
 generalize eP a.args b.args=c at*
 generalize kd a=x at*
 generalize kd b=y at*
 obtain⟨x1,x2,x3,x4⟩:=x
 obtain⟨y1,y2,y3,y4⟩:=y
 dsimp only at*
 generalize cR x1 y1=o1 at*
 generalize cR x2 y2=o2 at*
 generalize cR x3 y3=o3 at*
 generalize dF x4 y4=o4 at*
 refine aX func73 call73 rfl (by simp[ntmps73]) ?_;simp only[ntmps73,results73]
 by_cases q1:x1=y1
 ·by_cases q2:x2=y2
  ·by_cases q3:x3=y3
   ·by_cases q4:x4=y4
    ·subst q1;subst q2;subst q3;subst q4
     repeat' (first|(refine aE fun _ _=>?_)|refine zHg ?_|(refine aL [] ?_;simp[go_sem])|refine bI rfl (h1) rfl (by simp) ?_|refine bI rfl (h2) rfl (by simp) ?_|refine aI rfl (h3) (by simp) ?_|simp(disch:=omega) [go_sem]|refine zDr 6 bA ?_|fail)
    ·subst q1;subst q2;subst q3
     repeat' (first|(refine aE fun _ _=>?_)|refine zHg ?_|(refine aL [] ?_;simp[go_sem,q4])|refine bI rfl (h1) rfl (by simp) ?_|refine bI rfl (h2) rfl (by simp) ?_|refine aI rfl (ho4) (by simp) ?_|simp(disch:=omega) [go_sem,q4]|refine zDr 6 bA ?_|fail)
   ·subst q1;subst q2
    repeat' (first|(refine aE fun _ _=>?_)|refine zHg ?_|(refine aL [] ?_;simp[go_sem,q3])|refine bI rfl (h1) rfl (by simp) ?_|refine bI rfl (h2) rfl (by simp) ?_|refine aI rfl (ho3) (by simp) ?_|simp(disch:=omega) [go_sem,q3]|refine zDr 6 bA ?_|fail)
  ·subst q1
   repeat' (first|(refine aE fun _ _=>?_)|refine zHg ?_|(refine aL [] ?_;simp[go_sem,q2])|refine bI rfl (h1) rfl (by simp) ?_|refine bI rfl (h2) rfl (by simp) ?_|refine aI rfl (ho2) (by simp) ?_|simp(disch:=omega) [go_sem,q2]|refine zDr 6 bA ?_|fail)
 ·repeat' (first|(refine aE fun _ _=>?_)|refine zHg ?_|(refine aL [] ?_;simp[go_sem,q1])|refine bI rfl (h1) rfl (by simp) ?_|refine bI rfl (h2) rfl (by simp) ?_|refine aI rfl (ho1) (by simp) ?_|simp(disch:=omega) [go_sem,q1]|refine zDr 6 bA ?_|fail)
theorem cZf (ts us:List Tm) (l f l' f':Bool):ACall prog 86 [.list l f (ts.map aP),.list l' f' (us.map aP)] (fun r=>r=nt .i64 (eP ts us)):=
 aNz ts us l f l' f' fun t _ u=>yC t u
open Go.Ab
set_option maxRecDepth 100000
set_option maxHeartbeats 4000000
theorem cZg (ts us:List Tm) (l f l' f':Bool) (h: ∀t∈ts,∀u,ACall prog 42 [eT t,eT u] (fun r=>r=nt .i64 (cS t u))):
 ACall prog 91 [.list l f (ts.map aP),.list l' f' (us.map aP)] (fun r=>r=nt .i64 (eP ts us)):=by
 refine ACall.bound (i:=0) rfl call91 fun hb=>?_
 rw[List.length_map]at hb
 have hb:ts.length<=140737488355328:=hb
 have ho:=W9 ts.length us.length
 generalize hR:eP ts us=R
 refine aX func91 call91 rfl (by simp[ntmps91]) ?_;simp only[ntmps91,results91]
 repeat' (first|(refine aE fun _ _=>?_)|refine zHg ?_|simp(disch:=omega) [go_sem])
 refine bZ [0,1] [] (fun i:Nat=> [(5,nt .i64 i)]) (fun i:Nat=> []) (fun i:Nat=>ts.length - i) (fun i:Nat=>i<=ts.length/\i<=us.length/\eP (ts.drop i) (us.drop i)=R) (0) (Le.sub4 rfl (by simp[go_sem])) ⟨?_⟩ ?_
 ·exact⟨Nat.zero_le _,Nat.zero_le _,by simpa using hR⟩
 intro i ⟨hi,hi2,hc⟩ AA hAA;simp only[kL,Nat.reduceBEq,Nat.reduceEqDiff]
 by_cases h1:i<ts.length
 ·by_cases h2:i<us.length
  ·have hu:=h ts[i] (List.getElem_mem h1) us[i]
   rw[List.drop_eq_getElem_cons h1,List.drop_eq_getElem_cons h2]at hc
   simp only[eP]at hc
   generalize cS ts[i] us[i]=c at*
   by_cases hz:c=0
   ·subst hz
    simp at hc
    repeat' (first|(refine aE fun _ _=>?_)|refine zHg ?_|refine bI rfl (hu) rfl (by simp) ?_|(refine(hAA.next (i+1) (Le.sub4 rfl (by simp[go_sem])) (by(try dsimp only);omega) ?_))|simp(disch:=omega) [go_sem,h1,h2]|refine zDr 10 bA ?_|fail)
    exact⟨⟨h1,h2,hc⟩⟩
   ·simp only[ne_eq,hz,not_false_eq_true,if_true]at hc
    repeat' (first|(refine aE fun _ _=>?_)|refine zHg ?_|(refine zqn ?_ ?_<;>(intro h;first|(exfalso;omega)|(simp only[h,zT])))|(refine aL [] ?_;simp[go_sem,h1,h2,hz,hc])|refine bI rfl (hu) rfl (by simp) ?_|simp(disch:=omega) [go_sem,h1,h2,hz,hc]|refine zDr 10 bA ?_|fail)
  ·have e1:us.drop i= []:=List.drop_of_length_le (by omega)
   rw[List.drop_eq_getElem_cons h1,e1]at hc
   simp only[eP]at hc
   have e2:cR ts.length us.length=1:=by unfold cR;rw[if_neg (by omega),if_pos (by omega)]
   rw[e2]at ho
   repeat' (first|(refine aE fun _ _=>?_)|refine zHg ?_|(refine aL [] ?_;simp[go_sem,h1,h2,hc])|refine aI rfl (ho) (by simp) ?_|simp(disch:=omega) [go_sem,h1,h2,hc])
 ·have e1:ts.drop i= []:=List.drop_of_length_le (by omega)
  by_cases h2:i<us.length
  ·rw[List.drop_eq_getElem_cons h2,e1]at hc
   simp only[eP]at hc
   have e2:cR ts.length us.length= -1:=by unfold cR;rw[if_pos (by omega)]
   rw[e2]at ho
   repeat' (first|(refine aE fun _ _=>?_)|refine zHg ?_|(refine aL [] ?_;simp[go_sem,h1,h2,hc])|refine aI rfl (ho) (by simp) ?_|simp(disch:=omega) [go_sem,h1,h2,hc])
  ·have e3:us.drop i= []:=List.drop_of_length_le (by omega)
   rw[e1,e3]at hc
   simp only[eP]at hc
   have e2:cR ts.length us.length=0:=by unfold cR;rw[if_neg (by omega),if_neg (by omega)]
   rw[e2]at ho
   repeat' (first|(refine aE fun _ _=>?_)|refine zHg ?_|(refine aL [] ?_;simp[go_sem,h1,h2,hc])|refine aI rfl (ho) (by simp) ?_|simp(disch:=omega) [go_sem,h1,h2,hc])
theorem aN0 (t:Tm):ACall prog 88 [eT t] (fun r=>r=nt .i64 (kd t).1):=by
 have h1:=aNq t.name
 have h2:=aNi t.name
 unfold kd
 generalize(fO t.name).2=b at*
 generalize iA t.name=c at*
 by_cases h0:0<t.args.length
 ·rw[if_pos h0]
  have h0':(0:Int)<t.args.length:=by omega
  refine aX func88 call88 rfl (by simp[ntmps88]) ?_;simp only[ntmps88,results88]
  repeat' (first|(refine aE fun _ _=>?_)|refine zHg ?_|(refine aL [] ?_;simp[go_sem,h0])|simp(disch:=omega) [go_sem,h0])
 ·rw[if_neg h0]
  cases b
  ·cases c
   ·refine aX func88 call88 rfl (by simp[ntmps88]) ?_;simp only[ntmps88,results88]
    repeat' (first|(refine aE fun _ _=>?_)|refine zHg ?_|(refine aL [] ?_;simp[go_sem,h0])|refine aI rfl (h1) (by simp) ?_|refine aI rfl (h2) (by simp) ?_|simp(disch:=omega) [go_sem,h0])
   ·refine aX func88 call88 rfl (by simp[ntmps88]) ?_;simp only[ntmps88,results88]
    repeat' (first|(refine aE fun _ _=>?_)|refine zHg ?_|(refine aL [] ?_;simp[go_sem,h0])|refine aI rfl (h1) (by simp) ?_|refine aI rfl (h2) (by simp) ?_|simp(disch:=omega) [go_sem,h0])
  ·refine aX func88 call88 rfl (by simp[ntmps88]) ?_;simp only[ntmps88,results88]
   repeat' (first|(refine aE fun _ _=>?_)|refine zHg ?_|(refine aL [] ?_;simp[go_sem,h0])|refine aI rfl (h1) (by simp) ?_|simp(disch:=omega) [go_sem,h0])
theorem aN1 (s:ByteArray):ACall prog 89 [.sc (.string s)] (fun r=>r=nt .i64 (fO s).1):=by
 have hc:=aNp s
 generalize fO s=q at*
 obtain⟨v,b⟩:=q
 dsimp only at*
 refine aX func89 call89 rfl (by simp[ntmps89]) ?_;simp only[ntmps89,results89]
 repeat' (first|(refine aE fun _ _=>?_)|refine zHg ?_|(refine aL [] ?_;simp[go_sem])|refine aI rfl (hc) (by simp) ?_|simp(disch:=omega) [go_sem])
theorem A9 (t:Tm):(t.args= []/\(fO t.name).2=true/\kd t=(0,(fO t.name).1,0,ByteArray.mk #[]))\/((kd t).1≠0/\kd t=((kd t).1,0,(t.args.length:Int),t.name)):=by
 unfold kd
 by_cases h0:0<t.args.length
 ·rw[if_pos h0];right;simp
 ·rw[if_neg h0]
  have e:t.args= []:=List.eq_nil_of_length_eq_zero (by omega)
  by_cases h1:(fO t.name).2=true
  ·rw[if_pos h1];left;exact⟨e,h1,rfl⟩
  ·rw[if_neg h1]
   split<;>(right;simp[e])
theorem aN2: ∀a b:Tm,ACall prog 42 [eT a,eT b] (fun r=>r=nt .i64 (cS a b)):=by
 refine fM fun a ih b=>?_
 have h1:=aN0 a
 have h2:=aN0 b
 have ho1:=W9 (kd a).1 (kd b).1
 rw[aFj]
 by_cases q1:(kd a).1=(kd b).1
 ·have e1:cR (kd a).1 (kd b).1=0:=by unfold cR;rw[if_neg (by omega),if_neg (by omega)]
  rw[e1]at ho1
  rcases A9 a with⟨a1,a2,a3⟩|⟨a1,a2⟩
  ·rcases A9 b with⟨b1,b2,b3⟩|⟨b1,b2⟩
   ·have hv1:=aN1 a.name
    have hv2:=aN1 b.name
    have ho2:=W9 (fO a.name).1 (fO b.name).1
    rw[a3]at h1 ho1 ⊢
    rw[b3]at h2 ho1 ⊢
    rw[a1,b1]
    dsimp only at*
    generalize(fO a.name).1=u at*
    generalize(fO b.name).1=v at*
    have e:(if((0:Int),u,(0:Int),ByteArray.mk #[])=(0,v,0,ByteArray.mk #[])then eP [] []else if(0:Int)≠0 then cR 0 0 else if u≠v then cR u v else if(0:Int)≠0 then cR 0 0 else dF (ByteArray.mk #[]) (ByteArray.mk #[]))=cR u v:=by
     by_cases h:u=v
     ·subst h;simp[eP,cR]
     ·simp[h]
    rw[e]
    generalize cR u v=o at*
    clear a1 b1 a2 b2 a3 b3 ih
    refine aX func42 call42 rfl (by simp[ntmps42]) ?_;simp only[ntmps42,results42]
    repeat' (first|(refine aE fun _ _=>?_)|refine zHg ?_|(refine aL [] ?_;simp[go_sem])|refine aI rfl (h1) (by simp) ?_|refine bI rfl (h1) rfl (by simp) ?_|refine bI rfl (h2) rfl (by simp) ?_|refine bI rfl (ho1) rfl (by simp) ?_|refine bI rfl (hv1) rfl (by simp) ?_|refine bI rfl (hv2) rfl (by simp) ?_|refine aI rfl (ho2) (by simp) ?_|simp(disch:=omega) [go_sem]|refine zDr 6 bA ?_|fail)
   ·exact absurd (by rw[<-q1,a3]) b1
  ·rcases A9 b with⟨b1,b2,b3⟩|⟨b1,b2⟩
   ·exact absurd (by rw[q1,b3]) a1
   ·have h3:=cZg a.args b.args false false false false ih
    have ho2:=W9 a.args.length b.args.length
    have ho3:=cZe a.name b.name
    have hz:=yB (a:=a.name) (b:=b.name)
    generalize eP a.args b.args=w at*
    rw[a2,b2]
    dsimp only
    rw[<-q1]at h2 ho1 ⊢
    generalize(kd a).1=k at*
    clear a2 b2 ih
    by_cases q2:(a.args.length:Int)=b.args.length
    ·by_cases q3:a.name=b.name
     ·have q4:dF a.name b.name=0:=hz.2 q3
      rw[q4]at ho3
      simp only[q2,q3,if_true]
      refine aX func42 call42 rfl (by simp[ntmps42]) ?_;simp only[ntmps42,results42]
      repeat' (first|(refine aE fun _ _=>?_)|refine zHg ?_|(refine aL [] ?_;simp[go_sem,a1,q2])|refine aI rfl (h1) (by simp) ?_|refine bI rfl (h1) rfl (by simp) ?_|refine bI rfl (h2) rfl (by simp) ?_|refine bI rfl (ho1) rfl (by simp) ?_|refine aI rfl (ho3) (by simp) ?_|refine aI rfl (h3) (by simp) ?_|simp(disch:=omega) [go_sem,a1,q2]|refine zDr 6 bA ?_|fail)
     ·have q4:dF a.name b.name≠0:=fun h=>q3 (hz.1 h)
      have e:(if(k,(0:Int),(a.args.length:Int),a.name)=(k,0,(b.args.length:Int),b.name)then w else if k≠k then cR k k else if(0:Int)≠0 then cR 0 0 else if(a.args.length:Int)≠b.args.length then cR a.args.length b.args.length else dF a.name b.name)=dF a.name b.name:=by
       simp[q2,q3]
      rw[e]
      generalize dF a.name b.name=o at*
      refine aX func42 call42 rfl (by simp[ntmps42]) ?_;simp only[ntmps42,results42]
      repeat' (first|(refine aE fun _ _=>?_)|refine zHg ?_|(refine aL [] ?_;simp[go_sem,a1,q2,q4])|refine aI rfl (h1) (by simp) ?_|refine bI rfl (h1) rfl (by simp) ?_|refine bI rfl (h2) rfl (by simp) ?_|refine bI rfl (ho1) rfl (by simp) ?_|refine aI rfl (ho3) (by simp) ?_|simp(disch:=omega) [go_sem,a1,q2,q4]|refine zDr 6 bA ?_|fail)
    ·have e:(if(k,(0:Int),(a.args.length:Int),a.name)=(k,0,(b.args.length:Int),b.name)then w else if k≠k then cR k k else if(0:Int)≠0 then cR 0 0 else if(a.args.length:Int)≠b.args.length then cR a.args.length b.args.length else dF a.name b.name)=cR a.args.length b.args.length:=by
      simp[q2]
     rw[e]
     generalize cR a.args.length b.args.length=o at*
     refine aX func42 call42 rfl (by simp[ntmps42]) ?_;simp only[ntmps42,results42]
     repeat' (first|(refine aE fun _ _=>?_)|refine zHg ?_|(refine aL [] ?_;simp[go_sem,a1,q2])|refine aI rfl (h1) (by simp) ?_|refine bI rfl (h1) rfl (by simp) ?_|refine bI rfl (h2) rfl (by simp) ?_|refine bI rfl (ho1) rfl (by simp) ?_|refine aI rfl (ho2) (by simp) ?_|simp(disch:=omega) [go_sem,a1,q2]|refine zDr 6 bA ?_|fail)
 ·have e1:cR (kd a).1 (kd b).1≠0:=by unfold cR;split<;>(try split)<;>omega
  have e:(if kd a=kd b then eP a.args b.args else if(kd a).1≠(kd b).1 then cR (kd a).1 (kd b).1 else if(kd a).2.1≠(kd b).2.1 then cR (kd a).2.1 (kd b).2.1 else if(kd a).2.2.1≠(kd b).2.2.1 then cR (kd a).2.2.1 (kd b).2.2.1 else dF (kd a).2.2.2 (kd b).2.2.2)=cR (kd a).1 (kd b).1:=by
   rw[if_neg (fun h=>q1 (by rw[h])),if_pos q1]
  rw[e]
  generalize cR (kd a).1 (kd b).1=o at*
  generalize(kd a).1=x at*
  generalize(kd b).1=y at*
  refine aX func42 call42 rfl (by simp[ntmps42]) ?_;simp only[ntmps42,results42]
  repeat' (first|(refine aE fun _ _=>?_)|refine zHg ?_|(refine aL [] ?_;simp[go_sem,e1])|refine bI rfl (h1) rfl (by simp) ?_|refine bI rfl (h2) rfl (by simp) ?_|refine bI rfl (ho1) rfl (by simp) ?_|simp(disch:=omega) [go_sem,e1]|refine zDr 6 bA ?_|fail)
mutual
def sV:Tm->Tm->Bool
 | .mk s ts,b=>decide (s=b.name)&&lH ts b.args
def lH:List Tm->List Tm->Bool
 | [],[]=>true
 |t::r,u::q=>sV t u&&lH r q
 |_,_=>false
end
theorem aN3 {a b:Tm}:sV a b=(decide (a.name=b.name)&&lH a.args b.args):=by cases a;rfl
theorem X0 (t:Tm):t= .mk t.name t.args:=by cases t;rfl
theorem aN4 {ts us:List Tm} (h: ∀t∈ts,∀u,sV t u=true↔t=u):lH ts us=true↔ts=us:=by
 induction ts generalizing us with
 |nil=>cases us<;>simp[lH]
 |cons t r ih=>
  cases us with
  |nil=>simp[lH]
  |cons u q=>
   simp only[lH,Bool.and_eq_true,List.cons.injEq]
   rw[h t (by simp),ih (fun v hv=>h v (by simp[hv]))]
theorem X4: ∀a b:Tm,sV a b=true↔a=b:=by
 refine fM fun a ih b=>?_
 rw[aN3,Bool.and_eq_true,decide_eq_true_eq,aN4 ih]
 constructor
 ·rintro⟨h1,h2⟩;rw[X0 a,X0 b,h1,h2]
 ·rintro rfl;exact⟨rfl,rfl⟩
theorem aFk (ts us:List Tm):lH ts us=true↔ts=us:=aN4 fun t _ u=>X4 t u
theorem cZh {ts us:List Tm} (h:ts.length≠us.length):lH ts us=false:=by
 rw[Bool.eq_false_iff];intro e;rw[(aFk ts us).1 e]at h;exact h rfl
theorem aN5 (ts us:List Tm) (l f l' f':Bool) (h: ∀t∈ts,∀u,ACall prog 37 [eT t,eT u] (fun r=>r=bl (sV t u))):
 ACall prog 13 [.list l f (ts.map aP),.list l' f' (us.map aP)] (fun r=>r=bl (lH ts us)):=by
 refine ACall.bound (i:=0) rfl call13 fun hb=>?_
 rw[List.length_map]at hb
 have hb:ts.length<=140737488355328:=hb
 by_cases hl:ts.length=us.length
 ·have hl':(ts.length:Int)=us.length:=by omega
  generalize hR:lH ts us=R
  refine aX func13 call13 rfl (by simp[ntmps13]) ?_;simp only[ntmps13,results13]
  repeat' (first|(refine aE fun _ _=>?_)|refine zHg ?_|simp(disch:=omega) [go_sem,hl])
  refine bZ [0,1,12] [] (fun i:Nat=> [(13,nt .i64 i)]) (fun i:Nat=> []) (fun i:Nat=>ts.length - i) (fun i:Nat=>i<=ts.length/\lH (ts.drop i) (us.drop i)=R) (0) (Le.sub4 rfl (by simp[go_sem,hl])) ⟨?_⟩ ?_
  ·exact⟨Nat.zero_le _,by simpa using hR⟩
  intro i ⟨hi,hc⟩ AA hAA;simp only[kL,Nat.reduceBEq,Nat.reduceEqDiff]
  by_cases h1:i<us.length
  ·have h2:i<ts.length:=by omega
   have hu:=h ts[i] (List.getElem_mem h2) us[i]
   rw[List.drop_eq_getElem_cons h2,List.drop_eq_getElem_cons h1]at hc
   simp only[lH]at hc
   cases hq:sV ts[i] us[i]with
   |true=>
    rw[hq]at hu hc
    simp only[Bool.true_and]at hc
    repeat' (first|(refine aE fun _ _=>?_)|refine zHg ?_|refine bI rfl (hu) rfl (by simp) ?_|(refine(hAA.next (i+1) (Le.sub4 rfl (by simp[go_sem])) (by(try dsimp only);omega) ?_))|simp(disch:=omega) [go_sem,h1,h2]|refine zDr 10 bA ?_|fail)
    exact⟨⟨by omega,hc⟩⟩
   |false=>
    rw[hq]at hu hc
    simp only[Bool.false_and]at hc
    subst hc
    repeat' (first|(refine aE fun _ _=>?_)|refine zHg ?_|(refine aL [] ?_;simp[go_sem,h1,h2])|refine bI rfl (hu) rfl (by simp) ?_|simp(disch:=omega) [go_sem,h1,h2]|refine zDr 10 bA ?_|fail)
  ·have e1:us.drop i= []:=List.drop_of_length_le (by omega)
   have e2:ts.drop i= []:=List.drop_of_length_le (by omega)
   rw[e1,e2]at hc
   simp only[lH]at hc
   subst hc
   repeat' (first|(refine aE fun _ _=>?_)|refine zHg ?_|(refine aL [] ?_;simp[go_sem,h1])|simp(disch:=omega) [go_sem,h1])
 ·rw[cZh hl]
  have hl': ¬(ts.length:Int)=us.length:=by omega
  refine aX func13 call13 rfl (by simp[ntmps13]) ?_;simp only[ntmps13,results13]
  repeat' (first|(refine aE fun _ _=>?_)|refine zHg ?_|(refine aL [] ?_;simp[go_sem,hl'])|simp(disch:=omega) [go_sem,hl'])
theorem aN6: ∀a b:Tm,ACall prog 37 [eT a,eT b] (fun r=>r=bl (sV a b)):=by
 refine fM fun a ih b=>?_
 have h1:=aN5 a.args b.args false false false false ih
 rw[aN3]
 generalize lH a.args b.args=c at*
 clear ih
 refine aX func37 call37 rfl (by simp[ntmps37]) ?_;simp only[ntmps37,results37]
 by_cases h:a.name=b.name
 ·repeat' (first|(refine aE fun _ _=>?_)|refine zHg ?_|(refine aL [] ?_;simp[go_sem,h])|refine aI rfl (h1) (by simp) ?_|simp(disch:=omega) [go_sem,h])
 ·repeat' (first|(refine aE fun _ _=>?_)|refine zHg ?_|(refine aL [] ?_;simp[go_sem,h])|simp(disch:=omega) [go_sem,h])
theorem cZi (ts us:List Tm) (l f l' f':Bool):ACall prog 13 [.list l f (ts.map aP),.list l' f' (us.map aP)] (fun r=>r=bl (lH ts us)):=
 aN5 ts us l f l' f' fun t _ u=>aN6 t u
def gC (x y:Int):Int:=if x≠0 then x else y
def TR (ab bc ac:Int):Prop:=ab<=0->bc<=0->ac<=0/\(ac=0->ab=0/\bc=0)
theorem B0 {a b c x y z:Int} (h:TR a b c) (k:TR x y z):TR (gC a x) (gC b y) (gC c z):=by
 unfold TR gC at*
 intro h1 h2
 have ha:a<=0:=by split at h1<;>omega
 have hb:b<=0:=by split at h2<;>omega
 have hh:=h ha hb
 by_cases hc:c=0
 ·have:=hh.2 hc
  simp only[this,hc]at*
  simpa using k (by simpa using h1) (by simpa using h2)
 ·rw[if_pos hc]
  exact⟨hh.1,fun e=>absurd e hc⟩
theorem cZj (a b:Int):cR a b= -1\/cR a b=0\/cR a b=1:=by unfold cR;split<;>(try split)<;>simp
theorem wL {a b:Int}:cR a b=0↔a=b:=by unfold cR;split<;>(try split)<;>simp<;>omega
theorem X5 (a b:Int):cR b a= -cR a b:=by unfold cR;split<;>split<;>(try split)<;>omega
theorem X6 (a b c:Int):TR (cR a b) (cR b c) (cR a c):=by
 unfold TR cR
 intro h1 h2
 split<;>(try split)<;>(split at h1<;>(try split at h1))<;>(split at h2<;>(try split at h2))<;>(try split)<;>(try split)<;>(try split)<;>(try split)<;>simp<;>omega
theorem aN7 (a b c:ByteArray):TR (dF a b) (dF b c) (dF a c):=by
 intro h1 h2
 refine⟨cZc h1 h2,fun h=>?_⟩
 have e:=yB.1 h
 subst e
 have:=aFi a b
 have hz:dF a b=0:=by omega
 exact⟨hz,by omega⟩
theorem B1 (a b:Tm):cS a b=gC (cR (kd a).1 (kd b).1) (gC (cR (kd a).2.1 (kd b).2.1) (gC (cR (kd a).2.2.1 (kd b).2.2.1) (gC (dF (kd a).2.2.2 (kd b).2.2.2) (eP a.args b.args)))):=by
 rw[aFj]
 generalize kd a=x
 generalize kd b=y
 obtain⟨x1,x2,x3,x4⟩:=x
 obtain⟨y1,y2,y3,y4⟩:=y
 dsimp only
 by_cases q1:x1=y1
 ·subst q1
  have e1:cR x1 x1=0:=wL.2 rfl
  by_cases q2:x2=y2
  ·subst q2
   have e2:cR x2 x2=0:=wL.2 rfl
   by_cases q3:x3=y3
   ·subst q3
    have e3:cR x3 x3=0:=wL.2 rfl
    by_cases q4:x4=y4
    ·subst q4;simp[gC,e1,e2,e3,cZd]
    ·have:dF x4 y4≠0:=fun h=>q4 (yB.1 h)
     simp[gC,e1,e2,e3,q4,this]
   ·have:cR x3 y3≠0:=fun h=>q3 (wL.1 h)
    simp[gC,e1,e2,q3,this]
  ·have:cR x2 y2≠0:=fun h=>q2 (wL.1 h)
   simp[gC,e1,q2,this]
 ·have:cR x1 y1≠0:=fun h=>q1 (wL.1 h)
  simp[gC,q1,this]
theorem X7 (t u:Tm) (r q:List Tm):eP (t::r) (u::q)=gC (cS t u) (eP r q):=rfl
theorem cZk {x y:Int} (h:x= -1\/x=0\/x=1) (k:y= -1\/y=0\/y=1):gC x y= -1\/gC x y=0\/gC x y=1:=by
 unfold gC;split
 ·exact h
 ·exact k
theorem B2 {x y x' y':Int} (h:x'= -x) (k:y'= -y):gC x' y'= -gC x y:=by
 unfold gC;subst h;subst k;split<;>split<;>omega
theorem aFl {x y:Int}:gC x y=0↔x=0/\y=0:=by unfold gC;split<;>omega
theorem cZl {ts:List Tm}: ∀{us:List Tm},(∀t∈ts,∀u,cS u t= -cS t u)->eP us ts= -eP ts us:=by
 induction ts with
 |nil=>intro us _;cases us<;>simp[eP]
 |cons t r ih=>
  intro us h
  cases us with
  |nil=>simp[eP]
  |cons u q=>rw[X7,X7];exact B2 (h t (by simp) u) (ih fun v hv=>h v (by simp[hv]))
theorem aFm: ∀a b:Tm,cS b a= -cS a b:=by
 refine fM fun a ih b=>?_
 rw[B1,B1 a b]
 exact B2 (X5 _ _) (B2 (X5 _ _) (B2 (X5 _ _) (B2 (aFi _ _) (cZl ih))))
theorem cZm {ts:List Tm}: ∀{us vs:List Tm},(∀t∈ts,∀u v,TR (cS t u) (cS u v) (cS t v))->TR (eP ts us) (eP us vs) (eP ts vs):=by
 induction ts with
 |nil=>
  intro us vs _
  cases us<;>cases vs<;>simp[eP,TR]
 |cons t r ih=>
  intro us vs h
  cases us with
  |nil=>intro h1;simp[eP]at h1
  |cons u q=>
   cases vs with
   |nil=>intro _ h1;simp[eP]at h1
   |cons v p=>
    simp only[X7]
    exact B0 (h t (by simp) u v) (ih fun w hw=>h w (by simp[hw]))
theorem aFn: ∀a b c:Tm,TR (cS a b) (cS b c) (cS a c):=by
 refine fM fun a ih b c=>?_
 rw[B1,B1 b c,B1 a c]
 exact B0 (X6 _ _ _) (B0 (X6 _ _ _) (B0 (X6 _ _ _) (B0 (aN7 _ _ _) (cZm ih))))
theorem cZn {a b:ByteArray} (h:a.size=b.size) (k: ∀i,i<a.size->bt a i=bt b i):a=b:=by
 obtain⟨⟨a⟩⟩:=a
 obtain⟨⟨b⟩⟩:=b
 have hl:a.length=b.length:=h
 congr 2
 refine List.ext_getElem hl fun i h1 h2=>?_
 have:=k i h1
 simp only[bt,List.getD_eq_getElem?_getD,List.getElem?_eq_getElem h1,List.getElem?_eq_getElem h2,Option.getD_some]at this
 exact UInt8.toNat_inj.1 (by omega)
theorem cZo {s s':ByteArray} (h1:(fO s).2=true) (h2:(fO s').2=true) (h:(fO s).1=(fO s').1):s=s':=by
 unfold fO at*
 split at h1
 ·rename_i c1
  split at h2
  ·rename_i c2
   rw[if_pos c1,if_pos c2]at h
   obtain⟨⟨a1,a2,a3⟩,a4⟩:=c1
   obtain⟨⟨b1,b2,b3⟩,b4⟩:=c2
   simp only at h
   have d1: ∀i,i<s.size->48<=bt s i/\bt s i<=57:=fun i hi=>by
    have:=List.all_eq_true.1 a4 i (by simpa using hi);simpa using this
   have d2: ∀i,i<s'.size->48<=bt s' i/\bt s' i<=57:=fun i hi=>by
    have:=List.all_eq_true.1 b4 i (by simpa using hi);simpa using this
   have p0:=d1 0 (by omega)
   have q0:=d2 0 (by omega)
   have n1:s.size=1\/s.size=2\/s.size=3\/s.size=4:=by omega
   have n2:s'.size=1\/s'.size=2\/s'.size=3\/s'.size=4:=by omega
   have key:s.size=s'.size/\ ∀i,i<s.size->bt s i=bt s' i:=by
    rcases n1 with e1|e1|e1|e1<;>rcases n2 with e2|e2|e2|e2<;>rw[e1,e2]at h<;>simp only[jJ]at h
    all_goals
     have p1:=fun hh=>d1 1 hh
     have p2:=fun hh=>d1 2 hh
     have p3:=fun hh=>d1 3 hh
     have q1:=fun hh=>d2 1 hh
     have q2:=fun hh=>d2 2 hh
     have q3:=fun hh=>d2 3 hh
     rw[e1]at p1 p2 p3
     rw[e2]at q1 q2 q3
     simp only[Nat.reduceLT,Nat.lt_irrefl,forall_const,false_implies,implies_true]at p1 p2 p3 q1 q2 q3
     refine⟨by omega,fun i hi=>?_⟩
     have hi4:i=0\/i=1\/i=2\/i=3:=by omega
     rcases hi4 with rfl|rfl|rfl|rfl<;>omega
   exact cZn key.1 key.2
  ·simp at h2
 ·simp at h1
theorem aN8 {ts:List Tm}: ∀{us:List Tm},(∀t∈ts,∀u,cS t u=0↔t=u)->(eP ts us=0↔ts=us):=by
 induction ts with
 |nil=>intro us _;cases us<;>simp[eP]
 |cons t r ih=>
  intro us h
  cases us with
  |nil=>simp[eP]
  |cons u q=>rw[X7,aFl,h t (by simp) u,ih fun v hv=>h v (by simp[hv])];simp
theorem B3: ∀a b:Tm,cS a b=0↔a=b:=by
 refine fM fun a ih b=>?_
 rw[B1]
 simp only[aFl,wL,yB,aN8 ih]
 constructor
 ·rintro⟨h1,h2,h3,h4,h5⟩
  have hn:a.name=b.name:=by
   rcases A9 a with⟨a1,a2,a3⟩|⟨a1,a2⟩
   ·rcases A9 b with⟨b1,b2,b3⟩|⟨b1,b2⟩
    ·rw[a3,b3]at h2
     exact cZo a2 b2 h2
    ·exact absurd (by rw[<-h1,a3]) b1
   ·rcases A9 b with⟨b1,b2,b3⟩|⟨b1,b2⟩
    ·exact absurd (by rw[h1,b3]) a1
    ·rw[a2,b2]at h4;exact h4
  rw[X0 a,X0 b,hn,h5]
 ·rintro rfl;simp
theorem cZp (ts us:List Tm):eP ts us=0↔ts=us:=aN8 fun t _ u=>B3 t u
theorem X8 (a:Tm):cS a a=0:=(B3 a a).2 rfl
open Go.Ab
set_option maxRecDepth 100000
def gI (l:List Tm):Prop:=l.Pairwise fun a b=>cS a b<0
theorem aN9 {a b c:Tm} (h:cS a b<0) (k:cS b c<=0):cS a c<0:=by
 have:=aFn a b c (by omega) k
 omega
theorem cZq {a b c:Tm} (h:cS a b<=0) (k:cS b c<0):cS a c<0:=by
 have:=aFn a b c h (by omega)
 omega
theorem cZr:Pre cS:=⟨fun x y z h k=>(aFn x y z h k).1,fun x y h=>by rw[aFm x y];omega⟩
theorem aOa: ∀{a b:List Tm},gI a->gI b->(∀t,t∈a↔t∈b)->a=b
 | [],[],_,_,_=>rfl
 | [],u::r,_,_,h=>absurd ((h u).2 List.mem_cons_self) (by simp)
 |t::q,[],_,_,h=>absurd ((h t).1 List.mem_cons_self) (by simp)
 |t::q,u::r,ha,hb,h=>by
  obtain⟨a1,a2⟩:=List.pairwise_cons.1 ha
  obtain⟨b1,b2⟩:=List.pairwise_cons.1 hb
  have htu:t=u:=by
   rcases List.mem_cons.1 ((h t).1 List.mem_cons_self)with e|e
   ·exact e
   ·rcases List.mem_cons.1 ((h u).2 List.mem_cons_self)with e2|e2
    ·exact e2.symm
    ·have h1:=a1 _ e2
     have h2:=b1 _ e
     rw[aFm t u]at h2
     omega
  subst htu
  congr 1
  refine aOa a2 b2 fun x=>?_
  constructor
  ·intro hx
   rcases List.mem_cons.1 ((h x).1 (List.mem_cons_of_mem _ hx))with e|e
   ·subst e;have:=a1 _ hx;rw[X8]at this;omega
   ·exact e
  ·intro hx
   rcases List.mem_cons.1 ((h x).2 (List.mem_cons_of_mem _ hx))with e|e
   ·subst e;have:=b1 _ hx;rw[X8]at this;omega
   ·exact e
def fE (t:Tm):List Tm->List Tm
 | []=> [t]
 |u::r=>if cS u t<0 then u::fE t r else if cS u t=0 then u::r else t::u::r
def dK (l:List Tm):List Tm:=l.foldl (fun o t=>fE t o) []
theorem aFo {t x:Tm}: ∀{o:List Tm},x∈fE t o↔x=t\/x∈o
 | []=>by simp[fE]
 |u::r=>by
  unfold fE
  split
  ·simp only[List.mem_cons,aFo (o:=r)]
   constructor<;>(intro h;rcases h with h|h|h<;>simp[h])
  ·split
   ·rename_i h0
    have:u=t:=(B3 _ _).1 h0
    subst this
    simp
   ·simp only[List.mem_cons]
theorem aFp {t:Tm}: ∀{o:List Tm},gI o->gI (fE t o)
 | [],_=>by simp[fE,gI]
 |u::r,h=>by
  obtain⟨h1,h2⟩:=List.pairwise_cons.1 h
  unfold fE
  split
  ·rename_i hu
   refine List.pairwise_cons.2 ⟨fun x hx=>?_,aFp h2⟩
   rcases aFo.1 hx with e|e
   ·rw[e];exact hu
   ·exact h1 x e
  ·split
   ·exact h
   ·rename_i n1 n2
    have hut:cS t u<0:=by rw[aFm u t];omega
    refine List.pairwise_cons.2 ⟨fun x hx=>?_,h⟩
    rcases List.mem_cons.1 hx with e|e
    ·rw[e];exact hut
    ·exact aN9 hut (Int.le_of_lt (h1 x e))
theorem K7: ∀(l o:List Tm),gI o->gI (l.foldl (fun o t=>fE t o) o)/\ ∀x,x∈l.foldl (fun o t=>fE t o) o↔x∈l\/x∈o
 | [],o,h=>⟨h,fun x=>by simp⟩
 |t::r,o,h=>by
  obtain⟨h1,h2⟩:=K7 r (fE t o) (aFp h)
  refine⟨h1,fun x=>?_⟩
  rw[List.foldl_cons,h2,aFo,List.mem_cons]
  constructor
  ·rintro(a|a|a)<;>simp[a]
  ·rintro((a|a)|a)<;>simp[a]
theorem K8 (l:List Tm):gI (dK l):=(K7 l [] List.Pairwise.nil).1
theorem X9 (l:List Tm) (x:Tm):x∈dK l↔x∈l:=by
 have:=(K7 l [] List.Pairwise.nil).2 x
 simpa[dK]using this
def kJ (l:List Tm):Nat->List Tm
 |0=> []
 |i+1=>match l[i]? with
  |some t=>if i=0\/cS (l.getD (i - 1) t) t≠0 then kJ l i++ [t]else kJ l i
  |none=>kJ l i
theorem aOb {l:List Tm} {i:Nat} (h:i<l.length):kJ l (i+1)=if i=0\/cS (l.getD (i - 1) l[i]) l[i]≠0 then kJ l i++ [l[i]]else kJ l i:=by
 rw[kJ,List.getElem?_eq_getElem h]
theorem aOc {l:List Tm} (hs:SrtOn cS l 0 l.length): ∀i,i<=l.length->gI (kJ l i)/\ ∀x,x∈kJ l i↔x∈l.take i
 |0,_=>⟨List.Pairwise.nil,fun x=>by simp[kJ]⟩
 |i+1,hi=>by
  have hlt:i<l.length:=by omega
  obtain⟨h1,h2⟩:=aOc hs i (by omega)
  rw[aOb hlt,hZ hlt]
  split
  ·rename_i hc
   refine⟨List.pairwise_append.2 ⟨h1,by simp,fun x hx y hy=>?_⟩,fun x=>by simp only[List.mem_append,List.mem_singleton,h2]⟩
   simp only[List.mem_singleton]at hy
   subst hy
   rcases hc with rfl|hc
   ·simp[kJ]at hx
   ·rw[h2,List.mem_take_iff_getElem]at hx
    obtain⟨k,hk,rfl⟩:=hx
    have hi0:i - 1<l.length:=by omega
    have hd:l.getD (i - 1) l[i]=l[i - 1]:=by rw[List.getD_eq_getElem?_getD,List.getElem?_eq_getElem hi0];rfl
    rw[hd]at hc
    have h3:=hs (i - 1) i _ _ (Nat.zero_le _) (by omega) hlt (List.getElem?_eq_getElem hi0) (List.getElem?_eq_getElem hlt)
    have h4:cS l[k] l[i - 1]<=0:=by
     by_cases e:k=i - 1
     ·subst e;rw[X8];exact Int.le_refl _
     ·exact hs k (i - 1) _ _ (Nat.zero_le _) (by omega) hi0 (List.getElem?_eq_getElem (by omega)) (List.getElem?_eq_getElem hi0)
    exact cZq h4 (by omega)
  ·rename_i hc
   simp only[not_or,Decidable.not_not]at hc
   refine⟨h1,fun x=>?_⟩
   rw[h2]
   simp only[List.mem_append,List.mem_singleton]
   constructor
   ·exact .inl
   ·rintro(h|rfl)
    ·exact h
    ·have hi0:i - 1<l.length:=by omega
     have hd:l.getD (i - 1) l[i]=l[i - 1]:=by rw[List.getD_eq_getElem?_getD,List.getElem?_eq_getElem hi0];rfl
     rw[hd]at hc
     have e:=(B3 _ _).1 hc.2
     rw[<-e,List.mem_take_iff_getElem]
     exact⟨i - 1,by omega,rfl⟩
theorem cZs {l m:List Tm} (hp:m.Perm l) (hs:SrtOn cS m 0 l.length):kJ m m.length=dK l:=by
 rw[<-hp.length_eq]at hs
 obtain⟨h1,h2⟩:=aOc hs m.length (Nat.le_refl _)
 refine aOa h1 (K8 l) fun x=>?_
 rw[h2,List.take_length,X9,hp.mem_iff]
instance:DecidableEq Tm:=fun a b=>decidable_of_iff (sV a b=true) (X4 a b)
def wM (c:Int->Bool) (s:ByteArray):Nat->Nat->Nat
 |0,i=>i
 |k+1,i=>if i<s.size/\c (bt s i)=true then wM c s k (i+1)else i
def nK (c:Int->Bool) (s:ByteArray) (i:Nat):Nat:=wM c s (s.size - i) i
theorem aFq {c s} {i:Nat} (h:i<s.size) (hc:c (bt s i)=true):nK c s i=nK c s (i+1):=by
 unfold nK
 rw[show s.size - i=(s.size - (i+1))+1 by omega,wM,if_pos ⟨h,hc⟩]
theorem Y0 {c s} {i:Nat} (h: ¬(i<s.size/\c (bt s i)=true)):nK c s i=i:=by
 unfold nK
 cases s.size - i with
 |zero=>rfl
 |succ k=>rw[wM,if_neg h]
theorem aOd {c s}: ∀k i,i<=wM c s k i
 |0,i=>Nat.le_refl i
 |k+1,i=>by
  unfold wM
  split
  ·exact Nat.le_trans (Nat.le_succ i) (aOd k (i+1))
  ·exact Nat.le_refl i
theorem aFr {c s i}:i<=nK c s i:=aOd _ _
theorem aOe {c} {s:ByteArray}: ∀k i,i<=s.size->wM c s k i<=s.size
 |0,i,h=>h
 |k+1,i,h=>by
  unfold wM
  split
  ·exact aOe k (i+1) (by omega)
  ·exact h
theorem aOf {c} {s:ByteArray} {i:Nat} (h:i<=s.size):nK c s i<=s.size:=aOe _ _ h
def Y1 (c:Int):Bool:=decide (c=32)||decide (c=10)
def qU (c:Int):Bool:=decide (c=45)||(decide (48<=c)&&decide (c<=57))||(decide (97<=c)&&decide (c<=122))||(decide (65<=c)&&decide (c<=90))
def mQ (s:ByteArray) (i:Nat):Nat:=nK Y1 s i
def aZ (s:ByteArray) (i:Nat):Nat:=nK qU s (mQ s i)
def bL (s:ByteArray) (i:Nat):ByteArray:=s.extract (mQ s i) (aZ s i)
def bT (s:ByteArray) (c:Int) (i:Nat):Bool:=decide (mQ s i<s.size)&&decide (bt s (mQ s i)=c)
def aW (s:ByteArray) (c:Int) (i:Nat):Nat:=if bT s c i=true then mQ s i+1 else mQ s i
theorem B4 {s i}:i<=mQ s i:=aFr
theorem nL {s i}:i<=aZ s i:=Nat.le_trans B4 aFr
theorem uI {s c i}:i<=aW s c i:=by
 unfold aW;split
 ·exact Nat.le_succ_of_le B4
 ·exact B4
theorem Y2 {s:ByteArray} {i:Nat} (h:i<=s.size):mQ s i<=s.size:=aOf h
theorem nM {s:ByteArray} {i:Nat} (h:i<=s.size):aZ s i<=s.size:=aOf (Y2 h)
theorem sW {s:ByteArray} {c:Int} {i:Nat} (h:i<=s.size):aW s c i<=s.size:=by
 unfold aW;split
 ·rename_i hb
  unfold bT at hb
  simp only[Bool.and_eq_true,decide_eq_true_eq]at hb
  omega
 ·exact Y2 h
theorem yD {s c i} (h:bT s c i=true):i<aW s c i:=by
 unfold aW;rw[if_pos h];exact Nat.lt_succ_of_le B4
theorem aOg {s:ByteArray} {c:Int} {i:Nat} (h:bT s c i=true):i<s.size:=by
 unfold bT at h
 simp only[Bool.and_eq_true,decide_eq_true_eq]at h
 exact Nat.lt_of_le_of_lt B4 h.1
mutual
def nN (s:ByteArray):Nat->ByteArray->Nat->Tm×Nat
 |0,w,i=>(.mk w [],i)
 |f+1,w,i=>if bT s 40 i=true then
  (.mk w (oD s f [] (aW s 40 i)).1,aW s 41 (oD s f [] (aW s 40 i)).2)
  else(.mk w [],aW s 40 i)
def oD (s:ByteArray):Nat->List Tm->Nat->List Tm×Nat
 |0,a,i=>(a,i)
 |f+1,a,i=>if i<s.size then
  if bT s 44 (nN s f (bL s i) (aZ s i)).2=true then oD s f (a++ [(nN s f (bL s i) (aZ s i)).1]) (aW s 44 (nN s f (bL s i) (aZ s i)).2)
  else(a++ [(nN s f (bL s i) (aZ s i)).1],aW s 44 (nN s f (bL s i) (aZ s i)).2)
  else(a,i)
end
theorem Y3 (s:ByteArray): ∀f,(∀w i,i<=(nN s f w i).2)/\(∀a i,i<=(oD s f a i).2)
 |0=>⟨fun _ _=>Nat.le_refl _,fun _ _=>Nat.le_refl _⟩
 |f+1=>by
  obtain⟨h1,h2⟩:=Y3 s f
  constructor
  ·intro w i
   unfold nN
   split
   ·exact Nat.le_trans uI (Nat.le_trans (h2 [] _) uI)
   ·exact uI
  ·intro a i
   unfold oD
   split
   ·split
    ·exact Nat.le_trans nL (Nat.le_trans (h1 _ _) (Nat.le_trans uI (h2 _ _)))
    ·exact Nat.le_trans nL (Nat.le_trans (h1 _ _) uI)
   ·exact Nat.le_refl _
theorem aOh (s:ByteArray): ∀f,(∀w i,i<=s.size->(nN s f w i).2<=s.size)/\(∀a i,i<=s.size->(oD s f a i).2<=s.size)
 |0=>⟨fun _ _ h=>h,fun _ _ h=>h⟩
 |f+1=>by
  obtain⟨h1,h2⟩:=aOh s f
  constructor
  ·intro w i h
   unfold nN
   split
   ·exact sW (h2 [] _ (sW h))
   ·exact sW h
  ·intro a i h
   unfold oD
   split
   ·split
    ·exact h2 _ _ (sW (h1 _ _ (nM h)))
    ·exact sW (h1 _ _ (nM h))
   ·exact h
theorem K9 (s:ByteArray): ∀f f',(∀w i,2*(s.size - i)<f->2*(s.size - i)<f'->nN s f w i=nN s f' w i)/\(∀a i,2*(s.size - i)+1<f->2*(s.size - i)+1<f'->oD s f a i=oD s f' a i)
 |0,_=>⟨fun _ _ h=>absurd h (Nat.not_lt_zero _),fun _ _ h=>absurd h (Nat.not_lt_zero _)⟩
 |_+1,0=>⟨fun _ _ _ h=>absurd h (Nat.not_lt_zero _),fun _ _ _ h=>absurd h (Nat.not_lt_zero _)⟩
 |f+1,f'+1=>by
  obtain⟨h1,h2⟩:=K9 s f f'
  constructor
  ·intro w i ha hb
   unfold nN
   split
   ·rename_i hs
    have:=yD hs
    have:=aOg hs
    rw[h2 [] (aW s 40 i) (by omega) (by omega)]
   ·rfl
  ·intro a i ha hb
   unfold oD
   split
   ·rename_i hi
    have hw:=nL (s:=s) (i:=i)
    rw[h1 (bL s i) (aZ s i) (by omega) (by omega)]
    split
    ·rename_i hs
     have:=yD hs
     have:=(Y3 s f').1 (bL s i) (aZ s i)
     exact h2 _ _ (by omega) (by omega)
    ·rfl
   ·rfl
def cD (s:ByteArray) (w:ByteArray) (i:Nat):Tm×Nat:=nN s (2*s.size+2) w i
def dY (s:ByteArray) (a:List Tm) (i:Nat):List Tm×Nat:=oD s (2*s.size+2) a i
theorem iG {s w i} (h:bT s 40 i=false):cD s w i=(.mk w [],aW s 40 i):=by
 unfold cD;rw[nN,if_neg (by simp[h])]
theorem kK {s w i} (h:bT s 40 i=true):cD s w i=(.mk w (dY s [] (aW s 40 i)).1,aW s 41 (dY s [] (aW s 40 i)).2):=by
 unfold cD dY
 have:=yD h
 have:=aOg h
 rw[nN,if_pos h,(K9 s (2*s.size+1) (2*s.size+2)).2 [] _ (by omega) (by omega)]
theorem aOi {s:ByteArray} {a:List Tm} {i:Nat} (h: ¬i<s.size):dY s a i=(a,i):=by
 unfold dY;rw[oD,if_neg h]
theorem iK {s:ByteArray} {a:List Tm} {i:Nat} (h:i<s.size) (hs:bT s 44 (cD s (bL s i) (aZ s i)).2=false):dY s a i=(a++ [(cD s (bL s i) (aZ s i)).1],aW s 44 (cD s (bL s i) (aZ s i)).2):=by
 unfold dY
 have hw:=nL (s:=s) (i:=i)
 rw[oD,if_pos h,(K9 s (2*s.size+1) (2*s.size+2)).1 (bL s i) (aZ s i) (by omega) (by omega)]
 rw[<-cD,if_neg (by simp[hs])]
theorem pT {s:ByteArray} {a:List Tm} {i:Nat} (h:i<s.size) (hs:bT s 44 (cD s (bL s i) (aZ s i)).2=true):dY s a i=dY s (a++ [(cD s (bL s i) (aZ s i)).1]) (aW s 44 (cD s (bL s i) (aZ s i)).2):=by
 have hw:=nL (s:=s) (i:=i)
 have h3:i<=(cD s (bL s i) (aZ s i)).2:=Nat.le_trans hw ((Y3 s _).1 _ _)
 have h4:=yD hs
 unfold dY
 rw[oD,if_pos h,(K9 s (2*s.size+1) (2*s.size+2)).1 (bL s i) (aZ s i) (by omega) (by omega)]
 rw[<-cD,if_pos hs,(K9 s (2*s.size+1) (2*s.size+2)).2 _ _ (by omega) (by omega)]
theorem wN {s w i}:i<=(cD s w i).2:=(Y3 s _).1 w i
theorem yE {s:ByteArray} {w i} (h:i<=s.size):(cD s w i).2<=s.size:=(aOh s _).1 w i h
def sX (s:ByteArray):List Tm:=(dY s [] 0).1
open Go.Ab
set_option maxRecDepth 100000
structure Bd where
 v:ByteArray
 t:Tm
abbrev jK (x:Bd):AV:= .agg [.sc (.string x.v),.sc (.string x.t.name),.list false false (x.t.args.map aP)]
structure Lt where
 neg:Bool
 atom:Tm
abbrev lV (x:Lt):AV:= .agg [bl x.neg,.sc (.string x.atom.name),.list false false (x.atom.args.map aP)]
structure Rl where
 head:Tm
 body:List Lt
abbrev fP (x:Rl):AV:= .agg [.sc (.string x.head.name),.list false false (x.head.args.map aP),.list false false (x.body.map lV)]
def pU (t:Tm):Bool:=decide (t.args.length=0)&&(decide (t.name.size≠0)&&(decide (65<=bt t.name 0)&&decide (bt t.name 0<=90)))
mutual
def gQ:Tm->ByteArray
 | .mk n ts=>lW (n++⟨#[40]⟩) ts++⟨#[41]⟩
def lW:ByteArray->List Tm->ByteArray
 |a,[]=>a
 |a,t::ts=>lW (a++(gQ t++⟨#[44]⟩)) ts
end
mutual
def fY:Tm->Nat
 | .mk n ts=>n.size+2+gD ts
def gD:List Tm->Nat
 | []=>0
 |t::ts=>fY t+1+gD ts
end
theorem uJ {n:ByteArray} {ts:List Tm}:fY (.mk n ts)=n.size+2+gD ts:=by rw[fY]
theorem L0 (a b:ByteArray):(a++b).size=a.size+b.size:=ByteArray.size_append
theorem aFs: ∀{ts:List Tm} {a:ByteArray},(∀t∈ts,(gQ t).size=fY t)->(lW a ts).size=a.size+gD ts
 | [],a,_=>by simp[lW,gD]
 |t::ts,a,h=>by
  rw[lW,aFs fun u hu=>h u (by simp[hu]),L0,L0,h t (by simp),gD]
  have:(⟨#[44]⟩:ByteArray).size=1:=rfl
  omega
theorem aOj: ∀t:Tm,(gQ t).size=fY t:=by
 refine fM fun t ih=>?_
 obtain⟨n,ts⟩:=t
 simp only[cM]at ih
 rw[gQ,L0,aFs ih,L0,uJ]
 have h1:(⟨#[40]⟩:ByteArray).size=1:=rfl
 have h2:(⟨#[41]⟩:ByteArray).size=1:=rfl
 omega
theorem aOk: ∀{ts us:List Tm} {a:ByteArray},lW a (ts++us)=lW (lW a ts) us
 | [],_,_=>rfl
 |t::ts,us,a=>by rw[List.cons_append,lW,lW,aOk]
theorem cZt {ts:List Tm} {a:ByteArray} {i:Nat} (h:i<ts.length):lW a (ts.take (i+1))=lW a (ts.take i)++(gQ ts[i]++⟨#[44]⟩):=by
 rw[hZ h,aOk];rfl
theorem aOl: ∀{a b:List Tm},gD (a++b)=gD a+gD b
 | [],b=>by simp[gD]
 |t::r,b=>by rw[List.cons_append,gD,gD,aOl];omega
theorem cZu {ts:List Tm} {i:Nat}:gD (ts.take i)<=gD ts:=by
 have:=aOl (a:=ts.take i) (b:=ts.drop i)
 rw[List.take_append_drop]at this;omega
theorem aOm: ∀{ts:List Tm} {t:Tm},t∈ts->fY t+1<=gD ts
 |u::r,t,h=>by
  rcases List.mem_cons.1 h with rfl|h
  ·rw[gD];omega
  ·have:=aOm h;rw[gD];omega
def gW (s:List Bd) (n:ByteArray):Option Tm:=(s.find? fun b=>decide (b.v=n)).map Bd.t
def pV (s:List Bd) (n:ByteArray) (t:Tm):Option Tm->List Bd×Bool
 |some u=>(s,decide (u=t))
 |none=>(s++ [⟨n,t⟩],true)
def yF (t:Tm):Option Tm->Tm×Bool
 |some u=>(u,true)
 |none=>(t,false)
def aOn (n:ByteArray) (ts:List Tm):Option (List Tm)->Tm×Bool
 |some l=>(.mk n l,true)
 |none=>(.mk n ts,false)
mutual
def gJ:Tm->Tm->List Bd->List Bd×Bool
 | .mk n ps,t,s=>if pU (.mk n ps)=true then pV s n t (gW s n)else if n=t.name/\ps.length=t.args.length then lX ps t.args s else([],false)
def lX:List Tm->List Tm->List Bd->List Bd×Bool
 | [],_,s=>(s,true)
 |_::_,[],s=>(s,true)
 |p::ps,t::ts,s=>if(gJ p t s).2=true then lX ps ts (gJ p t s).1 else gJ p t s
end
mutual
def iZ:Tm->List Bd->Tm×Bool
 | .mk n ts,s=>if pU (.mk n ts)=true then yF (.mk n ts) (gW s n)else aOn n ts (mR ts s)
def mR:List Tm->List Bd->Option (List Tm)
 | [],_=>some []
 |t::ts,s=>if(iZ t s).2=true then(mR ts s).map fun l=>(iZ t s).1::l else none
end
mutual
def eQ (q M:Nat):Tm->Prop
 | .mk n ts=>n.size<=M/\ts.length<=q/\sY q M ts
def sY (q M:Nat):List Tm->Prop
 | []=>True
 |t::ts=>eQ q M t/\sY q M ts
end
theorem oE {q M:Nat} {n:ByteArray} {ts:List Tm}:eQ q M (.mk n ts)↔n.size<=M/\ts.length<=q/\sY q M ts:=by rw[eQ]
theorem wO {q M:Nat}: ∀{l:List Tm},sY q M l↔ ∀t∈l,eQ q M t
 | []=>by simp[sY]
 |t::r=>by rw[sY,wO];simp
theorem aFy {n:ByteArray} {ts:List Tm} {t:Tm} (h:t∈ts):t.depth+1<=(Tm.mk n ts).depth:=by
 rw[qS (.mk n ts),cM]
 have: ∀{l:List Tm},t∈l->t.depth<=fL l:=by
  intro l
  induction l with
  |nil=>intro h;simp at h
  |cons u r ih=>
   intro h
   rw[fL]
   rcases List.mem_cons.1 h with rfl|h
   ·omega
   ·have:=ih h;omega
 have:=this h
 omega
theorem aOq {q M:Nat}: ∀{t:Tm},eQ q M t->fY t<=t.size*(M+3):=by
 have key: ∀t:Tm,eQ q M t->fY t+1<=t.size*(M+3):=by
  refine fM fun t ih h=>?_
  obtain⟨n,ts⟩:=t
  simp only[cM]at ih
  obtain⟨h1,h2,h3⟩:=oE.1 h
  have: ∀{l:List Tm},(∀t∈l,fY t+1<=t.size*(M+3))->gD l<=dV l*(M+3):=by
   intro l
   induction l with
   |nil=>intro _;simp[gD]
   |cons u r ih=>
    intro h
    have a:=h u (by simp)
    have b:=ih fun v hv=>h v (by simp[hv])
    rw[gD,dV,Nat.add_mul];omega
  have h4:=this fun t ht=>ih t ht (wO.1 h3 t ht)
  rw[uJ,gV,cM,Nat.add_mul];omega
 exact fun {t} h=>by have:=key t h;omega
end Go.Proofs.YtgmibdiofkmmbaaGreatDoor
