import Derived.Test.YtbgckcdddlmiaaaGreatDoorS1
import Derived.Lib.Strings
import Derived.Lib.Slices
import Derived.Lib.Walk
import Derived.Lib.Bytealg
import Derived.Test.YtbgckcdddlmiaaaGreatDoorA7
set_option linter.unusedSectionVars false
set_option linter.unusedSimpArgs false
set_option linter.unusedVariables false
open Go.Proofs.Tryz
namespace Go.Proofs.YtbgckcdddlmiaaaGreatDoor
open Go.Ab Go.RowKit
variable [Glob prog]
set_option maxRecDepth 100000
set_option maxHeartbeats 4000000
theorem bG4 (a b:ByteArray) (w:World):
 Calls prog 145 #[.string a,.string b] w fun e w'=>e= .returned (.int .i64 (Lib.compareBytes a.data.toList b.data.toList))/\w'=w:=by
 go_enter func145,ntmps145
 go_wp2
 rw[run_callFunc_extern func170 (by kernel_rfl) (by kernel_rfl) (by kernel_rfl) (e:=Extern.BytealgCompare.compare) (by kernel_rfl),Lib.run_compareString]
 simp only[Result.andThen]
 rw[Oper.upon_value]
 go_wp2
 go_ret
 exact⟨rfl,rfl⟩
theorem APost.refl {F:Bool->aY} {w:World} (h:Fok F w):APost F w F w:=⟨h,FLe.refl _,fun _ _ _ h=> .inl h,fun _ _ _ h=> .inl h,Fr.refl _ _⟩
def dP (a b:ByteArray):Int:=Lib.compareBytes a.data.toList b.data.toList
theorem bG5 (a b:ByteArray):ACall prog 145 [.sc (.string a),.sc (.string b)] (fun r=>r=nt .i64 (dP a b)):=by
 refine⟨call145,fun w F cargs h0 h1 h2 h3=>?_⟩
 obtain⟨l⟩:=cargs
 match l,h2,h3 with
 | [v0,v1],_,h3=>
  have g0:=h3 0 _ v0 rfl rfl
  have g1:=h3 1 _ v1 rfl rfl
  cases g0
  cases g1
  exact(bG4 a b w).mono fun e w' ⟨he,hw⟩=>by
   subst hw
   exact⟨_,nt .i64 (dP a b),F,he,rfl,APost.refl h1,none,rfl,.sc rfl⟩
theorem bG6 (a b:ByteArray):ACall prog 116 [.sc (.string a),.sc (.string b)] (fun r=>r=nt .i64 (dP a b)):=by
 have h:=bG5 a b
 generalize dP a b=c at*
 refine aU func116 call116 rfl (by simp[ntmps116]) ?_;simp only[ntmps116,results116]
 repeat' (first|(refine aC fun _ _=>?_)|refine zHg ?_|(refine aN [] ?_;simp[go_sem])|refine aO rfl (h) (by simp) ?_|simp(disch:=omega) [go_sem])
theorem aFh: ∀a b:List UInt8,Lib.compareBytes a b= -1\/Lib.compareBytes a b=0\/Lib.compareBytes a b=1
 | [],[]=>by simp[Lib.compareBytes]
 | [],_::_=>by simp[Lib.compareBytes]
 |_::_,[]=>by simp[Lib.compareBytes]
 |a::xs,b::bs=>by
  simp only[Lib.compareBytes]
  split
  ·simp
  ·split
   ·simp
   ·exact aFh xs bs
theorem aFi: ∀a b:List UInt8,Lib.compareBytes a b=0↔a=b
 | [],[]=>by simp[Lib.compareBytes]
 | [],_::_=>by simp[Lib.compareBytes]
 |_::_,[]=>by simp[Lib.compareBytes]
 |a::xs,b::bs=>by
  simp only[Lib.compareBytes]
  split
  ·rename_i h
   have:a≠b:=fun e=>by subst e;exact UInt8.lt_irrefl _ h
   simp[this]
  ·split
   ·rename_i h
    have:a≠b:=fun e=>by subst e;exact UInt8.lt_irrefl _ h
    simp[this]
   ·rename_i h1 h2
    have:a=b:=UInt8.le_antisymm (UInt8.not_lt.1 h2) (UInt8.not_lt.1 h1)
    subst this
    rw[aFi xs bs];simp
theorem aFj: ∀a b:List UInt8,Lib.compareBytes b a= -Lib.compareBytes a b
 | [],[]=>by simp[Lib.compareBytes]
 | [],_::_=>by simp[Lib.compareBytes]
 |_::_,[]=>by simp[Lib.compareBytes]
 |a::xs,b::bs=>by
  simp only[Lib.compareBytes]
  by_cases h1:a<b
  ·have h2: ¬b<a:=fun h=>UInt8.lt_irrefl _ (UInt8.lt_trans h h1)
   simp[h1,h2]
  ·by_cases h2:b<a
   ·simp[h1,h2]
   ·simp[h1,h2,aFj xs bs]
theorem aFk: ∀a b c:List UInt8,Lib.compareBytes a b<=0->Lib.compareBytes b c<=0->Lib.compareBytes a c<=0
 | [],_,[],_,_=>by simp[Lib.compareBytes]
 | [],_,_::_,_,_=>by simp[Lib.compareBytes]
 |a::xs,[],_,h,_=>by simp[Lib.compareBytes]at h
 |a::xs,b::bs,[],_,h=>by simp[Lib.compareBytes]at h
 |a::xs,b::bs,c::cs,h1,h2=>by
  simp only[Lib.compareBytes]at*
  by_cases hac:a<c
  ·simp[hac]
  ·by_cases hab:a<b
   ·have hcb:c<b:=Nat.lt_of_le_of_lt (UInt8.not_lt.1 hac) hab
    have hbc: ¬b<c:=fun h=>UInt8.lt_irrefl _ (UInt8.lt_trans h hcb)
    rw[if_neg hbc,if_pos hcb]at h2
    omega
   ·rw[if_neg hab]at h1
    by_cases hba:b<a
    ·rw[if_pos hba]at h1;omega
    ·rw[if_neg hba]at h1
     have e:a=b:=UInt8.le_antisymm (UInt8.not_lt.1 hba) (UInt8.not_lt.1 hab)
     subst e
     rw[if_neg hac]at h2
     by_cases hca:c<a
     ·rw[if_pos hca]at h2;omega
     ·rw[if_neg hca]at h2
      rw[if_neg hac,if_neg hca]
      exact aFk xs bs cs h1 h2
theorem aFl: ∀a b:List UInt8,Op.bytesLess a b=decide (Lib.compareBytes a b<0)
 | [],[]=>by simp[Lib.compareBytes,Op.bytesLess]
 | [],_::_=>by simp[Lib.compareBytes,Op.bytesLess]
 |_::_,[]=>by simp[Lib.compareBytes,Op.bytesLess]
 |a::xs,b::bs=>by
  simp only[Lib.compareBytes,Op.bytesLess]
  by_cases h1:a<b
  ·simp[h1]
  ·by_cases h2:b<a
   ·have:a≠b:=fun e=>by subst e;exact UInt8.lt_irrefl _ h2
    simp[h1,h2,this]
   ·have:a=b:=UInt8.le_antisymm (UInt8.not_lt.1 h2) (UInt8.not_lt.1 h1)
    subst this
    simp[UInt8.lt_irrefl,aFl xs bs]
theorem bG7 (a b:ByteArray):dP a b= -1\/dP a b=0\/dP a b=1:=aFh _ _
theorem uU {a b:ByteArray}:dP a b=0↔a=b:=by
 unfold dP
 rw[aFi]
 constructor
 ·intro h
  obtain⟨⟨a⟩⟩:=a;obtain⟨⟨b⟩⟩:=b
  simp only at h;subst h;rfl
 ·rintro rfl;rfl
theorem aFm (a b:ByteArray):dP b a= -dP a b:=aFj _ _
theorem bG8 {a b c:ByteArray} (h1:dP a b<=0) (h2:dP b c<=0):dP a c<=0:=aFk _ _ _ h1 h2
theorem toList_data (a:ByteArray):a.toList=a.data.toList:=Lib.toList_data a
theorem bG9 (a b:ByteArray):Op.bytesLess a.toList b.toList=decide (dP a b<0):=by
 rw[toList_data,toList_data,aFl];rfl
theorem bHa (a:ByteArray):dP a a=0:=uU.2 rfl
def bZ (a b:Int):Int:=if a<b then -1 else if b<a then 1 else 0
theorem D2 (a b:Int):ACall prog 115 [nt .i64 a,nt .i64 b] (fun r=>r=nt .i64 (bZ a b)):=by
 unfold bZ
 refine aU func115 call115 rfl (by simp[ntmps115]) ?_;simp only[ntmps115,results115]
 repeat' (first|(refine aC fun _ _=>?_)|refine zHg ?_|(refine zqd ?_ ?_<;>(intro h;(simp only[h,zT])))|(refine aN [] ?_;simp[go_sem])|simp(disch:=omega) [go_sem])
 all_goals(first|omega|simp[*])
theorem D3 (a b:Int):ACall prog 149 [nt .i64 a,nt .i64 b] (fun r=>r=nt .i64 (bZ a b)):=by
 unfold bZ
 refine aU func149 call149 rfl (by simp[ntmps149]) ?_;simp only[ntmps149,results149]
 repeat' (first|(refine aC fun _ _=>?_)|refine zHg ?_|(refine zqd ?_ ?_<;>(intro h;(simp only[h,zT])))|(refine aN [] ?_;simp[go_sem])|simp(disch:=omega) [go_sem])
 all_goals(first|omega|simp[*])
theorem bHb (a b:ByteArray):ACall prog 152 [.sc (.string a),.sc (.string b)] (fun r=>r=nt .i64 (dP a b)):=by
 have hr:=bG7 a b
 have hz:=uU (a:=a) (b:=b)
 have hs:=bG9 a b
 generalize dP a b=c at*
 by_cases he:a=b
 ·subst he
  have:c=0:=hz.2 rfl
  subst this
  simp at hs
  refine aU func152 call152 rfl (by simp[ntmps152]) ?_;simp only[ntmps152,results152]
  repeat' (first|(refine aC fun _ _=>?_)|refine zHg ?_|(refine aN [] ?_;simp[go_sem,hs])|simp(disch:=omega) [go_sem,hs])
 ·have hc:c≠0:=fun h=>he (hz.1 h)
  refine aU func152 call152 rfl (by simp[ntmps152]) ?_;simp only[ntmps152,results152]
  repeat' (first|(refine aC fun _ _=>?_)|refine zHg ?_|((first|refine zqd ?_ ?_|refine zqn ?_ ?_)<;>(intro h;first|(exfalso;omega)|(simp only[h,zT])))|(refine aN [] ?_;simp[go_sem,hs,he])|simp(disch:=omega) [go_sem,hs,he])
  all_goals omega
def kd (t:Tm):Int×Int×Int×ByteArray:=
 if 0<t.args.length then(3,0,t.args.length,t.name)
 else if(dZ t.name).2=true then(0,(dZ t.name).1,0,ByteArray.mk #[])
 else if oY t.name=true then(2,0,0,t.name)
 else(1,0,0,t.name)
abbrev eK (k:Int×Int×Int×ByteArray):AV:= .agg [nt .i64 k.1,nt .i64 k.2.1,nt .i64 k.2.2.1,.sc (.string k.2.2.2)]
theorem aFn (t:Tm):ACall prog 113 [eT t] (fun r=>r=eK (kd t)):=by
 have h1:=aFd t.name
 have h2:=bG0 t.name
 unfold kd
 by_cases h0:0<t.args.length
 ·rw[if_pos h0]
  have h0':(0:Int)<t.args.length:=by omega
  refine aU func113 call113 rfl (by simp[ntmps113]) ?_;simp only[ntmps113,results113]
  repeat' (first|(refine aC fun _ _=>?_)|refine zHg ?_|(refine aN [] ?_;simp[go_sem,h0])|simp(disch:=omega) [go_sem,h0])
 ·rw[if_neg h0]
  generalize dZ t.name=q at*
  obtain⟨v,b⟩:=q
  dsimp only at*
  cases b
  ·generalize oY t.name=c at*
   cases c
   ·refine aU func113 call113 rfl (by simp[ntmps113]) ?_;simp only[ntmps113,results113]
    repeat' (first|(refine aC fun _ _=>?_)|refine zHg ?_|(refine aN [] ?_;simp[go_sem,h0])|refine aO rfl (h1) (by simp) ?_|refine aO rfl (h2) (by simp) ?_|simp(disch:=omega) [go_sem,h0])
   ·refine aU func113 call113 rfl (by simp[ntmps113]) ?_;simp only[ntmps113,results113]
    repeat' (first|(refine aC fun _ _=>?_)|refine zHg ?_|(refine aN [] ?_;simp[go_sem,h0])|refine aO rfl (h1) (by simp) ?_|refine aO rfl (h2) (by simp) ?_|simp(disch:=omega) [go_sem,h0])
  ·refine aU func113 call113 rfl (by simp[ntmps113]) ?_;simp only[ntmps113,results113]
   repeat' (first|(refine aC fun _ _=>?_)|refine zHg ?_|(refine aN [] ?_;simp[go_sem,h0])|refine aO rfl (h1) (by simp) ?_|simp(disch:=omega) [go_sem,h0])
mutual
def cJ:Tm->Tm->Int
 | .mk s ts,b=>
  let x:=kd (.mk s ts)
  let y:=kd b
  if x=y then dI ts b.args
  else if x.1≠y.1 then bZ x.1 y.1
  else if x.2.1≠y.2.1 then bZ x.2.1 y.2.1
  else if x.2.2.1≠y.2.2.1 then bZ x.2.2.1 y.2.2.1
  else dP x.2.2.2 y.2.2.2
def dI:List Tm->List Tm->Int
 | [],[]=>0
 | [],_::_=> -1
 |_::_,[]=>1
 |t::r,u::q=>if cJ t u≠0 then cJ t u else dI r q
end
theorem S5 {a b:Tm}:cJ a b=if kd a=kd b then dI a.args b.args
 else if(kd a).1≠(kd b).1 then bZ (kd a).1 (kd b).1
 else if(kd a).2.1≠(kd b).2.1 then bZ (kd a).2.1 (kd b).2.1
 else if(kd a).2.2.1≠(kd b).2.2.1 then bZ (kd a).2.2.1 (kd b).2.2.1
 else dP (kd a).2.2.2 (kd b).2.2.2:=by cases a;rfl
theorem bHd (ts us:List Tm) (l f l' f':Bool) (h: ∀t∈ts,∀u,ACall prog 64 [eT t,eT u] (fun r=>r=nt .i64 (cJ t u))):
 ACall prog 114 [.list l f (ts.map aI),.list l' f' (us.map aI)] (fun r=>r=nt .i64 (dI ts us)):=by
 refine ACall.bound (i:=0) rfl call114 fun hb=>?_
 rw[List.length_map]at hb
 have hb:ts.length<=140737488355328:=hb
 have ho:=D2 ts.length us.length
 generalize hR:dI ts us=R
 refine aU func114 call114 rfl (by simp[ntmps114]) ?_;simp only[ntmps114,results114]
 repeat' (first|(refine aC fun _ _=>?_)|refine zHg ?_|simp(disch:=omega) [go_sem])
 refine bS [0,1] [] (fun i:Nat=> [(5,nt .i64 i)]) (fun i:Nat=> []) (fun i:Nat=>ts.length - i) (fun i:Nat=>i<=ts.length/\i<=us.length/\dI (ts.drop i) (us.drop i)=R) (0) (Le.sub4 rfl (by simp[go_sem])) ⟨?_⟩ ?_
 ·exact⟨Nat.zero_le _,Nat.zero_le _,by simpa using hR⟩
 intro i ⟨hi,hi2,hc⟩ AA hAA;simp only[kL,Nat.reduceBEq,Nat.reduceEqDiff]
 by_cases h1:i<ts.length
 ·by_cases h2:i<us.length
  ·have hu:=h ts[i] (List.getElem_mem h1) us[i]
   rw[List.drop_eq_getElem_cons h1,List.drop_eq_getElem_cons h2]at hc
   simp only[dI]at hc
   generalize cJ ts[i] us[i]=c at*
   by_cases hz:c=0
   ·subst hz
    simp at hc
    repeat' (first|(refine aC fun _ _=>?_)|refine zHg ?_|refine bR rfl (hu) rfl (by simp) ?_|(refine(hAA.next (i+1) (Le.sub4 rfl (by simp[go_sem])) (by(try dsimp only);omega) ?_))|simp(disch:=omega) [go_sem,h1,h2]|refine zDr 10 aQ ?_|fail)
    exact⟨⟨h1,h2,hc⟩⟩
   ·simp only[ne_eq,hz,not_false_eq_true,if_true]at hc
    repeat' (first|(refine aC fun _ _=>?_)|refine zHg ?_|(refine zqn ?_ ?_<;>(intro h;first|(exfalso;omega)|(simp only[h,zT])))|(refine aN [] ?_;simp[go_sem,h1,h2,hz,hc])|refine bR rfl (hu) rfl (by simp) ?_|simp(disch:=omega) [go_sem,h1,h2,hz,hc]|refine zDr 10 aQ ?_|fail)
  ·have e1:us.drop i= []:=List.drop_of_length_le (by omega)
   rw[List.drop_eq_getElem_cons h1,e1]at hc
   simp only[dI]at hc
   have e2:bZ ts.length us.length=1:=by unfold bZ;rw[if_neg (by omega),if_pos (by omega)]
   rw[e2]at ho
   repeat' (first|(refine aC fun _ _=>?_)|refine zHg ?_|(refine aN [] ?_;simp[go_sem,h1,h2,hc])|refine aO rfl (ho) (by simp) ?_|simp(disch:=omega) [go_sem,h1,h2,hc])
 ·have e1:ts.drop i= []:=List.drop_of_length_le (by omega)
  by_cases h2:i<us.length
  ·rw[List.drop_eq_getElem_cons h2,e1]at hc
   simp only[dI]at hc
   have e2:bZ ts.length us.length= -1:=by unfold bZ;rw[if_pos (by omega)]
   rw[e2]at ho
   repeat' (first|(refine aC fun _ _=>?_)|refine zHg ?_|(refine aN [] ?_;simp[go_sem,h1,h2,hc])|refine aO rfl (ho) (by simp) ?_|simp(disch:=omega) [go_sem,h1,h2,hc])
  ·have e3:us.drop i= []:=List.drop_of_length_le (by omega)
   rw[e1,e3]at hc
   simp only[dI]at hc
   have e2:bZ ts.length us.length=0:=by unfold bZ;rw[if_neg (by omega),if_neg (by omega)]
   rw[e2]at ho
   repeat' (first|(refine aC fun _ _=>?_)|refine zHg ?_|(refine aN [] ?_;simp[go_sem,h1,h2,hc])|refine aO rfl (ho) (by simp) ?_|simp(disch:=omega) [go_sem,h1,h2,hc])
theorem aFo: ∀a b:Tm,ACall prog 64 [eT a,eT b] (fun r=>r=nt .i64 (cJ a b)):=by
 refine eX fun a ih b=>?_
 have h1:=aFn a
 have h2:=aFn b
 have h3:=bHd a.args b.args false false false false ih
 rw[S5]
 have ho1:=D2 (kd a).1 (kd b).1
 have ho2:=D2 (kd a).2.1 (kd b).2.1
 have ho3:=D2 (kd a).2.2.1 (kd b).2.2.1
 have ho4:=bG6 (kd a).2.2.2 (kd b).2.2.2
 generalize dI a.args b.args=c at*
 generalize kd a=x at*
 generalize kd b=y at*
 obtain⟨x1,x2,x3,x4⟩:=x
 obtain⟨y1,y2,y3,y4⟩:=y
 dsimp only at*
 generalize bZ x1 y1=o1 at*
 generalize bZ x2 y2=o2 at*
 generalize bZ x3 y3=o3 at*
 generalize dP x4 y4=o4 at*
 refine aU func64 call64 rfl (by simp[ntmps64]) ?_;simp only[ntmps64,results64]
 by_cases q1:x1=y1
 ·by_cases q2:x2=y2
  ·by_cases q3:x3=y3
   ·by_cases q4:x4=y4
    ·subst q1;subst q2;subst q3;subst q4
     repeat' (first|(refine aC fun _ _=>?_)|refine zHg ?_|(refine aN [] ?_;simp[go_sem])|refine bR rfl (h1) rfl (by simp) ?_|refine bR rfl (h2) rfl (by simp) ?_|refine aO rfl (h3) (by simp) ?_|simp(disch:=omega) [go_sem]|refine zDr 6 aQ ?_|fail)
    ·subst q1;subst q2;subst q3
     repeat' (first|(refine aC fun _ _=>?_)|refine zHg ?_|(refine aN [] ?_;simp[go_sem,q4])|refine bR rfl (h1) rfl (by simp) ?_|refine bR rfl (h2) rfl (by simp) ?_|refine aO rfl (ho4) (by simp) ?_|simp(disch:=omega) [go_sem,q4]|refine zDr 6 aQ ?_|fail)
   ·subst q1;subst q2
    repeat' (first|(refine aC fun _ _=>?_)|refine zHg ?_|(refine aN [] ?_;simp[go_sem,q3])|refine bR rfl (h1) rfl (by simp) ?_|refine bR rfl (h2) rfl (by simp) ?_|refine aO rfl (ho3) (by simp) ?_|simp(disch:=omega) [go_sem,q3]|refine zDr 6 aQ ?_|fail)
  ·subst q1
   repeat' (first|(refine aC fun _ _=>?_)|refine zHg ?_|(refine aN [] ?_;simp[go_sem,q2])|refine bR rfl (h1) rfl (by simp) ?_|refine bR rfl (h2) rfl (by simp) ?_|refine aO rfl (ho2) (by simp) ?_|simp(disch:=omega) [go_sem,q2]|refine zDr 6 aQ ?_|fail)
 ·repeat' (first|(refine aC fun _ _=>?_)|refine zHg ?_|(refine aN [] ?_;simp[go_sem,q1])|refine bR rfl (h1) rfl (by simp) ?_|refine bR rfl (h2) rfl (by simp) ?_|refine aO rfl (ho1) (by simp) ?_|simp(disch:=omega) [go_sem,q1]|refine zDr 6 aQ ?_|fail)
open Go.Ab
set_option maxRecDepth 100000
set_option maxHeartbeats 4000000
theorem bHe (ts us:List Tm) (l f l' f':Bool) (h: ∀t∈ts,∀u,ACall prog 119 [eT t,eT u] (fun r=>r=nt .i64 (cJ t u))):
 ACall prog 153 [.list l f (ts.map aI),.list l' f' (us.map aI)] (fun r=>r=nt .i64 (dI ts us)):=by
 refine ACall.bound (i:=0) rfl call153 fun hb=>?_
 rw[List.length_map]at hb
 have hb:ts.length<=140737488355328:=hb
 have ho:=D3 ts.length us.length
 generalize hR:dI ts us=R
 refine aU func153 call153 rfl (by simp[ntmps153]) ?_;simp only[ntmps153,results153]
 repeat' (first|(refine aC fun _ _=>?_)|refine zHg ?_|simp(disch:=omega) [go_sem])
 refine bS [0,1] [] (fun i:Nat=> [(5,nt .i64 i)]) (fun i:Nat=> []) (fun i:Nat=>ts.length - i) (fun i:Nat=>i<=ts.length/\i<=us.length/\dI (ts.drop i) (us.drop i)=R) (0) (Le.sub4 rfl (by simp[go_sem])) ⟨?_⟩ ?_
 ·exact⟨Nat.zero_le _,Nat.zero_le _,by simpa using hR⟩
 intro i ⟨hi,hi2,hc⟩ AA hAA;simp only[kL,Nat.reduceBEq,Nat.reduceEqDiff]
 by_cases h1:i<ts.length
 ·by_cases h2:i<us.length
  ·have hu:=h ts[i] (List.getElem_mem h1) us[i]
   rw[List.drop_eq_getElem_cons h1,List.drop_eq_getElem_cons h2]at hc
   simp only[dI]at hc
   generalize cJ ts[i] us[i]=c at*
   by_cases hz:c=0
   ·subst hz
    simp at hc
    repeat' (first|(refine aC fun _ _=>?_)|refine zHg ?_|refine bR rfl (hu) rfl (by simp) ?_|(refine(hAA.next (i+1) (Le.sub4 rfl (by simp[go_sem])) (by(try dsimp only);omega) ?_))|simp(disch:=omega) [go_sem,h1,h2]|refine zDr 10 aQ ?_|fail)
    exact⟨⟨h1,h2,hc⟩⟩
   ·simp only[ne_eq,hz,not_false_eq_true,if_true]at hc
    repeat' (first|(refine aC fun _ _=>?_)|refine zHg ?_|(refine zqn ?_ ?_<;>(intro h;first|(exfalso;omega)|(simp only[h,zT])))|(refine aN [] ?_;simp[go_sem,h1,h2,hz,hc])|refine bR rfl (hu) rfl (by simp) ?_|simp(disch:=omega) [go_sem,h1,h2,hz,hc]|refine zDr 10 aQ ?_|fail)
  ·have e1:us.drop i= []:=List.drop_of_length_le (by omega)
   rw[List.drop_eq_getElem_cons h1,e1]at hc
   simp only[dI]at hc
   have e2:bZ ts.length us.length=1:=by unfold bZ;rw[if_neg (by omega),if_pos (by omega)]
   rw[e2]at ho
   repeat' (first|(refine aC fun _ _=>?_)|refine zHg ?_|(refine aN [] ?_;simp[go_sem,h1,h2,hc])|refine aO rfl (ho) (by simp) ?_|simp(disch:=omega) [go_sem,h1,h2,hc])
 ·have e1:ts.drop i= []:=List.drop_of_length_le (by omega)
  by_cases h2:i<us.length
  ·rw[List.drop_eq_getElem_cons h2,e1]at hc
   simp only[dI]at hc
   have e2:bZ ts.length us.length= -1:=by unfold bZ;rw[if_pos (by omega)]
   rw[e2]at ho
   repeat' (first|(refine aC fun _ _=>?_)|refine zHg ?_|(refine aN [] ?_;simp[go_sem,h1,h2,hc])|refine aO rfl (ho) (by simp) ?_|simp(disch:=omega) [go_sem,h1,h2,hc])
  ·have e3:us.drop i= []:=List.drop_of_length_le (by omega)
   rw[e1,e3]at hc
   simp only[dI]at hc
   have e2:bZ ts.length us.length=0:=by unfold bZ;rw[if_neg (by omega),if_neg (by omega)]
   rw[e2]at ho
   repeat' (first|(refine aC fun _ _=>?_)|refine zHg ?_|(refine aN [] ?_;simp[go_sem,h1,h2,hc])|refine aO rfl (ho) (by simp) ?_|simp(disch:=omega) [go_sem,h1,h2,hc])
theorem aFp (t:Tm):ACall prog 150 [eT t] (fun r=>r=nt .i64 (kd t).1):=by
 have h1:=aFf t.name
 have h2:=bG2 t.name
 unfold kd
 generalize(dZ t.name).2=b at*
 generalize oY t.name=c at*
 by_cases h0:0<t.args.length
 ·rw[if_pos h0]
  have h0':(0:Int)<t.args.length:=by omega
  refine aU func150 call150 rfl (by simp[ntmps150]) ?_;simp only[ntmps150,results150]
  repeat' (first|(refine aC fun _ _=>?_)|refine zHg ?_|(refine aN [] ?_;simp[go_sem,h0])|simp(disch:=omega) [go_sem,h0])
 ·rw[if_neg h0]
  cases b
  ·cases c
   ·refine aU func150 call150 rfl (by simp[ntmps150]) ?_;simp only[ntmps150,results150]
    repeat' (first|(refine aC fun _ _=>?_)|refine zHg ?_|(refine aN [] ?_;simp[go_sem,h0])|refine aO rfl (h1) (by simp) ?_|refine aO rfl (h2) (by simp) ?_|simp(disch:=omega) [go_sem,h0])
   ·refine aU func150 call150 rfl (by simp[ntmps150]) ?_;simp only[ntmps150,results150]
    repeat' (first|(refine aC fun _ _=>?_)|refine zHg ?_|(refine aN [] ?_;simp[go_sem,h0])|refine aO rfl (h1) (by simp) ?_|refine aO rfl (h2) (by simp) ?_|simp(disch:=omega) [go_sem,h0])
  ·refine aU func150 call150 rfl (by simp[ntmps150]) ?_;simp only[ntmps150,results150]
   repeat' (first|(refine aC fun _ _=>?_)|refine zHg ?_|(refine aN [] ?_;simp[go_sem,h0])|refine aO rfl (h1) (by simp) ?_|simp(disch:=omega) [go_sem,h0])
theorem aFq (s:ByteArray):ACall prog 151 [.sc (.string s)] (fun r=>r=nt .i64 (dZ s).1):=by
 have hc:=aFe s
 generalize dZ s=q at*
 obtain⟨v,b⟩:=q
 dsimp only at*
 refine aU func151 call151 rfl (by simp[ntmps151]) ?_;simp only[ntmps151,results151]
 repeat' (first|(refine aC fun _ _=>?_)|refine zHg ?_|(refine aN [] ?_;simp[go_sem])|refine aO rfl (hc) (by simp) ?_|simp(disch:=omega) [go_sem])
theorem uV (t:Tm):(t.args= []/\(dZ t.name).2=true/\kd t=(0,(dZ t.name).1,0,ByteArray.mk #[]))\/((kd t).1≠0/\kd t=((kd t).1,0,(t.args.length:Int),t.name)):=by
 unfold kd
 by_cases h0:0<t.args.length
 ·rw[if_pos h0];right;simp
 ·rw[if_neg h0]
  have e:t.args= []:=List.eq_nil_of_length_eq_zero (by omega)
  by_cases h1:(dZ t.name).2=true
  ·rw[if_pos h1];left;exact⟨e,h1,rfl⟩
  ·rw[if_neg h1]
   split<;>(right;simp[e])
theorem bHf: ∀a b:Tm,ACall prog 119 [eT a,eT b] (fun r=>r=nt .i64 (cJ a b)):=by
 refine eX fun a ih b=>?_
 have h1:=aFp a
 have h2:=aFp b
 have ho1:=D3 (kd a).1 (kd b).1
 rw[S5]
 by_cases q1:(kd a).1=(kd b).1
 ·have e1:bZ (kd a).1 (kd b).1=0:=by unfold bZ;rw[if_neg (by omega),if_neg (by omega)]
  rw[e1]at ho1
  rcases uV a with⟨a1,a2,a3⟩|⟨a1,a2⟩
  ·rcases uV b with⟨b1,b2,b3⟩|⟨b1,b2⟩
   ·have hv1:=aFq a.name
    have hv2:=aFq b.name
    have ho2:=D3 (dZ a.name).1 (dZ b.name).1
    rw[a3]at h1 ho1 ⊢
    rw[b3]at h2 ho1 ⊢
    rw[a1,b1]
    dsimp only at*
    generalize(dZ a.name).1=u at*
    generalize(dZ b.name).1=v at*
    have e:(if((0:Int),u,(0:Int),ByteArray.mk #[])=(0,v,0,ByteArray.mk #[])then dI [] []else if(0:Int)≠0 then bZ 0 0 else if u≠v then bZ u v else if(0:Int)≠0 then bZ 0 0 else dP (ByteArray.mk #[]) (ByteArray.mk #[]))=bZ u v:=by
     by_cases h:u=v
     ·subst h;simp[dI,bZ]
     ·simp[h]
    rw[e]
    generalize bZ u v=o at*
    clear a1 b1 a2 b2 a3 b3 ih
    refine aU func119 call119 rfl (by simp[ntmps119]) ?_;simp only[ntmps119,results119]
    repeat' (first|(refine aC fun _ _=>?_)|refine zHg ?_|(refine aN [] ?_;simp[go_sem])|refine aO rfl (h1) (by simp) ?_|refine bR rfl (h1) rfl (by simp) ?_|refine bR rfl (h2) rfl (by simp) ?_|refine bR rfl (ho1) rfl (by simp) ?_|refine bR rfl (hv1) rfl (by simp) ?_|refine bR rfl (hv2) rfl (by simp) ?_|refine aO rfl (ho2) (by simp) ?_|simp(disch:=omega) [go_sem]|refine zDr 6 aQ ?_|fail)
   ·exact absurd (by rw[<-q1,a3]) b1
  ·rcases uV b with⟨b1,b2,b3⟩|⟨b1,b2⟩
   ·exact absurd (by rw[q1,b3]) a1
   ·have h3:=bHe a.args b.args false false false false ih
    have ho2:=D3 a.args.length b.args.length
    have ho3:=bHb a.name b.name
    have hz:=uU (a:=a.name) (b:=b.name)
    generalize dI a.args b.args=w at*
    rw[a2,b2]
    dsimp only
    rw[<-q1]at h2 ho1 ⊢
    generalize(kd a).1=k at*
    clear a2 b2 ih
    by_cases q2:(a.args.length:Int)=b.args.length
    ·by_cases q3:a.name=b.name
     ·have q4:dP a.name b.name=0:=hz.2 q3
      rw[q4]at ho3
      simp only[q2,q3,if_true]
      refine aU func119 call119 rfl (by simp[ntmps119]) ?_;simp only[ntmps119,results119]
      repeat' (first|(refine aC fun _ _=>?_)|refine zHg ?_|(refine aN [] ?_;simp[go_sem,a1,q2])|refine aO rfl (h1) (by simp) ?_|refine bR rfl (h1) rfl (by simp) ?_|refine bR rfl (h2) rfl (by simp) ?_|refine bR rfl (ho1) rfl (by simp) ?_|refine aO rfl (ho3) (by simp) ?_|refine aO rfl (h3) (by simp) ?_|simp(disch:=omega) [go_sem,a1,q2]|refine zDr 6 aQ ?_|fail)
     ·have q4:dP a.name b.name≠0:=fun h=>q3 (hz.1 h)
      have e:(if(k,(0:Int),(a.args.length:Int),a.name)=(k,0,(b.args.length:Int),b.name)then w else if k≠k then bZ k k else if(0:Int)≠0 then bZ 0 0 else if(a.args.length:Int)≠b.args.length then bZ a.args.length b.args.length else dP a.name b.name)=dP a.name b.name:=by
       simp[q2,q3]
      rw[e]
      generalize dP a.name b.name=o at*
      refine aU func119 call119 rfl (by simp[ntmps119]) ?_;simp only[ntmps119,results119]
      repeat' (first|(refine aC fun _ _=>?_)|refine zHg ?_|(refine aN [] ?_;simp[go_sem,a1,q2,q4])|refine aO rfl (h1) (by simp) ?_|refine bR rfl (h1) rfl (by simp) ?_|refine bR rfl (h2) rfl (by simp) ?_|refine bR rfl (ho1) rfl (by simp) ?_|refine aO rfl (ho3) (by simp) ?_|simp(disch:=omega) [go_sem,a1,q2,q4]|refine zDr 6 aQ ?_|fail)
    ·have e:(if(k,(0:Int),(a.args.length:Int),a.name)=(k,0,(b.args.length:Int),b.name)then w else if k≠k then bZ k k else if(0:Int)≠0 then bZ 0 0 else if(a.args.length:Int)≠b.args.length then bZ a.args.length b.args.length else dP a.name b.name)=bZ a.args.length b.args.length:=by
      simp[q2]
     rw[e]
     generalize bZ a.args.length b.args.length=o at*
     refine aU func119 call119 rfl (by simp[ntmps119]) ?_;simp only[ntmps119,results119]
     repeat' (first|(refine aC fun _ _=>?_)|refine zHg ?_|(refine aN [] ?_;simp[go_sem,a1,q2])|refine aO rfl (h1) (by simp) ?_|refine bR rfl (h1) rfl (by simp) ?_|refine bR rfl (h2) rfl (by simp) ?_|refine bR rfl (ho1) rfl (by simp) ?_|refine aO rfl (ho2) (by simp) ?_|simp(disch:=omega) [go_sem,a1,q2]|refine zDr 6 aQ ?_|fail)
 ·have e1:bZ (kd a).1 (kd b).1≠0:=by unfold bZ;split<;>(try split)<;>omega
  have e:(if kd a=kd b then dI a.args b.args else if(kd a).1≠(kd b).1 then bZ (kd a).1 (kd b).1 else if(kd a).2.1≠(kd b).2.1 then bZ (kd a).2.1 (kd b).2.1 else if(kd a).2.2.1≠(kd b).2.2.1 then bZ (kd a).2.2.1 (kd b).2.2.1 else dP (kd a).2.2.2 (kd b).2.2.2)=bZ (kd a).1 (kd b).1:=by
   rw[if_neg (fun h=>q1 (by rw[h])),if_pos q1]
  rw[e]
  generalize bZ (kd a).1 (kd b).1=o at*
  generalize(kd a).1=x at*
  generalize(kd b).1=y at*
  refine aU func119 call119 rfl (by simp[ntmps119]) ?_;simp only[ntmps119,results119]
  repeat' (first|(refine aC fun _ _=>?_)|refine zHg ?_|(refine aN [] ?_;simp[go_sem,e1])|refine bR rfl (h1) rfl (by simp) ?_|refine bR rfl (h2) rfl (by simp) ?_|refine bR rfl (ho1) rfl (by simp) ?_|simp(disch:=omega) [go_sem,e1]|refine zDr 6 aQ ?_|fail)
mutual
def lJ:Tm->Tm->Bool
 | .mk s ts,b=>decide (s=b.name)&&kP ts b.args
def kP:List Tm->List Tm->Bool
 | [],[]=>true
 |t::r,u::q=>lJ t u&&kP r q
 |_,_=>false
end
theorem aFr {a b:Tm}:lJ a b=(decide (a.name=b.name)&&kP a.args b.args):=by cases a;rfl
theorem uW (t:Tm):t= .mk t.name t.args:=by cases t;rfl
theorem aFs {ts us:List Tm} (h: ∀t∈ts,∀u,lJ t u=true↔t=u):kP ts us=true↔ts=us:=by
 induction ts generalizing us with
 |nil=>cases us<;>simp[kP]
 |cons t r ih=>
  cases us with
  |nil=>simp[kP]
  |cons u q=>
   simp only[kP,Bool.and_eq_true,List.cons.injEq]
   rw[h t (by simp),ih (fun v hv=>h v (by simp[hv]))]
theorem qE: ∀a b:Tm,lJ a b=true↔a=b:=by
 refine eX fun a ih b=>?_
 rw[aFr,Bool.and_eq_true,decide_eq_true_eq,aFs ih]
 constructor
 ·rintro⟨h1,h2⟩;rw[uW a,uW b,h1,h2]
 ·rintro rfl;exact⟨rfl,rfl⟩
theorem bHg (ts us:List Tm):kP ts us=true↔ts=us:=aFs fun t _ u=>qE t u
theorem bHh {ts us:List Tm} (h:ts.length≠us.length):kP ts us=false:=by
 rw[Bool.eq_false_iff];intro e;rw[(bHg ts us).1 e]at h;exact h rfl
theorem bHi (ts us:List Tm) (l f l' f':Bool) (h: ∀t∈ts,∀u,ACall prog 75 [eT t,eT u] (fun r=>r=bl (lJ t u))):
 ACall prog 122 [.list l f (ts.map aI),.list l' f' (us.map aI)] (fun r=>r=bl (kP ts us)):=by
 refine ACall.bound (i:=0) rfl call122 fun hb=>?_
 rw[List.length_map]at hb
 have hb:ts.length<=140737488355328:=hb
 by_cases hl:ts.length=us.length
 ·have hl':(ts.length:Int)=us.length:=by omega
  generalize hR:kP ts us=R
  refine aU func122 call122 rfl (by simp[ntmps122]) ?_;simp only[ntmps122,results122]
  repeat' (first|(refine aC fun _ _=>?_)|refine zHg ?_|simp(disch:=omega) [go_sem,hl])
  refine bS [0,1,12] [] (fun i:Nat=> [(13,nt .i64 i)]) (fun i:Nat=> []) (fun i:Nat=>ts.length - i) (fun i:Nat=>i<=ts.length/\kP (ts.drop i) (us.drop i)=R) (0) (Le.sub4 rfl (by simp[go_sem,hl])) ⟨?_⟩ ?_
  ·exact⟨Nat.zero_le _,by simpa using hR⟩
  intro i ⟨hi,hc⟩ AA hAA;simp only[kL,Nat.reduceBEq,Nat.reduceEqDiff]
  by_cases h1:i<us.length
  ·have h2:i<ts.length:=by omega
   have hu:=h ts[i] (List.getElem_mem h2) us[i]
   rw[List.drop_eq_getElem_cons h2,List.drop_eq_getElem_cons h1]at hc
   simp only[kP]at hc
   cases hq:lJ ts[i] us[i]with
   |true=>
    rw[hq]at hu hc
    simp only[Bool.true_and]at hc
    repeat' (first|(refine aC fun _ _=>?_)|refine zHg ?_|refine bR rfl (hu) rfl (by simp) ?_|(refine(hAA.next (i+1) (Le.sub4 rfl (by simp[go_sem])) (by(try dsimp only);omega) ?_))|simp(disch:=omega) [go_sem,h1,h2]|refine zDr 10 aQ ?_|fail)
    exact⟨⟨by omega,hc⟩⟩
   |false=>
    rw[hq]at hu hc
    simp only[Bool.false_and]at hc
    subst hc
    repeat' (first|(refine aC fun _ _=>?_)|refine zHg ?_|(refine aN [] ?_;simp[go_sem,h1,h2])|refine bR rfl (hu) rfl (by simp) ?_|simp(disch:=omega) [go_sem,h1,h2]|refine zDr 10 aQ ?_|fail)
  ·have e1:us.drop i= []:=List.drop_of_length_le (by omega)
   have e2:ts.drop i= []:=List.drop_of_length_le (by omega)
   rw[e1,e2]at hc
   simp only[kP]at hc
   subst hc
   repeat' (first|(refine aC fun _ _=>?_)|refine zHg ?_|(refine aN [] ?_;simp[go_sem,h1])|simp(disch:=omega) [go_sem,h1])
 ·rw[bHh hl]
  have hl': ¬(ts.length:Int)=us.length:=by omega
  refine aU func122 call122 rfl (by simp[ntmps122]) ?_;simp only[ntmps122,results122]
  repeat' (first|(refine aC fun _ _=>?_)|refine zHg ?_|(refine aN [] ?_;simp[go_sem,hl'])|simp(disch:=omega) [go_sem,hl'])
theorem D4: ∀a b:Tm,ACall prog 75 [eT a,eT b] (fun r=>r=bl (lJ a b)):=by
 refine eX fun a ih b=>?_
 have h1:=bHi a.args b.args false false false false ih
 rw[aFr]
 generalize kP a.args b.args=c at*
 clear ih
 refine aU func75 call75 rfl (by simp[ntmps75]) ?_;simp only[ntmps75,results75]
 by_cases h:a.name=b.name
 ·repeat' (first|(refine aC fun _ _=>?_)|refine zHg ?_|(refine aN [] ?_;simp[go_sem,h])|refine aO rfl (h1) (by simp) ?_|simp(disch:=omega) [go_sem,h])
 ·repeat' (first|(refine aC fun _ _=>?_)|refine zHg ?_|(refine aN [] ?_;simp[go_sem,h])|simp(disch:=omega) [go_sem,h])
def iI (x y:Int):Int:=if x≠0 then x else y
def TR (ab bc ac:Int):Prop:=ab<=0->bc<=0->ac<=0/\(ac=0->ab=0/\bc=0)
theorem xP {a b c x y z:Int} (h:TR a b c) (k:TR x y z):TR (iI a x) (iI b y) (iI c z):=by
 unfold TR iI at*
 intro h1 h2
 have ha:a<=0:=by split at h1<;>omega
 have hb:b<=0:=by split at h2<;>omega
 have hh:=h ha hb
 by_cases hc:c=0
 ·have:=hh.2 hc
  simp only[this,hc]at*
  simpa using k (by simpa using h1) (by simpa using h2)
 ·rw[if_pos hc]
  exact⟨hh.1,fun e=>absurd e hc⟩
theorem sV {a b:Int}:bZ a b=0↔a=b:=by unfold bZ;split<;>(try split)<;>simp<;>omega
theorem S6 (a b:Int):bZ b a= -bZ a b:=by unfold bZ;split<;>split<;>(try split)<;>omega
theorem S7 (a b c:Int):TR (bZ a b) (bZ b c) (bZ a c):=by
 unfold TR bZ
 intro h1 h2
 split<;>(try split)<;>(split at h1<;>(try split at h1))<;>(split at h2<;>(try split at h2))<;>(try split)<;>(try split)<;>(try split)<;>(try split)<;>simp<;>omega
theorem bHj (a b c:ByteArray):TR (dP a b) (dP b c) (dP a c):=by
 intro h1 h2
 refine⟨bG8 h1 h2,fun h=>?_⟩
 have e:=uU.1 h
 subst e
 have:=aFm a b
 have hz:dP a b=0:=by omega
 exact⟨hz,by omega⟩
theorem uX (a b:Tm):cJ a b=iI (bZ (kd a).1 (kd b).1) (iI (bZ (kd a).2.1 (kd b).2.1) (iI (bZ (kd a).2.2.1 (kd b).2.2.1) (iI (dP (kd a).2.2.2 (kd b).2.2.2) (dI a.args b.args)))):=by
 rw[S5]
 generalize kd a=x
 generalize kd b=y
 obtain⟨x1,x2,x3,x4⟩:=x
 obtain⟨y1,y2,y3,y4⟩:=y
 dsimp only
 by_cases q1:x1=y1
 ·subst q1
  have e1:bZ x1 x1=0:=sV.2 rfl
  by_cases q2:x2=y2
  ·subst q2
   have e2:bZ x2 x2=0:=sV.2 rfl
   by_cases q3:x3=y3
   ·subst q3
    have e3:bZ x3 x3=0:=sV.2 rfl
    by_cases q4:x4=y4
    ·subst q4;simp[iI,e1,e2,e3,bHa]
    ·have:dP x4 y4≠0:=fun h=>q4 (uU.1 h)
     simp[iI,e1,e2,e3,q4,this]
   ·have:bZ x3 y3≠0:=fun h=>q3 (sV.1 h)
    simp[iI,e1,e2,q3,this]
  ·have:bZ x2 y2≠0:=fun h=>q2 (sV.1 h)
   simp[iI,e1,q2,this]
 ·have:bZ x1 y1≠0:=fun h=>q1 (sV.1 h)
  simp[iI,q1,this]
theorem D5 (t u:Tm) (r q:List Tm):dI (t::r) (u::q)=iI (cJ t u) (dI r q):=rfl
theorem xQ {x y x' y':Int} (h:x'= -x) (k:y'= -y):iI x' y'= -iI x y:=by
 unfold iI;subst h;subst k;split<;>split<;>omega
theorem aFt {x y:Int}:iI x y=0↔x=0/\y=0:=by unfold iI;split<;>omega
theorem bHk {ts:List Tm}: ∀{us:List Tm},(∀t∈ts,∀u,cJ u t= -cJ t u)->dI us ts= -dI ts us:=by
 induction ts with
 |nil=>intro us _;cases us<;>simp[dI]
 |cons t r ih=>
  intro us h
  cases us with
  |nil=>simp[dI]
  |cons u q=>rw[D5,D5];exact xQ (h t (by simp) u) (ih fun v hv=>h v (by simp[hv]))
theorem D6: ∀a b:Tm,cJ b a= -cJ a b:=by
 refine eX fun a ih b=>?_
 rw[uX,uX a b]
 exact xQ (S6 _ _) (xQ (S6 _ _) (xQ (S6 _ _) (xQ (aFm _ _) (bHk ih))))
theorem bHl {ts:List Tm}: ∀{us vs:List Tm},(∀t∈ts,∀u v,TR (cJ t u) (cJ u v) (cJ t v))->TR (dI ts us) (dI us vs) (dI ts vs):=by
 induction ts with
 |nil=>
  intro us vs _
  cases us<;>cases vs<;>simp[dI,TR]
 |cons t r ih=>
  intro us vs h
  cases us with
  |nil=>intro h1;simp[dI]at h1
  |cons u q=>
   cases vs with
   |nil=>intro _ h1;simp[dI]at h1
   |cons v p=>
    simp only[D5]
    exact xP (h t (by simp) u v) (ih fun w hw=>h w (by simp[hw]))
theorem S8: ∀a b c:Tm,TR (cJ a b) (cJ b c) (cJ a c):=by
 refine eX fun a ih b c=>?_
 rw[uX,uX b c,uX a c]
 exact xP (S7 _ _ _) (xP (S7 _ _ _) (xP (S7 _ _ _) (xP (bHj _ _ _) (bHl ih))))
theorem bHm {a b:ByteArray} (h:a.size=b.size) (k: ∀i,i<a.size->bt a i=bt b i):a=b:=by
 obtain⟨⟨a⟩⟩:=a
 obtain⟨⟨b⟩⟩:=b
 have hl:a.length=b.length:=h
 congr 2
 refine List.ext_getElem hl fun i h1 h2=>?_
 have:=k i h1
 simp only[bt,List.getD_eq_getElem?_getD,List.getElem?_eq_getElem h1,List.getElem?_eq_getElem h2,Option.getD_some]at this
 exact UInt8.toNat_inj.1 (by omega)
theorem bHn {s s':ByteArray} (h1:(dZ s).2=true) (h2:(dZ s').2=true) (h:(dZ s).1=(dZ s').1):s=s':=by
 unfold dZ at*
 split at h1
 ·rename_i c1
  split at h2
  ·rename_i c2
   rw[if_pos c1,if_pos c2]at h
   obtain⟨⟨a1,a2,a3⟩,a4⟩:=c1
   obtain⟨⟨b1,b2,b3⟩,b4⟩:=c2
   simp only at h
   have d1: ∀i,i<s.size->48<=bt s i/\bt s i<=57:=fun i hi=>by
    have:=List.all_eq_true.1 a4 i (by simpa using hi);simpa using this
   have d2: ∀i,i<s'.size->48<=bt s' i/\bt s' i<=57:=fun i hi=>by
    have:=List.all_eq_true.1 b4 i (by simpa using hi);simpa using this
   have p0:=d1 0 (by omega)
   have q0:=d2 0 (by omega)
   have n1:s.size=1\/s.size=2\/s.size=3\/s.size=4:=by omega
   have n2:s'.size=1\/s'.size=2\/s'.size=3\/s'.size=4:=by omega
   have key:s.size=s'.size/\ ∀i,i<s.size->bt s i=bt s' i:=by
    rcases n1 with e1|e1|e1|e1<;>rcases n2 with e2|e2|e2|e2<;>rw[e1,e2]at h<;>simp only[gC]at h
    all_goals
     have p1:=fun hh=>d1 1 hh
     have p2:=fun hh=>d1 2 hh
     have p3:=fun hh=>d1 3 hh
     have q1:=fun hh=>d2 1 hh
     have q2:=fun hh=>d2 2 hh
     have q3:=fun hh=>d2 3 hh
     rw[e1]at p1 p2 p3
     rw[e2]at q1 q2 q3
     simp only[Nat.reduceLT,Nat.lt_irrefl,forall_const,false_implies,implies_true]at p1 p2 p3 q1 q2 q3
     refine⟨by omega,fun i hi=>?_⟩
     have hi4:i=0\/i=1\/i=2\/i=3:=by omega
     rcases hi4 with rfl|rfl|rfl|rfl<;>omega
   exact bHm key.1 key.2
  ·simp at h2
 ·simp at h1
theorem bHo {ts:List Tm}: ∀{us:List Tm},(∀t∈ts,∀u,cJ t u=0↔t=u)->(dI ts us=0↔ts=us):=by
 induction ts with
 |nil=>intro us _;cases us<;>simp[dI]
 |cons t r ih=>
  intro us h
  cases us with
  |nil=>simp[dI]
  |cons u q=>rw[D5,aFt,h t (by simp) u,ih fun v hv=>h v (by simp[hv])];simp
theorem uY: ∀a b:Tm,cJ a b=0↔a=b:=by
 refine eX fun a ih b=>?_
 rw[uX]
 simp only[aFt,sV,uU,bHo ih]
 constructor
 ·rintro⟨h1,h2,h3,h4,h5⟩
  have hn:a.name=b.name:=by
   rcases uV a with⟨a1,a2,a3⟩|⟨a1,a2⟩
   ·rcases uV b with⟨b1,b2,b3⟩|⟨b1,b2⟩
    ·rw[a3,b3]at h2
     exact bHn a2 b2 h2
    ·exact absurd (by rw[<-h1,a3]) b1
   ·rcases uV b with⟨b1,b2,b3⟩|⟨b1,b2⟩
    ·exact absurd (by rw[h1,b3]) a1
    ·rw[a2,b2]at h4;exact h4
  rw[uW a,uW b,hn,h5]
 ·rintro rfl;simp
theorem uZ (a:Tm):cJ a a=0:=(uY a a).2 rfl
open Go.Ab
set_option maxRecDepth 100000
def qF (l:List Tm):Prop:=l.Pairwise fun a b=>cJ a b<0
theorem aFu {a b c:Tm} (h:cJ a b<0) (k:cJ b c<=0):cJ a c<0:=by
 have:=S8 a b c (by omega) k
 omega
theorem bHp {a b c:Tm} (h:cJ a b<=0) (k:cJ b c<0):cJ a c<0:=by
 have:=S8 a b c h (by omega)
 omega
theorem bHq:Pre cJ:=⟨fun x y z h k=>(S8 x y z h k).1,fun x y h=>by rw[D6 x y];omega⟩
theorem aFv: ∀{a b:List Tm},qF a->qF b->(∀t,t∈a↔t∈b)->a=b
 | [],[],_,_,_=>rfl
 | [],u::r,_,_,h=>absurd ((h u).2 List.mem_cons_self) (by simp)
 |t::q,[],_,_,h=>absurd ((h t).1 List.mem_cons_self) (by simp)
 |t::q,u::r,ha,hb,h=>by
  obtain⟨a1,a2⟩:=List.pairwise_cons.1 ha
  obtain⟨b1,b2⟩:=List.pairwise_cons.1 hb
  have htu:t=u:=by
   rcases List.mem_cons.1 ((h t).1 List.mem_cons_self)with e|e
   ·exact e
   ·rcases List.mem_cons.1 ((h u).2 List.mem_cons_self)with e2|e2
    ·exact e2.symm
    ·have h1:=a1 _ e2
     have h2:=b1 _ e
     rw[D6 t u]at h2
     omega
  subst htu
  congr 1
  refine aFv a2 b2 fun x=>?_
  constructor
  ·intro hx
   rcases List.mem_cons.1 ((h x).1 (List.mem_cons_of_mem _ hx))with e|e
   ·subst e;have:=a1 _ hx;rw[uZ]at this;omega
   ·exact e
  ·intro hx
   rcases List.mem_cons.1 ((h x).2 (List.mem_cons_of_mem _ hx))with e|e
   ·subst e;have:=b1 _ hx;rw[uZ]at this;omega
   ·exact e
def iJ (t:Tm):List Tm->List Tm
 | []=> [t]
 |u::r=>if cJ u t<0 then u::iJ t r else if cJ u t=0 then u::r else t::u::r
def fP (l:List Tm):List Tm:=l.foldl (fun o t=>iJ t o) []
theorem S9 {t x:Tm}: ∀{o:List Tm},x∈iJ t o↔x=t\/x∈o
 | []=>by simp[iJ]
 |u::r=>by
  unfold iJ
  split
  ·simp only[List.mem_cons,S9 (o:=r)]
   constructor<;>(intro h;rcases h with h|h|h<;>simp[h])
  ·split
   ·rename_i h0
    have:u=t:=(uY _ _).1 h0
    subst this
    simp
   ·simp only[List.mem_cons]
theorem aFw {t:Tm}: ∀{o:List Tm},qF o->qF (iJ t o)
 | [],_=>by simp[iJ,qF]
 |u::r,h=>by
  obtain⟨h1,h2⟩:=List.pairwise_cons.1 h
  unfold iJ
  split
  ·rename_i hu
   refine List.pairwise_cons.2 ⟨fun x hx=>?_,aFw h2⟩
   rcases S9.1 hx with e|e
   ·rw[e];exact hu
   ·exact h1 x e
  ·split
   ·exact h
   ·rename_i n1 n2
    have hut:cJ t u<0:=by rw[D6 u t];omega
    refine List.pairwise_cons.2 ⟨fun x hx=>?_,h⟩
    rcases List.mem_cons.1 hx with e|e
    ·rw[e];exact hut
    ·exact aFu hut (Int.le_of_lt (h1 x e))
theorem T0: ∀(l o:List Tm),qF o->qF (l.foldl (fun o t=>iJ t o) o)/\ ∀x,x∈l.foldl (fun o t=>iJ t o) o↔x∈l\/x∈o
 | [],o,h=>⟨h,fun x=>by simp⟩
 |t::r,o,h=>by
  obtain⟨h1,h2⟩:=T0 r (iJ t o) (aFw h)
  refine⟨h1,fun x=>?_⟩
  rw[List.foldl_cons,h2,S9,List.mem_cons]
  constructor
  ·rintro(a|a|a)<;>simp[a]
  ·rintro((a|a)|a)<;>simp[a]
theorem T1 (l:List Tm):qF (fP l):=(T0 l [] List.Pairwise.nil).1
theorem T2 (l:List Tm) (x:Tm):x∈fP l↔x∈l:=by
 have:=(T0 l [] List.Pairwise.nil).2 x
 simpa[fP]using this
theorem aFx {l:List Tm} {i:Nat} (h:i<l.length):fP (l.take (i+1))=iJ l[i] (fP (l.take i)):=by
 unfold fP
 rw[fC h,List.foldl_append];rfl
def mK (l:List Tm):Nat->List Tm
 |0=> []
 |i+1=>match l[i]? with
  |some t=>if i=0\/cJ (l.getD (i - 1) t) t≠0 then mK l i++ [t]else mK l i
  |none=>mK l i
theorem aFy {l:List Tm} {i:Nat} (h:i<l.length):mK l (i+1)=if i=0\/cJ (l.getD (i - 1) l[i]) l[i]≠0 then mK l i++ [l[i]]else mK l i:=by
 rw[mK,List.getElem?_eq_getElem h]
theorem aFz {l:List Tm} (hs:SrtOn cJ l 0 l.length): ∀i,i<=l.length->qF (mK l i)/\ ∀x,x∈mK l i↔x∈l.take i
 |0,_=>⟨List.Pairwise.nil,fun x=>by simp[mK]⟩
 |i+1,hi=>by
  have hlt:i<l.length:=by omega
  obtain⟨h1,h2⟩:=aFz hs i (by omega)
  rw[aFy hlt,fC hlt]
  split
  ·rename_i hc
   refine⟨List.pairwise_append.2 ⟨h1,by simp,fun x hx y hy=>?_⟩,fun x=>by simp only[List.mem_append,List.mem_singleton,h2]⟩
   simp only[List.mem_singleton]at hy
   subst hy
   rcases hc with rfl|hc
   ·simp[mK]at hx
   ·rw[h2,List.mem_take_iff_getElem]at hx
    obtain⟨k,hk,rfl⟩:=hx
    have hi0:i - 1<l.length:=by omega
    have hd:l.getD (i - 1) l[i]=l[i - 1]:=by rw[List.getD_eq_getElem?_getD,List.getElem?_eq_getElem hi0];rfl
    rw[hd]at hc
    have h3:=hs (i - 1) i _ _ (Nat.zero_le _) (by omega) hlt (List.getElem?_eq_getElem hi0) (List.getElem?_eq_getElem hlt)
    have h4:cJ l[k] l[i - 1]<=0:=by
     by_cases e:k=i - 1
     ·subst e;rw[uZ];exact Int.le_refl _
     ·exact hs k (i - 1) _ _ (Nat.zero_le _) (by omega) hi0 (List.getElem?_eq_getElem (by omega)) (List.getElem?_eq_getElem hi0)
    exact bHp h4 (by omega)
  ·rename_i hc
   simp only[not_or,Decidable.not_not]at hc
   refine⟨h1,fun x=>?_⟩
   rw[h2]
   simp only[List.mem_append,List.mem_singleton]
   constructor
   ·exact .inl
   ·rintro(h|rfl)
    ·exact h
    ·have hi0:i - 1<l.length:=by omega
     have hd:l.getD (i - 1) l[i]=l[i - 1]:=by rw[List.getD_eq_getElem?_getD,List.getElem?_eq_getElem hi0];rfl
     rw[hd]at hc
     have e:=(uY _ _).1 hc.2
     rw[<-e,List.mem_take_iff_getElem]
     exact⟨i - 1,by omega,rfl⟩
theorem bHr {l m:List Tm} (hp:m.Perm l) (hs:SrtOn cJ m 0 l.length):mK m m.length=fP l:=by
 rw[<-hp.length_eq]at hs
 obtain⟨h1,h2⟩:=aFz hs m.length (Nat.le_refl _)
 refine aFv h1 (T1 l) fun x=>?_
 rw[h2,List.take_length,T2,hp.mem_iff]
instance:DecidableEq Tm:=fun a b=>decidable_of_iff (lJ a b=true) (qE a b)
structure Bd where
 v:ByteArray
 t:Tm
abbrev xR (x:Bd):AV:= .agg [.sc (.string x.v),.sc (.string x.t.name),.list false false (x.t.args.map aI)]
structure Lt where
 neg:Bool
 atom:Tm
abbrev bP (x:Lt):AV:= .agg [bl x.neg,.sc (.string x.atom.name),.list false false (x.atom.args.map aI)]
structure Rl where
 head:Tm
 body:List Lt
abbrev bX (x:Rl):AV:= .agg [.sc (.string x.head.name),.list false false (x.head.args.map aI),.list false false (x.body.map bP)]
def mL (t:Tm):Bool:=decide (t.args.length=0)&&(decide (t.name.size≠0)&&(decide (65<=bt t.name 0)&&decide (bt t.name 0<=90)))
mutual
def eO:Tm->ByteArray
 | .mk n ts=>jH (n++⟨#[40]⟩) ts++⟨#[41]⟩
def jH:ByteArray->List Tm->ByteArray
 |a,[]=>a
 |a,t::ts=>jH (a++(eO t++⟨#[44]⟩)) ts
end
mutual
def fD:Tm->Nat
 | .mk n ts=>n.size+2+eC ts
def eC:List Tm->Nat
 | []=>0
 |t::ts=>fD t+1+eC ts
end
theorem vA {n:ByteArray} {ts:List Tm}:fD (.mk n ts)=n.size+2+eC ts:=by rw[fD]
theorem xS (a b:ByteArray):(a++b).size=a.size+b.size:=ByteArray.size_append
theorem T3: ∀{ts:List Tm} {a:ByteArray},(∀t∈ts,(eO t).size=fD t)->(jH a ts).size=a.size+eC ts
 | [],a,_=>by simp[jH,eC]
 |t::ts,a,h=>by
  rw[jH,T3 fun u hu=>h u (by simp[hu]),xS,xS,h t (by simp),eC]
  have:(⟨#[44]⟩:ByteArray).size=1:=rfl
  omega
theorem aF0: ∀t:Tm,(eO t).size=fD t:=by
 refine eX fun t ih=>?_
 obtain⟨n,ts⟩:=t
 simp only[cK]at ih
 rw[eO,xS,T3 ih,xS,vA]
 have h1:(⟨#[40]⟩:ByteArray).size=1:=rfl
 have h2:(⟨#[41]⟩:ByteArray).size=1:=rfl
 omega
theorem aF1: ∀{ts us:List Tm} {a:ByteArray},jH a (ts++us)=jH (jH a ts) us
 | [],_,_=>rfl
 |t::ts,us,a=>by rw[List.cons_append,jH,jH,aF1]
theorem bHs {ts:List Tm} {a:ByteArray} {i:Nat} (h:i<ts.length):jH a (ts.take (i+1))=jH a (ts.take i)++(eO ts[i]++⟨#[44]⟩):=by
 rw[fC h,aF1];rfl
theorem aF2: ∀{a b:List Tm},eC (a++b)=eC a+eC b
 | [],b=>by simp[eC]
 |t::r,b=>by rw[List.cons_append,eC,eC,aF2];omega
theorem bHt {ts:List Tm} {i:Nat}:eC (ts.take i)<=eC ts:=by
 have:=aF2 (a:=ts.take i) (b:=ts.drop i)
 rw[List.take_append_drop]at this;omega
theorem aF3: ∀{ts:List Tm} {t:Tm},t∈ts->fD t+1<=eC ts
 |u::r,t,h=>by
  rcases List.mem_cons.1 h with rfl|h
  ·rw[eC];omega
  ·have:=aF3 h;rw[eC];omega
def kQ (s:List Bd) (n:ByteArray):Option Tm:=(s.find? fun b=>decide (b.v=n)).map Bd.t
def sW (s:List Bd) (n:ByteArray) (t:Tm):Option Tm->List Bd×Bool
 |some u=>(s,decide (u=t))
 |none=>(s++ [⟨n,t⟩],true)
def sX (t:Tm):Option Tm->Tm×Bool
 |some u=>(u,true)
 |none=>(t,false)
def aF4 (n:ByteArray) (ts:List Tm):Option (List Tm)->Tm×Bool
 |some l=>(.mk n l,true)
 |none=>(.mk n ts,false)
mutual
def eI:Tm->Tm->List Bd->List Bd×Bool
 | .mk n ps,t,s=>if mL (.mk n ps)=true then sW s n t (kQ s n)else if n=t.name/\ps.length=t.args.length then jI ps t.args s else([],false)
def jI:List Tm->List Tm->List Bd->List Bd×Bool
 | [],_,s=>(s,true)
 |_::_,[],s=>(s,true)
 |p::ps,t::ts,s=>if(eI p t s).2=true then jI ps ts (eI p t s).1 else eI p t s
end
theorem T4 {n:ByteArray} {ps:List Tm} {t:Tm} {s:List Bd}:eI (.mk n ps) t s=if mL (.mk n ps)=true then sW s n t (kQ s n)else if n=t.name/\ps.length=t.args.length then jI ps t.args s else([],false):=by rw[eI]
theorem T5 {p:Tm} {ps:List Tm} {t:Tm} {ts:List Tm} {s:List Bd}:jI (p::ps) (t::ts) s=if(eI p t s).2=true then jI ps ts (eI p t s).1 else eI p t s:=by rw[jI]
theorem T6 {ts:List Tm} {s:List Bd}:jI [] ts s=(s,true):=by rw[jI]
mutual
def fU:Tm->List Bd->Tm×Bool
 | .mk n ts,s=>if mL (.mk n ts)=true then sX (.mk n ts) (kQ s n)else aF4 n ts (jW ts s)
def jW:List Tm->List Bd->Option (List Tm)
 | [],_=>some []
 |t::ts,s=>if(fU t s).2=true then(jW ts s).map fun l=>(fU t s).1::l else none
end
theorem aF5 {n:ByteArray} {ts:List Tm} {s:List Bd}:fU (.mk n ts) s=if mL (.mk n ts)=true then sX (.mk n ts) (kQ s n)else aF4 n ts (jW ts s):=by rw[fU]
theorem T7 {t:Tm} {ts:List Tm} {s:List Bd}:jW (t::ts) s=if(fU t s).2=true then(jW ts s).map fun l=>(fU t s).1::l else none:=by rw[jW]
theorem D7 {s:List Bd}:jW [] s=some []:=by rw[jW]
theorem T8: ∀{ts:List Tm} {s:List Bd} {l:List Tm},jW ts s=some l->l.length=ts.length
 | [],s,l,h=>by rw[D7]at h;obtain rfl:=Option.some.inj h;rfl
 |t::ts,s,l,h=>by
  rw[T7]at h
  split at h
  ·cases hq:jW ts s with
   |none=>rw[hq]at h;cases h
   |some m=>
    rw[hq]at h
    obtain rfl:=Option.some.inj h
    simp[T8 hq]
  ·cases h
mutual
def dQ (q M:Nat):Tm->Prop
 | .mk n ts=>n.size<=M/\ts.length<=q/\oZ q M ts
def oZ (q M:Nat):List Tm->Prop
 | []=>True
 |t::ts=>dQ q M t/\oZ q M ts
end
theorem pA {q M:Nat} {n:ByteArray} {ts:List Tm}:dQ q M (.mk n ts)↔n.size<=M/\ts.length<=q/\oZ q M ts:=by rw[dQ]
theorem sY {q M:Nat}: ∀{l:List Tm},oZ q M l↔ ∀t∈l,dQ q M t
 | []=>by simp[oZ]
 |t::r=>by rw[oZ,sY];simp
def KB (q M:Nat):Nat->Nat
 |0=>0
 |k+1=>M+2+q*(KB q M k+1)
theorem aF6 {b:Nat}: ∀{l:List Tm},(∀t∈l,fD t<=b)->eC l<=l.length*(b+1)
 | [],_=>by simp[eC]
 |t::r,h=>by
  have h1:=h t (by simp)
  have h2:=aF6 (b:=b) (l:=r) fun u hu=>h u (by simp[hu])
  rw[eC,List.length_cons,Nat.succ_mul];omega
theorem T9 {n:ByteArray} {ts:List Tm} {t:Tm} (h:t∈ts):t.depth+1<=(Tm.mk n ts).depth:=by
 rw[oX (.mk n ts),cK]
 have: ∀{l:List Tm},t∈l->t.depth<=eH l:=by
  intro l
  induction l with
  |nil=>intro h;simp at h
  |cons u r ih=>
   intro h
   rw[eH]
   rcases List.mem_cons.1 h with rfl|h
   ·omega
   ·have:=ih h;omega
 have:=this h
 omega
theorem U0 {q M:Nat}: ∀{k:Nat} {t:Tm},dQ q M t->t.depth<=k->fD t<=KB q M k
 |0,t,_,h=>by rw[oX]at h;omega
 |k+1,.mk n ts,h,hd=>by
  obtain⟨h1,h2,h3⟩:=pA.1 h
  have h4:=aF6 (b:=KB q M k) (l:=ts) fun t ht=>U0 (sY.1 h3 t ht) (by have:=T9 (n:=n) ht;omega)
  have h5:ts.length*(KB q M k+1)<=q*(KB q M k+1):=Nat.mul_le_mul_right _ h2
  rw[vA,KB];omega
theorem bHu {q M:Nat}: ∀{t:Tm},dQ q M t->fD t<=t.size*(M+3):=by
 have key: ∀t:Tm,dQ q M t->fD t+1<=t.size*(M+3):=by
  refine eX fun t ih h=>?_
  obtain⟨n,ts⟩:=t
  simp only[cK]at ih
  obtain⟨h1,h2,h3⟩:=pA.1 h
  have: ∀{l:List Tm},(∀t∈l,fD t+1<=t.size*(M+3))->eC l<=bV l*(M+3):=by
   intro l
   induction l with
   |nil=>intro _;simp[eC]
   |cons u r ih=>
    intro h
    have a:=h u (by simp)
    have b:=ih fun v hv=>h v (by simp[hv])
    rw[eC,bV,Nat.add_mul];omega
  have h4:=this fun t ht=>ih t ht (sY.1 h3 t ht)
  rw[vA,fB,cK,Nat.add_mul];omega
 exact fun {t} h=>by have:=key t h;omega
def mM (q M:Nat) (s:List Bd):Prop:= ∀b∈s,dQ q M b.t/\b.t.depth<=3
theorem bHv {q M:Nat} {s:List Bd} (h:mM q M s) {n:ByteArray} {u:Tm} (hu:kQ s n=some u):dQ q M u/\u.depth<=3:=by
 unfold kQ at hu
 cases hf:s.find? fun b=>decide (b.v=n)with
 |none=>rw[hf]at hu;cases hu
 |some b=>
  rw[hf]at hu
  obtain rfl:=Option.some.inj hu
  exact h b (List.mem_of_find?_eq_some hf)
theorem aF7 {q M:Nat}: ∀(p t:Tm) (s:List Bd),dQ q M t->t.depth<=4->(mL p=true->t.depth<=3)->mM q M s->mM q M (eI p t s).1/\(eI p t s).1.length<=s.length+p.size:=by
 have key: ∀p:Tm,∀(t:Tm) (s:List Bd),dQ q M t->t.depth<=4->(mL p=true->t.depth<=3)->mM q M s->mM q M (eI p t s).1/\(eI p t s).1.length<=s.length+p.size:=by
  refine eX fun p ih t s ht hd h3 hs=>?_
  obtain⟨n,ps⟩:=p
  simp only[cK]at ih
  rw[T4]
  have hp:=sU (.mk n ps)
  split
  ·rename_i hu
   cases kQ s n with
   |some u=>exact⟨hs,by show s.length<=_;omega⟩
   |none=>
    show mM q M (s++ [⟨n,t⟩])/\(s++ [⟨n,t⟩]:List Bd).length<=_
    refine⟨fun b hb=>?_,by(try simp);omega⟩
    rcases List.mem_append.1 hb with hb|hb
    ·exact hs b hb
    ·obtain rfl:=List.mem_singleton.1 hb
     exact⟨ht,h3 hu⟩
  ·split
   ·obtain⟨m,ts⟩:=t
    simp only[cK]
    have hts:=sY.1 (pA.1 ht).2.2
    have hdt: ∀t∈ts,t.depth<=3:=fun t h=>by have:=T9 (n:=m) h;omega
    rw[fB,cK]
    have: ∀(ps ts:List Tm) (s:List Bd),(∀p∈ps,∀(t:Tm) (s:List Bd),dQ q M t->t.depth<=4->(mL p=true->t.depth<=3)->mM q M s->mM q M (eI p t s).1/\(eI p t s).1.length<=s.length+p.size)->(∀t∈ts,dQ q M t/\t.depth<=3)->mM q M s->
     mM q M (jI ps ts s).1/\(jI ps ts s).1.length<=s.length+bV ps:=by
     intro ps
     induction ps with
     |nil=>intro ts s _ _ h;rw[T6];exact⟨h,by simp⟩
     |cons p ps ihp=>
      intro ts s hp ht hs
      cases ts with
      |nil=>rw[jI];exact⟨hs,by simp⟩
      |cons t ts=>
       obtain⟨a1,a2⟩:=hp p (by simp) t s (ht t (by simp)).1 (Nat.le_succ_of_le (ht t (by simp)).2) (fun _=>(ht t (by simp)).2) hs
       rw[T5,bV]
       split
       ·obtain⟨b1,b2⟩:=ihp ts _ (fun z hz=>hp z (by simp[hz])) (fun u hu=>ht u (by simp[hu])) a1
        exact⟨b1,by omega⟩
       ·exact⟨a1,by omega⟩
    obtain⟨c1,c2⟩:=this ps ts s ih (fun t h=>⟨hts t h,hdt t h⟩) hs
    exact⟨c1,by omega⟩
   ·exact⟨fun b hb=>by simp at hb,by simp⟩
 exact key
theorem bHw {q M:Nat} {s:List Bd} (hs:mM q M s): ∀p:Tm,dQ q M p->dQ q M (fU p s).1/\(fU p s).1.depth<=p.depth+3/\fD (fU p s).1<=fD p+p.size*KB q M 3:=by
 refine eX fun p ih hp=>?_
 obtain⟨n,ts⟩:=p
 simp only[cK]at ih
 have h0:=sU (.mk n ts)
 have h0':KB q M 3<=(Tm.mk n ts).size*KB q M 3:=Nat.le_mul_of_pos_left _ h0
 rw[aF5]
 split
 ·cases hu:kQ s n with
  |some u=>
   obtain⟨a,b⟩:=bHv hs hu
   exact⟨a,by show u.depth<=_;omega,by have:=U0 a b;show fD u<=_;omega⟩
  |none=>exact⟨hp,Nat.le_add_right _ _,Nat.le_add_right _ _⟩
 ·cases hl:jW ts s with
  |none=>exact⟨hp,Nat.le_add_right _ _,Nat.le_add_right _ _⟩
  |some l=>
   obtain⟨h1,h2,h3⟩:=pA.1 hp
   have: ∀(ts l:List Tm),(∀t∈ts,dQ q M t->dQ q M (fU t s).1/\(fU t s).1.depth<=t.depth+3/\fD (fU t s).1<=fD t+t.size*KB q M 3)->oZ q M ts->jW ts s=some l->
    oZ q M l/\eH l<=eH ts+3/\eC l<=eC ts+bV ts*KB q M 3:=by
    intro ts
    induction ts with
    |nil=>intro l _ _ h;rw[D7]at h;obtain rfl:=Option.some.inj h;exact⟨trivial,by simp[eH],by simp[eC]⟩
    |cons t ts iht=>
     intro l h ho hl
     rw[T7]at hl
     rw[oZ]at ho
     split at hl
     ·cases hq:jW ts s with
      |none=>rw[hq]at hl;cases hl
      |some m=>
       rw[hq]at hl
       obtain rfl:=Option.some.inj hl
       obtain⟨a1,a2,a3⟩:=h t (by simp) ho.1
       obtain⟨b1,b2,b3⟩:=iht m (fun u hu=>h u (by simp[hu])) ho.2 hq
       refine⟨by rw[oZ];exact⟨a1,b1⟩,?_,?_⟩
       ·rw[eH,eH];omega
       ·rw[eC,eC,bV,Nat.add_mul];omega
     ·cases hl
   obtain⟨c1,c2,c3⟩:=this ts l ih h3 hl
   show dQ q M (.mk n l)/\(Tm.mk n l).depth<=_/\fD (.mk n l)<=_
   refine⟨pA.2 ⟨h1,by rw[T8 hl];exact h2,c1⟩,?_,?_⟩
   ·rw[oX,oX,cK,cK];omega
   ·rw[vA,vA,fB,cK,Nat.add_mul];omega
open Go.Ab
set_option maxRecDepth 100000
set_option maxHeartbeats 8000000
def bG (s:ByteArray):AV:= .sc (.string s)
mutual
def nG:Tm->List ByteArray
 | .mk s ts=>if ts.length=0 then[s]else eD ts
def eD:List Tm->List ByteArray
 | []=> []
 |t::r=>nG t++eD r
end
theorem D8 {s:ByteArray} {ts:List Tm}:nG (.mk s ts)=if ts.length=0 then[s]else eD ts:=rfl
theorem D9: ∀a b:List Tm,eD (a++b)=eD a++eD b
 | [],b=>by simp[eD]
 |t::r,b=>by simp[eD,D9 r b]
theorem E0 {ts:List Tm} {i:Nat} (h:i<ts.length):eD (ts.take (i+1))=eD (ts.take i)++nG ts[i]:=by
 rw[fC h,D9];simp[eD]
theorem U1 (ts:List Tm) (i:Nat):(eD (ts.take i)).length<=(eD ts).length:=by
 have:=D9 (ts.take i) (ts.drop i)
 rw[List.take_append_drop]at this
 simp only[this,List.length_append];omega
theorem bHx: ∀t:Tm,0<(nG t).length:=by
 refine eX fun t ih=>?_
 obtain⟨s,ts⟩:=t
 simp only[cK]at ih
 rw[D8]
 split
 ·simp
 ·cases ts with
  |nil=>simp at*
  |cons u r=>
   have:=ih u (by simp)
   simp only[eD,List.length_append];omega
theorem U2: ∀ts:List Tm,ts.length<=(eD ts).length
 | []=>Nat.le_refl _
 |t::r=>by
  have:=U2 r
  have:=bHx t
  simp only[eD,List.length_append,List.length_cons];omega
open Go.Ab
set_option maxRecDepth 100000
set_option maxHeartbeats 8000000
theorem bHy {l:List Tm} {i:Nat} (h:i<l.length):(nG l[i]).length<=(eD l).length:=by
 have:=U1 l (i+1)
 rw[E0 h,List.length_append]at this
 omega
theorem bHz: ∀t:Tm,(nG t).length<=1000000->ACall prog 65 [eT t] (fun r=>r= .own 1 ((nG t).map bG)):=by
 refine eX fun t ih hb=>?_
 obtain⟨s,ts⟩:=t
 simp only[cK,nY]at*
 rw[D8]at*
 by_cases h0:ts.length=0
 ·rw[if_pos h0]at hb ⊢
  refine aU func65 call65 rfl (by simp[ntmps65]) ?_;simp only[ntmps65,results65]
  repeat' (first|(refine aC fun _ _=>?_)|refine zHg ?_|(refine aN [] ?_;simp[go_sem,h0,bG])|simp(disch:=omega) [go_sem,h0,bG])
 ·rw[if_neg h0]at hb ⊢
  have hle:=U1 ts
  have hge:=U2 ts
  refine aU func65 call65 rfl (by simp[ntmps65]) ?_;simp only[ntmps65,results65]
  repeat' (first|(refine aC fun _ _=>?_)|refine zHg ?_|simp(disch:=omega) [go_sem,h0])
  refine bS [1,14] [900] (fun i:Nat=> [(15,nt .i64 i),(3,.ref 900 0 (eD (ts.take i)).length)]) (fun i:Nat=> [(900,⟨true,false,false,1,(eD (ts.take i)).map bG,0⟩)]) (fun i:Nat=>ts.length - i) (fun i:Nat=>i<=ts.length) (0) (by refine Le.trans ?_ (Le.nil (i:=3) (T:=900) (es:=1) rfl);exact(Le.sub4 rfl (by simp[go_sem,List.take_zero,eD]))) ⟨?_⟩ ?_
  ·exact Nat.zero_le _
  intro i hi AA hAA;simp only[kL,Nat.reduceBEq,Nat.reduceEqDiff]
  by_cases hlt:i<ts.length
  ·have hn:=E0 hlt
   have hl1:=hle (i+1)
   rw[hn]at hl1
   rw[List.length_append]at hl1
   have hu:=ih ts[i] (List.getElem_mem hlt) (by omega)
   have hce: ∀a:ByteArray,(bG a).cells.length=1:=fun _=>rfl
   generalize eD (ts.take i)=A at*
   repeat' (first|(refine aC fun _ _=>?_)|refine zHg ?_|refine aO rfl (hu) (by simp) ?_|(refine(hAA.next (i+1) (Le.sub4 rfl (by simp[go_sem,hn])) (by(try dsimp only);omega) ?_))|simp(disch:=omega) [go_sem,hlt,hce]|refine zAo ?_|fail)
   try any_goals omega
   exact⟨hlt⟩
  ·obtain rfl:i=ts.length:=by omega
   rw[List.take_length]
   repeat' (first|(refine aC fun _ _=>?_)|refine zHg ?_|(refine aN [] ?_;simp[go_sem])|simp(disch:=omega) [go_sem])
theorem bH0 (a b:List ByteArray) (le fu le' fu':Bool):ACall prog 11 [.list le fu (a.map bG),.list le' fu' (b.map bG)] (fun r=>r=bl (decide (a=b))):=by
 refine ACall.bound (i:=0) rfl call11 fun hb=>?_
 rw[List.length_map]at hb
 have hb:a.length<=140737488355328:=hb
 by_cases h0:a.length=b.length
 ·generalize hR:decide (a=b)=R
  have h0': ¬(a.length:Int)≠b.length:=by omega
  refine aU func11 call11 rfl (by simp[ntmps11]) ?_;simp only[ntmps11,results11]
  repeat' (first|(refine aC fun _ _=>?_)|refine zHg ?_|simp(disch:=omega) [go_sem,h0])
  try any_goals (exfalso;omega)
  refine bS [0,1,12] [] (fun i:Nat=> [(13,nt .i64 i)]) (fun i:Nat=> []) (fun i:Nat=>b.length - i) (fun i:Nat=>i<=b.length/\ ∀(k:Nat) (hk:k<a.length) (hk':k<b.length),k<i->a[k]=b[k]) (0) (Le.sub4 rfl (by simp[go_sem])) ⟨?_⟩ ?_
  ·exact⟨Nat.zero_le _,fun k _ _ hk=>absurd hk (Nat.not_lt_zero _)⟩
  intro i ⟨hi,hn⟩ AA hAA;simp only[kL,Nat.reduceBEq,Nat.reduceEqDiff]
  by_cases hlt:i<b.length
  ·have hla:i<a.length:=by omega
   by_cases hq:a[i]=b[i]
   ·repeat' (first|(refine aC fun _ _=>?_)|refine zHg ?_|(refine(hAA.next (i+1) (Le.sub4 rfl (by simp[go_sem])) (by(try dsimp only);omega) ?_))|simp(disch:=omega) [go_sem,hlt,hla,bG,hq]|refine zDr 9 aQ ?_|fail)
    try any_goals omega
    exact⟨hlt,fun k hk hk' hki=>by rcases Nat.lt_or_eq_of_le (Nat.le_of_lt_succ hki)with h|rfl;exact hn k hk hk' h;exact hq⟩
   ·have hu:R=false:=by
     rw[<-hR,decide_eq_false_iff_not]
     intro h
     apply hq
     simp only[h]
    subst hu
    repeat' (first|(refine aC fun _ _=>?_)|refine zHg ?_|(refine aN [] ?_;simp[go_sem,hlt,hla,bG,hq])|simp(disch:=omega) [go_sem,hlt,hla,bG,hq]|refine zDr 9 aQ ?_|fail)
  ·obtain rfl:i=b.length:=by omega
   have hu:R=true:=by
    rw[<-hR,decide_eq_true_eq]
    exact List.ext_getElem h0 fun k h1 h2=>hn k h1 h2 h2
   subst hu
   repeat' (first|(refine aC fun _ _=>?_)|refine zHg ?_|(refine aN [] ?_;simp[go_sem])|simp(disch:=omega) [go_sem])
 ·rw[decide_eq_false (fun h=>h0 (by rw[h]))]
  refine aU func11 call11 rfl (by simp[ntmps11]) ?_;simp only[ntmps11,results11]
  repeat' (first|(refine aC fun _ _=>?_)|refine zHg ?_|(refine zqn ?_ ?_<;>(intro h;first|(exfalso;omega)|(simp only[h,zT])))|(refine aN [] ?_;simp[go_sem,h0])|simp(disch:=omega) [go_sem,h0])
  try any_goals (exfalso;omega)
theorem U3 {F:Bool->aY} {loc:Nat->Option LI} {s:ByteArray} {a b:Bool} {v:Value} (h:RV F loc (.agg [.sc (.string s),.list a b []]) v):RV F loc (.agg [.sc (.string s),.list false false []]) v:=by
 cases h with
 |agg h1 h2 h3=>
  refine .agg h1 (fun i x u hx hu=>?_) h3
  rcases i with _|_|i
  ·exact h2 0 x u hx hu
  ·simp at hx;subst hx
   exact(h2 1 _ u rfl hu).void rfl
  ·simp at hx
theorem bH1 (x y:ByteArray) (a b c d:Bool):ACall prog 64 [.agg [.sc (.string x),.list a b []],.agg [.sc (.string y),.list c d []]] (fun r=>r=nt .i64 (cJ (.mk x []) (.mk y []))):=by
 refine(aFo (.mk x []) (.mk y [])).args rfl fun F i p q v hp hq h=>?_
 rcases i with _|_|i
 ·simp at hp hq;subst hp;subst hq;exact U3 h
 ·simp at hp hq;subst hp;subst hq;exact U3 h
 ·simp at hp
theorem bH2 (x:ByteArray) (a b:Bool):ACall prog 66 [.agg [.sc (.string x),.list a b []]] (fun r=>r=bl (fH x)):=by
 have e:rN (.mk x [])=fH x:=rfl
 rw[<-e]
 refine(aFg (.mk x [])).args rfl fun F i p q v hp hq h=>?_
 rcases i with _|i
 ·simp at hp hq;subst hp;subst hq;exact U3 h
 ·simp at hp
def iW (x y:ByteArray):Int:=cJ (.mk x []) (.mk y [])
theorem bH3:ACall prog 112 [nt .u64 0] (fun r=>r=nt .i64 0):=by
 refine aU func112 call112 rfl (by simp[ntmps112]) ?_;simp only[ntmps112,results112]
 repeat' (first|(refine aC fun _ _=>?_)|refine zHg ?_|(refine aN [] ?_;simp[go_sem])|simp(disch:=omega) [go_sem])
 all_goals(first|rfl|decide+kernel)
theorem bH4:ACall prog 63 [nt .u64 0] (fun r=>r=nt .i64 0):=by
 have h:=bH3
 refine aU func63 call63 rfl (by simp[ntmps63]) ?_;simp only[ntmps63,results63]
 repeat' (first|(refine aC fun _ _=>?_)|refine zHg ?_|(refine aN [] ?_;simp[go_sem])|refine aO rfl (h) (by simp) ?_|simp(disch:=omega) [go_sem])
theorem bH5 (f:FuncId):MCall prog 103 [.ref 1000 0 0,nt .i64 0,nt .i64 0,.clo f []] [(1000,cY bG 1 0 [])] (fun r o'=>r= .tup []/\o'= [(1000,cY bG 1 0 [])]):=by
 refine eW func103 call103 rfl (by simp[ntmps103]) ?_;simp only[ntmps103,results103]
 repeat' (first|(refine aC fun _ _=>?_)|refine zHg ?_|simp(disch:=omega) [go_sem])
 refine bS [0,1,2,3] [] (fun u:Unit=> [(8,nt .i64 1)]) (fun u:Unit=> []) (fun u:Unit=>0) (fun u:Unit=>True) (()) (Le.sub4 rfl (by simp[go_sem])) ⟨?_⟩ ?_
 ·trivial
 intro u hu AA hAA;simp only[kL,Nat.reduceBEq,Nat.reduceEqDiff]
 repeat' (first|(refine aC fun _ _=>?_)|refine zHg ?_|simp(disch:=omega) [go_sem])
 refine sP ⟨53,[],[(1000,cY bG 1 0 [])]⟩ [] (Le.renSub [] [] (by simp[go_sem]) (by simp[go_sem]) (Le.sub4 rfl (by simp[go_sem]))) (by simp[go_sem]) ⟨rfl,rfl⟩
theorem bH6 (f:FuncId):MCall prog 62 [.ref 1000 0 0,nt .i64 0,nt .i64 0,nt .i64 0,.clo f []] [(1000,cY bG 1 0 [])] (fun r o'=>r= .tup []/\o'= [(1000,cY bG 1 0 [])]):=by
 have hi:=bH5 f
 refine eW func62 call62 rfl (by simp[ntmps62]) ?_;simp only[ntmps62,results62]
 repeat' (first|(refine aC fun _ _=>?_)|refine zHg ?_|simp(disch:=omega) [go_sem])
 refine bS [0,4] [] (fun u:Unit=> [(1,nt .i64 0),(2,nt .i64 0),(3,nt .i64 0),(10,bl true),(11,bl true)]) (fun u:Unit=> []) (fun u:Unit=>0) (fun u:Unit=>True) (()) (Le.sub4 rfl (by simp[go_sem])) ⟨?_⟩ ?_
 ·trivial
 intro u hu AA hAA;simp only[kL,Nat.reduceBEq,Nat.reduceEqDiff]
 repeat' (first|(refine aC fun _ _=>?_)|refine zHg ?_|simp(disch:=omega) [go_sem])
 refine bH [] [] 10000 _ _ (Fits.mk' (by simp[go_sem]) (by simp[go_sem])) (by simp[go_sem]) (by simp[go_sem]) (hi) (by simp[go_sem]) (by simp[go_sem]) ?_
 repeat' (first|(refine aC fun _ _=>?_)|refine zHg ?_|simp(disch:=omega) [go_sem])
 refine cV ⟨148,[],[(1000,cY bG 1 0 [])]⟩ [] (Le.renSub [] [] (by simp[go_sem]) (by simp[go_sem]) (Le.sub4 rfl (by simp[go_sem]))) (by simp[go_sem]) ⟨rfl,rfl⟩
theorem bH7 (f:FuncId):MCall prog 27 [.ref 1000 0 0,.clo f []] [(1000,cY bG 1 0 [])] (fun r o'=>r= .tup []/\o'= [(1000,cY bG 1 0 [])]):=by
 have hi:=bH6 f
 have hl:=bH4
 refine eW func27 call27 rfl (by simp[ntmps27]) ?_;simp only[ntmps27,results27]
 repeat' (first|(refine aC fun _ _=>?_)|refine zHg ?_|refine aO rfl (hl) (by simp) ?_|simp(disch:=omega) [go_sem])
 refine bH [] [] 10000 _ _ (Fits.mk' (by simp[go_sem]) (by simp[go_sem])) (by simp[go_sem]) (by simp[go_sem]) (hi) (by simp[go_sem]) (by simp[go_sem]) ?_
 repeat' (first|(refine aC fun _ _=>?_)|refine zHg ?_|simp(disch:=omega) [go_sem])
 refine sP ⟨14,[],[(1000,cY bG 1 0 [])]⟩ [] (Le.renSub [] [] (by simp[go_sem]) (by simp[go_sem]) (Le.sub4 rfl (by simp[go_sem]))) (by simp[go_sem]) ⟨rfl,rfl⟩
set_option maxHeartbeats 4000000
set_option maxHeartbeats 8000000
theorem U4 {t:Tm}: ∀{o:List Tm} {k:Nat},k<=o.length->(∀(j:Nat) (h:j<o.length),j<k->cJ o[j] t<0)->(∀h:k<o.length,¬cJ o[k] t<0)->
 iJ t o=if ∃h:k<o.length,cJ o[k] t=0 then o else o.take k++t::o.drop k
 | [],k,hk,_,_=>by
  obtain rfl:k=0:=by simpa using hk
  simp[iJ]
 |u::r,0,_,_,h2=>by
  have h3:=h2 (by simp)
  simp only[List.getElem_cons_zero]at h3
  unfold iJ
  rw[if_neg h3]
  by_cases h4:cJ u t=0
  ·rw[if_pos h4,if_pos ⟨by simp,h4⟩]
  ·rw[if_neg h4,if_neg (by rintro⟨_,h⟩;exact h4 h)];simp
 |u::r,k+1,hk,h1,h2=>by
  have h3:=h1 0 (by simp) (by omega)
  simp only[List.getElem_cons_zero]at h3
  unfold iJ
  rw[if_pos h3,U4 (k:=k) (by simpa using hk) (fun j h hj=>by have:=h1 (j+1) (by simpa using h) (by omega);simpa using this) (fun h=>by have:=h2 (by simpa using h);simpa using this)]
  by_cases h4: ∃h:k<r.length,cJ r[k] t=0
  ·rw[if_pos h4,if_pos (by obtain⟨h,e⟩:=h4;exact⟨by simpa using h,by simpa using e⟩)]
  ·rw[if_neg h4,if_neg (by rintro⟨h,e⟩;exact h4 ⟨by simpa using h,by simpa using e⟩)];simp
theorem bH8 {l:List Tm} {k:Nat} {y:AV} (h:y∈List.take k (l.map aI)):y.cells.length=2:=by
 obtain⟨t,_,rfl⟩:=List.mem_map.1 (List.mem_of_mem_take h)
 rw[rM];rfl
theorem bH9 {l:List Tm} {k:Nat} {y:AV} (h:y∈List.drop k (l.map aI)):y.cells.length=2:=by
 obtain⟨t,_,rfl⟩:=List.mem_map.1 (List.mem_of_mem_drop h)
 rw[rM];rfl
theorem bIa (l:List Tm) (le fu own:Bool) (hb:l.length<=1000000):ACall prog 67 [.list le fu (l.map aI)] (fun r=>r=if own=true then .own 2 ((fP l).map aI)else .list false false ((fP l).map aI)):=by
 have t0:fP []= []:=rfl
 have hle: ∀i,i<=l.length->(fP (l.take i)).length<=i:=fun i=>by
  induction i with
  |zero=>intro _;exact Nat.le_refl _
  |succ i ih=>
   intro hi
   have:=ih (by omega)
   rw[aFx (by omega)]
   have hins: ∀(t:Tm) (o:List Tm),(iJ t o).length<=o.length+1:=fun t o=>by
    induction o with
    |nil=>simp[iJ]
    |cons u r ih=>unfold iJ;split<;>(try split)<;>simp<;>omega
   have:=hins l[i] (fP (l.take i))
   omega
 generalize hR:fP l=R
 refine aU func67 call67 rfl (by simp[ntmps67]) ?_;simp only[ntmps67,results67]
 repeat' (first|(refine aC fun _ _=>?_)|refine zHg ?_|simp(disch:=omega) [go_sem])
 refine bS [0,8] [900] (fun i:Nat=> [(9,nt .i64 i),(3,.ref 900 0 (fP (l.take i)).length)]) (fun i:Nat=> [(900,⟨true,false,false,2,(fP (l.take i)).map aI,0⟩)]) (fun i:Nat=>l.length - i) (fun i:Nat=>i<=l.length) (0) (by refine Le.trans ?_ (Le.nil (i:=3) (T:=900) (es:=2) rfl);exact(Le.sub4 rfl (by simp[go_sem,t0,List.map_nil]))) ⟨?_⟩ ?_
 ·exact Nat.zero_le _
 intro i hi AA hAA;simp only[kL,Nat.reduceBEq,Nat.reduceEqDiff]
 have hdi:=hle i hi
 by_cases hlt:i<l.length
 ·have hnx:=aFx hlt
  have hle2:=hle (i+1) hlt
  generalize hO:fP (l.take i)=O at*
  have hAB:=hAA
  repeat' (first|(refine aC fun _ _=>?_)|refine zHg ?_|(refine zqd ?_ ?_<;>(intro h;first|(exfalso;omega)|(simp only[h,zT])))|simp(disch:=omega) [go_sem])
  refine bS [0,3,4,8,9] [] (fun k:Nat=> [(5,nt .i64 k)]) (fun k:Nat=> []) (fun k:Nat=>O.length - k) (fun k:Nat=>k<=O.length/\ ∀(j:Nat) (h:j<O.length),j<k->cJ O[j] l[i]<0) (0) (Le.sub4 rfl (by simp[go_sem])) ⟨?_⟩ ?_
  ·exact⟨Nat.zero_le _,fun j h hj=>absurd hj (Nat.not_lt_zero _)⟩
  intro k ⟨hk,hall⟩ AA hAA;simp only[kL,Nat.reduceBEq,Nat.reduceEqDiff]
  by_cases hkl:k<O.length
  ·have hu:=bHf O[k] l[i]
   by_cases hq:cJ O[k] l[i]<0
   ·obtain⟨c,hc⟩: ∃c,c=cJ O[k] l[i]:=⟨_,rfl⟩
    rw[<-hc]at hu hq
    repeat' (first|(refine aC fun _ _=>?_)|refine zHg ?_|refine bR rfl (hu) rfl (by simp) ?_|(refine(hAA.next (k+1) (Le.sub4 rfl (by simp[go_sem])) (by(try dsimp only);omega) ?_))|simp(disch:=omega) [go_sem,hlt,hkl,hq]|refine zDr 16 aQ ?_|fail)
    try any_goals omega
    exact⟨⟨hkl,fun j h hj=>by
     by_cases e:j=k
     ·subst e;rw[<-hc];exact hq
     ·exact hall j h (by omega)⟩⟩
   ·have hin:=U4 hk hall (fun _=>hq)
    by_cases hz:cJ O[k] l[i]=0
    ·rw[if_pos ⟨hkl,hz⟩]at hin
     rw[hin]at hnx
     rw[hz]at hu
     repeat' (first|(refine aC fun _ _=>?_)|refine zHg ?_|refine bR rfl (hu) rfl (by simp) ?_|(refine(hAB.next (i+1) (Le.sub4 rfl (by simp[go_sem,hnx])) (by(try dsimp only);omega) ?_))|simp(disch:=omega) [go_sem,hlt,hkl]|refine zDr 16 aQ ?_|fail)
     try any_goals omega
     exact⟨hlt⟩
    ·rw[if_neg (by rintro⟨_,h⟩;exact hz h)]at hin
     rw[hin]at hnx
     generalize cJ O[k] l[i]=c at*
     have hkn: ¬k=O.length:=by omega
     have htd:List.take (O.length - k) (List.drop k (List.map aI O))=List.drop k (List.map aI O):=List.take_of_length_le (by simp)
     by_cases hk0:k=0
     ·subst hk0
      have h0l: ¬0=O.length:=by omega
      have hc1:1+O.length=O.length+1:=Nat.add_comm _ _
      repeat' (first|(refine aC fun _ _=>?_)|refine zHg ?_|refine bR rfl (hu) rfl (by simp) ?_|(refine(hAB.next (i+1) (Le.renSub [(50,900),(900,50)] [(900,50),(50,900)] (by simp[go_sem,hnx,hc1]) (by simp[go_sem,hnx,hc1]) (Le.sub4 rfl (by simp[go_sem,hnx,hc1]))) (by(try dsimp only);omega) ?_))|simp(disch:=omega) [go_sem,hlt,hkl,hq,hz,h0l]|refine zAo ?_|refine zDr 16 aQ ?_|fail)
      try any_goals omega
      exact⟨hlt⟩
     ·have hmn:min k O.length=k:=Nat.min_eq_left hk
      have hkk:k+1+(O.length - k)=O.length+1:=by omega
      have hkk2:k+(O.length - k+1)=O.length+1:=by omega
      repeat' (first|(refine aC fun _ _=>?_)|refine zHg ?_|refine bR rfl (hu) rfl (by simp) ?_|simp(disch:=omega) [go_sem,hlt,hkl,hq,hz,hkn,hk0,htd]|refine zAo ?_|refine zDr 16 aQ ?_|fail)
      refine⟨⟨fun y hy=>bH8 hy,by omega⟩,?_⟩
      repeat' (first|(refine aC fun _ _=>?_)|refine zHg ?_|simp(disch:=omega) [go_sem,hlt,hkl,hq,hz,hkn,hk0,htd,hmn]|refine zAo ?_|fail)
      try any_goals omega
      refine⟨⟨fun y hy=>bH9 hy,by omega⟩,?_⟩
      repeat' (first|(refine aC fun _ _=>?_)|refine zHg ?_|(refine(hAB.next (i+1) (Le.renSub [(50,900),(900,50)] [(900,50),(50,900)] (by simp[go_sem,hnx,hmn,hkk,hkk2]) (by simp[go_sem,hnx,hmn,hkk,hkk2]) (Le.sub4 rfl (by simp[go_sem,hnx,hmn,hkk,hkk2]))) (by(try dsimp only);omega) ?_))|simp(disch:=omega) [go_sem,hlt,hkl,hq,hz,hkn,hk0,htd,hmn])
      try any_goals omega
      exact⟨hlt⟩
  ·obtain rfl:k=O.length:=by omega
   have hin:=U4 (Nat.le_refl _) hall (fun h=>absurd h (Nat.lt_irrefl _))
   rw[if_neg (by rintro⟨h,_⟩;exact Nat.lt_irrefl _ h)]at hin
   rw[hin]at hnx
   by_cases h0:O= []
   ·subst h0
    simp only[List.take_nil,List.drop_nil,List.nil_append,List.length_nil]at*
    repeat' (first|(refine aC fun _ _=>?_)|refine zHg ?_|(refine(hAB.next (i+1) (Le.renSub [(50,900),(900,50)] [(900,50),(50,900)] (by simp[go_sem,hnx]) (by simp[go_sem,hnx]) (Le.sub4 rfl (by simp[go_sem,hnx]))) (by(try dsimp only);omega) ?_))|simp(disch:=omega) [go_sem,hlt]|refine zDr 16 aQ ?_|fail)
    try any_goals omega
    exact⟨hlt⟩
   ·have h0l: ¬O.length=0:=fun h=>h0 (List.eq_nil_of_length_eq_zero h)
    rw[List.take_length,List.drop_length]at hnx
    repeat' (first|(refine aC fun _ _=>?_)|refine zHg ?_|(refine(hAB.next (i+1) (Le.renSub [(50,900),(900,50)] [(900,50),(50,900)] (by simp[go_sem,hnx]) (by simp[go_sem,hnx]) (Le.sub4 rfl (by simp[go_sem,hnx]))) (by(try dsimp only);omega) ?_))|simp(disch:=omega) [go_sem,hlt,hkl,h0,h0l]|refine zAo ?_|refine zDr 16 aQ ?_|fail)
    try any_goals omega
    exact⟨hlt⟩
 ·obtain rfl:i=l.length:=by omega
  rw[List.take_length,hR]
  cases own
  ·simp only[Bool.false_eq_true,if_false]
   repeat' (first|(refine aC fun _ _=>?_)|refine zHg ?_|(refine aN [900] ?_;simp[go_sem])|simp(disch:=omega) [go_sem])
  ·simp only[if_true]
   repeat' (first|(refine aC fun _ _=>?_)|refine zHg ?_|(refine aN [] ?_;simp[go_sem])|simp(disch:=omega) [go_sem])
theorem bIb (l:List Tm) (le fu:Bool) (hb:l.length<=1000000):ACall prog 67 [.list le fu (l.map aI)] (fun r=>r= .list false false ((fP l).map aI)):=bIa l le fu false hb
end Go.Proofs.YtbgckcdddlmiaaaGreatDoor
