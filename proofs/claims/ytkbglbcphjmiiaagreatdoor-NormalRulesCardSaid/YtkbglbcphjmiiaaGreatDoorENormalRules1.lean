import Derived.Test.YtkbglbcphjmiiaaGreatDoorA3
import Derived.ProofKit
import Derived.OpenShut
import Derived.ReadAgain
import Derived.ChangeStays
import Derived.ChangeSame
import Derived.SizedLaws
import Derived.ChangeReads
import Derived.Test.YtkbglbcphjmiiaaGreatDoorA4
import Derived.Test.YtkbglbcphjmiiaaGreatDoorS1
import Derived.Test.YtkbglbcphjmiiaaGreatDoorA5
import Derived.Test.YtkbglbcphjmiiaaGreatDoorS2
import Derived.Test.YtkbglbcphjmiiaaGreatDoorS3
import Derived.Test.YtkbglbcphjmiiaaGreatDoorS4
import Derived.Test.YtkbglbcphjmiiaaGreatDoorS5
import Derived.Test.YtkbglbcphjmiiaaGreatDoorS6
import Derived.Test.YtkbglbcphjmiiaaGreatDoorA12
set_option linter.unusedSimpArgs false
set_option linter.unusedVariables false
namespace Go.Ab
open Go.RowKit
section
variable {P : Program} {Q : Exit → ASt → Prop} {s : ASt} {k : ASt → Prop}
theorem condQ_split {b:Bool} {x y:Code} (h1:b=true→awp P x Q s) (h2:b=false→awp P y Q s):condQ P (some (.sc (.bool b))) x y Q s:=⟨h1,h2⟩
section ops
variable {d : Nat} {ty : TypeId} {pos : String} {af : Array Edge} {g : Option (Nat × Bool)}
end ops
end
section
variable {P : Program} {Q : Exit → ASt → Prop} {s : ASt} {k : ASt → Prop}
section asteps
variable {dd : Option Nat} {d : Nat} {ty : TypeId} {pos : String} {af : Array Edge} {g : Option (Nat × Bool)}
theorem nbI {k:Bool→Prop} (h: ∀b,k b):nbP k:=h
end asteps
end
end Go.Ab
namespace Go.Ab
open Go.RowKit
end Go.Ab
namespace Go.Ab
open Go.RowKit
end Go.Ab
namespace Go.Ab
open Go.RowKit Go.ChangeShapes Go.WideShapes
section
variable {H : Type} {enc : TypeId × Value → H} {P : Program} {T : TypeId → Prop}
end
end Go.Ab
namespace Go.Ab
open Go.RowKit
theorem condQ_nsplit {P:Program} {Q:Exit→ASt→Prop} {s:ASt} {b:Bool} {x y:Code} (h1:b=false→awp P x Q s) (h2:b=true→awp P y Q s):condQ P (some (.sc (.bool (!b)))) x y Q s:=
 ⟨fun h=>h1 (by simpa using h),fun h=>h2 (by simpa using h)⟩
theorem gK_nsplit {P:Program} {k:ASt→Prop} {s:ASt} {b want:Bool} {o:Oper} (h1:b=false→gK P (.test true want) o k s) (h2:b=true→gK P (.test false want) o k s):gK P (.test (!b) want) o k s:=by
 cases b
 ·exact h1 rfl
 ·exact h2 rfl
theorem dgK_nsplit {P:Program} {k:ASt→Prop} {s:ASt} {b want:Bool} {o:Oper} (h1:b=false→dgK P (.test true want) o k s) (h2:b=true→dgK P (.test false want) o k s):dgK P (.test (!b) want) o k s:=by
 cases b
 ·exact h1 rfl
 ·exact h2 rfl
section
variable {P : Program} {Q : Exit → ASt → Prop} {s : ASt} {k : ASt → Prop}
theorem zqm {b:Bool} {x y:Code} (h1:b=false→awp P x Q s) (h2:b=true→awp P y Q s):condQ P (some (.sc (.bool (!b)))) x y Q s:=condQ_nsplit h1 h2
theorem zgm {b want:Bool} {o:Oper} (h1:b=false→gK P (.test true want) o k s) (h2:b=true→gK P (.test false want) o k s):gK P (.test (!b) want) o k s:=gK_nsplit h1 h2
theorem zdm {b want:Bool} {o:Oper} (h1:b=false→dgK P (.test true want) o k s) (h2:b=true→dgK P (.test false want) o k s):dgK P (.test (!b) want) o k s:=dgK_nsplit h1 h2
theorem zqs {b:Bool} {x y:Code} (h1:b=true→awp P x Q s) (h2:b=false→awp P y Q s):condQ P (some (.sc (.bool b))) x y Q s:=condQ_split h1 h2
theorem zgs {b want:Bool} {o:Oper} (h1:b=true→gK P (.test true want) o k s) (h2:b=false→gK P (.test false want) o k s):gK P (.test b want) o k s:=gK_split h1 h2
theorem zds {b want:Bool} {o:Oper} (h1:b=true→dgK P (.test true want) o k s) (h2:b=false→dgK P (.test false want) o k s):dgK P (.test b want) o k s:=dgK_split h1 h2
end
end Go.Ab
namespace Go.Ab
open Go.RowKit Go.ChangeShapes Go.WideShapes
end Go.Ab
namespace Go.Ab
open Go.RowKit
section
variable {H : Type} {enc : TypeId × Value → H} {P : Program} {w : World}
end
end Go.Ab
namespace Go.Ab
open Go.RowKit
end Go.Ab
namespace Go.Ab
open Go.RowKit
end Go.Ab
namespace Go.Ab
open Go.RowKit
theorem zAa {a b c:Prop} (hc:c) (ha:a:=by assumption) (hb:b:=by omega):(a∧b)∧c:=⟨⟨ha,hb⟩,hc⟩
theorem zB:(!true)=false∧(!false)=true:=⟨rfl,rfl⟩
end Go.Ab
namespace Go.Proofs.YtkbglbcphjmiiaaGreatDoor
open Go.Ab
namespace Tm
end Tm
theorem sizeL_append: ∀a b:List Tm,sizeL (a++b)=sizeL a+sizeL b
 | [],b=>by simp[sizeL]
 |t::r,b=>by simp[sizeL,sizeL_append r b,Nat.add_assoc]
theorem sizeL_next {l:List Tm} {i:Nat} (h:i<l.length):sizeL (l.take (i+1))=sizeL (l.take i)+l[i].size:=by
 rw[take_next h,sizeL_append];simp[sizeL]
theorem sizeL_take (l:List Tm) (i:Nat):sizeL (l.take i)≤sizeL l:=by
 have:=sizeL_append (l.take i) (l.drop i)
 rw[List.take_append_drop]at this;omega
open Go.Ab
set_option maxRecDepth 100000
theorem lower_ok (c:Int):ACall Tryz.prog 97 [nt .u8 c] (fun r=>r=bl (decide (97≤c∧c≤122))):=by
 refine acall_of_awp Tryz.func97 Tryz.call97 rfl (by simp[Tryz.ntmps97]) ?_;simp only[Tryz.ntmps97,Tryz.results97]
 repeat' (first|(refine awK fun _ _=>?_)|refine zHg ?_|refine zgd ?_ ?_<;>(intro h;(simp only[h,zT]))|refine end_ret [] ?_;simp[go_sem]|(fail_if_success with_reducible refine Owe.mk ?_);(simp(disch:=omega) [go_sem]))
 all_goals(first|omega|(rw[Bool.eq_iff_iff];simp;omega))
theorem upper_ok (c:Int):ACall Tryz.prog 96 [nt .u8 c] (fun r=>r=bl (decide (65≤c∧c≤90))):=by
 refine acall_of_awp Tryz.func96 Tryz.call96 rfl (by simp[Tryz.ntmps96]) ?_;simp only[Tryz.ntmps96,Tryz.results96]
 repeat' (first|(refine awK fun _ _=>?_)|refine zHg ?_|refine zgd ?_ ?_<;>(intro h;(simp only[h,zT]))|refine end_ret [] ?_;simp[go_sem]|(fail_if_success with_reducible refine Owe.mk ?_);(simp(disch:=omega) [go_sem]))
 all_goals(first|omega|(rw[Bool.eq_iff_iff];simp;omega))
theorem digit_ok (c:Int):ACall Tryz.prog 98 [nt .u8 c] (fun r=>r=bl (decide (48≤c∧c≤57))):=by
 refine acall_of_awp Tryz.func98 Tryz.call98 rfl (by simp[Tryz.ntmps98]) ?_;simp only[Tryz.ntmps98,Tryz.results98]
 repeat' (first|(refine awK fun _ _=>?_)|refine zHg ?_|refine zgd ?_ ?_<;>(intro h;(simp only[h,zT]))|refine end_ret [] ?_;simp[go_sem]|(fail_if_success with_reducible refine Owe.mk ?_);(simp(disch:=omega) [go_sem]))
 all_goals(first|omega|(rw[Bool.eq_iff_iff];simp;omega))
theorem refName_ok (s:ByteArray):ACall Tryz.prog 126 [.sc (.string s)] (fun r=>r=bl (nameS s)):=by
 have h1:=lower_ok (bt s 0)
 by_cases a1:1≤s.size∧s.size≤16∧(97≤bt s 0∧bt s 0≤122)∧s≠sIf∧s≠sAnd∧s≠sNot
 ·have e:nameS s=allS s (97,122) (48,57) (45,45) s.size:=by simp[nameS,spellS,a1,in1]
  rw[e]
  obtain⟨b1,b2,b3,b4,b5,b6⟩:=a1
  unfold sIf at b4
  unfold sAnd at b5
  unfold sNot at b6
  refine acall_of_awp Tryz.func126 Tryz.call126 rfl (by simp[Tryz.ntmps126]) ?_;simp only[Tryz.ntmps126,Tryz.results126]
  repeat' (first|(refine awK fun _ _=>?_)|refine zHg ?_|refine zgd ?_ ?_<;>(intro h;first|(exfalso;omega)|(simp only[h,zT]))|refine stepK_is rfl (h1) (by simp) ?_|(fail_if_success with_reducible refine Owe.mk ?_);(simp(disch:=omega) [go_sem,b4,b5,b6])|refine zAo ?_|refine zgs ?_ ?_<;>(intro h;first|(exfalso;simp at h;omega)|((try simp only[h]);(try simp at h))))
  refine awp_loop (fun nn ss_=> ∃i:Nat,i≤s.size∧nn=s.size - i∧(allS s (97,122) (48,57) (45,45) i=true)∧ss_= {n:=54,t:= [(0,.sc (.string s)),(31,nt .i64 s.size),(32,nt .i64 (i))],o:= []}) (s.size) {n:=54,t:= [(0,.sc (.string s)),(31,nt .i64 s.size),(32,nt .i64 (0))],o:= []} (Le.sub4 rfl (by simp[go_sem])) ⟨0,Nat.zero_le _,rfl,rfl,rfl⟩ ?_;rintro _ _ ⟨i,hi,rfl,hin,rfl⟩
  have hl:=lower_ok (bt s i)
  have hd:=digit_ok (bt s i)
  by_cases hlt:i<s.size
  ·have hs:=allS_succ s (97,122) (48,57) (45,45) i
   rw[in3,hin,Bool.true_and]at hs
   dsimp only at hs
   repeat' (first|(refine awK fun _ _=>?_)|refine zHg ?_|refine zqn ?_ ?_<;>(intro h;(simp only[h,zT]))|refine end_ret [] ?_;simp[go_sem,hlt]|refine stepK_is rfl (hl) (by simp) ?_|refine stepK_is rfl (hd) (by simp) ?_|refine Again.mk (s.size - (i+1)) {n:=54,t:= [(0,.sc (.string s)),(31,nt .i64 s.size),(32,nt .i64 ((i+1:Nat)))],o:= []} (by omega) (Le.sub4 rfl (by simp[go_sem])) ⟨i+1,by omega,rfl,by rw[hs];exact decide_eq_true (by omega),rfl⟩|(fail_if_success with_reducible refine Owe.mk ?_);(simp(disch:=omega) [go_sem,hlt])|refine zgs ?_ ?_<;>(intro h;((try simp only[h]);(try simp at h))))
   all_goals exact allS_false (i:=i) (by rw[in3];exact decide_eq_false (by dsimp only;omega)) hlt
  ·obtain rfl:i=s.size:=by omega
   repeat' (first|(refine awK fun _ _=>?_)|refine zHg ?_|refine end_ret [] ?_;simp[go_sem,hin]|(fail_if_success with_reducible refine Owe.mk ?_);(simp(disch:=omega) [go_sem,hin]))
 ·have e:nameS s=false:=by
   rw[Bool.eq_false_iff]
   intro h
   simp[nameS,spellS,in1]at h
   exact a1 (by simp[h])
  rw[e]
  unfold sIf sAnd sNot at a1
  refine acall_of_awp Tryz.func126 Tryz.call126 rfl (by simp[Tryz.ntmps126]) ?_;simp only[Tryz.ntmps126,Tryz.results126]
  repeat' (first|(refine awK fun _ _=>?_)|refine zHg ?_|(first|refine zqd ?_ ?_|refine zgd ?_ ?_)<;>(intro h;(simp only[h,zT]))|refine end_ret [] ?_;simp[go_sem]|refine stepK_is rfl (h1) (by simp) ?_|(fail_if_success with_reducible refine Owe.mk ?_);(simp(disch:=omega) [go_sem])|refine zAo ?_|refine zgs ?_ ?_<;>(intro h;((try simp only[h]);(try simp at h))))
  all_goals(exfalso;apply a1;refine⟨by omega,by omega,by omega,?_,?_,?_⟩<;>assumption)
theorem refVariable_ok (s:ByteArray):ACall Tryz.prog 53 [.sc (.string s)] (fun r=>r=bl (varS s)):=by
 have h1:=upper_ok (bt s 0)
 by_cases a1:1≤s.size∧s.size≤16∧(65≤bt s 0∧bt s 0≤90)
 ·have e:varS s=allS s (65,90) (97,122) (48,57) s.size:=by simp[varS,spellS,a1,in1]
  rw[e]
  obtain⟨b1,b2,b3⟩:=a1
  refine acall_of_awp Tryz.func53 Tryz.call53 rfl (by simp[Tryz.ntmps53]) ?_;simp only[Tryz.ntmps53,Tryz.results53]
  repeat' (first|(refine awK fun _ _=>?_)|refine zHg ?_|refine zgd ?_ ?_<;>(intro h;first|(exfalso;omega)|(simp only[h,zT]))|refine stepK_is rfl (h1) (by simp) ?_|(fail_if_success with_reducible refine Owe.mk ?_);(simp(disch:=omega) [go_sem])|refine zAo ?_|refine zqs ?_ ?_<;>(intro h;first|(exfalso;simp at h;omega)|((try simp only[h]);(try simp at h))))
  refine awp_loop (fun nn ss_=> ∃i:Nat,i≤s.size∧nn=s.size - i∧(allS s (65,90) (97,122) (48,57) i=true)∧ss_= {n:=43,t:= [(0,.sc (.string s)),(19,nt .i64 s.size),(20,nt .i64 (i))],o:= []}) (s.size) {n:=43,t:= [(0,.sc (.string s)),(19,nt .i64 s.size),(20,nt .i64 (0))],o:= []} (Le.sub4 rfl (by simp[go_sem])) ⟨0,Nat.zero_le _,rfl,rfl,rfl⟩ ?_;rintro _ _ ⟨i,hi,rfl,hin,rfl⟩
  have hl:=lower_ok (bt s i)
  have hu:=upper_ok (bt s i)
  have hd:=digit_ok (bt s i)
  by_cases hlt:i<s.size
  ·have hs:=allS_succ s (65,90) (97,122) (48,57) i
   rw[in3,hin,Bool.true_and]at hs
   dsimp only at hs
   repeat' (first|(refine awK fun _ _=>?_)|refine zHg ?_|refine end_ret [] ?_;simp[go_sem,hlt]|refine stepK_is rfl (hl) (by simp) ?_|refine stepK_is rfl (hd) (by simp) ?_|refine stepK_is rfl (hu) (by simp) ?_|refine Again.mk (s.size - (i+1)) {n:=43,t:= [(0,.sc (.string s)),(19,nt .i64 s.size),(20,nt .i64 ((i+1:Nat)))],o:= []} (by omega) (Le.sub4 rfl (by simp[go_sem])) ⟨i+1,by omega,rfl,by rw[hs];exact decide_eq_true (by omega),rfl⟩|(fail_if_success with_reducible refine Owe.mk ?_);(simp(disch:=omega) [go_sem,hlt])|(first|refine zqs ?_ ?_|refine zgs ?_ ?_)<;>(intro h;((try simp only[h]);(try simp at h))))
   all_goals exact allS_false (i:=i) (by rw[in3];exact decide_eq_false (by dsimp only;omega)) hlt
  ·obtain rfl:i=s.size:=by omega
   repeat' (first|(refine awK fun _ _=>?_)|refine zHg ?_|refine end_ret [] ?_;simp[go_sem,hin]|(fail_if_success with_reducible refine Owe.mk ?_);(simp(disch:=omega) [go_sem,hin]))
 ·have e:varS s=false:=by
   rw[Bool.eq_false_iff]
   intro h
   simp[varS,spellS,in1]at h
   exact a1 (by simp[h])
  rw[e]
  refine acall_of_awp Tryz.func53 Tryz.call53 rfl (by simp[Tryz.ntmps53]) ?_;simp only[Tryz.ntmps53,Tryz.results53]
  repeat' (first|(refine awK fun _ _=>?_)|refine zHg ?_|refine zgd ?_ ?_<;>(intro h;(simp only[h,zT]))|refine end_ret [] ?_;simp[go_sem]|refine stepK_is rfl (h1) (by simp) ?_|(fail_if_success with_reducible refine Owe.mk ?_);(simp(disch:=omega) [go_sem])|refine zAo ?_|refine zqs ?_ ?_<;>(intro h;first|(exfalso;simp at h;omega)|((try simp only[h]);(try simp at h))))
  all_goals(exfalso;apply a1;omega)
theorem refNumber_ok (s:ByteArray):ACall Tryz.prog 105 [.sc (.string s)] (fun r=>r= .tup [nt .i64 (numS s).1,bl (numS s).2]):=by
 by_cases a1:1≤s.size∧s.size≤4∧ ¬(bt s 0=48∧1<s.size)
 ·rw[numS_yes a1]
  refine acall_of_awp Tryz.func105 Tryz.call105 rfl (by simp[Tryz.ntmps105]) ?_;simp only[Tryz.ntmps105,Tryz.results105]
  repeat' (first|(refine awK fun _ _=>?_)|refine zHg ?_|(first|refine zqd ?_ ?_|refine zgd ?_ ?_)<;>(intro h;first|(exfalso;omega)|(simp only[h,zT]))|(fail_if_success with_reducible refine Owe.mk ?_);(simp(disch:=omega) [go_sem])|refine zAo ?_|fail)
  all_goals(try(exfalso;omega))
  all_goals
   refine awp_loop (fun nn ss_=> ∃i:Nat,i≤s.size∧nn=s.size - i∧(digs s i=true)∧ss_= {n:=44,t:= [(0,.sc (.string s)),(25,nt .i64 s.size),(4,nt .i64 (valS s i)),(26,nt .i64 (i))],o:= []}) (s.size) {n:=44,t:= [(0,.sc (.string s)),(25,nt .i64 s.size),(4,nt .i64 (valS s 0)),(26,nt .i64 (0))],o:= []} (Le.sub4 rfl (by simp[go_sem,valS])) ⟨0,Nat.zero_le _,rfl,rfl,rfl⟩ ?_;rintro _ _ ⟨i,hi,rfl,hin,rfl⟩
   have hb:=bt_range s i
   have hd:=digit_ok (bt s i)
   by_cases hlt:i<s.size
   ·have hv:=valS_small hin (by omega)
    have hs:=digs_succ s i
    rw[hin,Bool.true_and]at hs
    repeat' (first|(refine awK fun _ _=>?_)|refine zHg ?_|refine end_ret [] ?_;simp[go_sem,hlt]|refine stepK_is rfl (hd) (by simp) ?_|refine Again.mk (s.size - (i+1)) {n:=44,t:= [(0,.sc (.string s)),(25,nt .i64 s.size),(4,nt .i64 (valS s (i+1:Nat))),(26,nt .i64 ((i+1:Nat)))],o:= []} (by omega) (Le.sub4 rfl (by simp[go_sem,valS])) ⟨i+1,by omega,rfl,by rw[hs];exact decide_eq_true (by omega),rfl⟩|(fail_if_success with_reducible refine Owe.mk ?_);(simp(disch:=omega) [go_sem,hlt])|refine zqs ?_ ?_<;>(intro h;((try simp only[h]);(try simp at h))))
    all_goals(try simp)
    all_goals(have hf:digs s s.size=false:=digs_false (i:=i) (by omega) hlt)
    all_goals(simp[hf])
   ·obtain rfl:i=s.size:=by omega
    have hv:=valS_max hin (by omega)
    repeat' (first|(refine awK fun _ _=>?_)|refine zHg ?_|refine end_ret [] ?_;simp[go_sem,hin]|(fail_if_success with_reducible refine Owe.mk ?_);(simp(disch:=omega) [go_sem,hin]))
    all_goals(try simp[hin])
    all_goals(try omega)
 ·rw[numS_no a1]
  refine acall_of_awp Tryz.func105 Tryz.call105 rfl (by simp[Tryz.ntmps105]) ?_;simp only[Tryz.ntmps105,Tryz.results105]
  repeat' (first|(refine awK fun _ _=>?_)|refine zHg ?_|(first|refine zqd ?_ ?_|refine zgd ?_ ?_)<;>(intro h;first|(exfalso;omega)|(simp only[h,zT]))|refine end_ret [] ?_;simp[go_sem]|(fail_if_success with_reducible refine Owe.mk ?_);(simp(disch:=omega) [go_sem])|refine zAo ?_|fail)
  all_goals(exfalso;omega)
set_option maxHeartbeats 4000000
theorem refIsNumber_ok (s:ByteArray):ACall Tryz.prog 104 [.sc (.string s)] (fun r=>r=bl (numS s).2):=by
 have hc:=refNumber_ok s
 generalize numS s=q at*
 obtain⟨v,b⟩:=q
 dsimp only at*
 refine acall_of_awp Tryz.func104 Tryz.call104 rfl (by simp[Tryz.ntmps104]) ?_;simp only[Tryz.ntmps104,Tryz.results104]
 repeat' (first|(refine awK fun _ _=>?_)|refine zHg ?_|refine end_ret [] ?_;simp[go_sem]|refine stepK_is rfl (hc) (by simp) ?_|(fail_if_success with_reducible refine Owe.mk ?_);(simp(disch:=omega) [go_sem]))
def isC (t:Tm):Bool:=t.args.isEmpty&&constS t.name
def isV (t:Tm):Bool:=t.args.isEmpty&&varS t.name
theorem isEmpty_len {α:Type} (l:List α):l.isEmpty=decide (l.length=0):=by cases l<;>simp
theorem refConstant_ok (t:Tm):ACall Tryz.prog 176 [eT t] (fun r=>r=bl (isC t)):=by
 have h1:=refName_ok t.name
 have h2:=refIsNumber_ok t.name
 unfold isC constS
 rw[isEmpty_len]
 generalize nameS t.name=a at*
 generalize(numS t.name).2=b at*
 refine acall_of_awp Tryz.func176 Tryz.call176 rfl (by simp[Tryz.ntmps176]) ?_;simp only[Tryz.ntmps176,Tryz.results176]
 by_cases h:t.args.length=0
 ·cases a
  ·repeat' (first|(refine awK fun _ _=>?_)|refine zHg ?_|refine end_ret [] ?_;simp[go_sem,h]|refine stepK_is rfl (h1) (by simp) ?_|refine stepK_is rfl (h2) (by simp) ?_|(fail_if_success with_reducible refine Owe.mk ?_);(simp(disch:=omega) [go_sem,h]))
  ·repeat' (first|(refine awK fun _ _=>?_)|refine zHg ?_|refine end_ret [] ?_;simp[go_sem,h]|refine stepK_is rfl (h1) (by simp) ?_|(fail_if_success with_reducible refine Owe.mk ?_);(simp(disch:=omega) [go_sem,h]))
 ·repeat' (first|(refine awK fun _ _=>?_)|refine zHg ?_|refine end_ret [] ?_;simp[go_sem,h]|(fail_if_success with_reducible refine Owe.mk ?_);(simp(disch:=omega) [go_sem,h]))
theorem refIsVariable_ok (t:Tm):ACall Tryz.prog 177 [eT t] (fun r=>r=bl (isV t)):=by
 have h1:=refVariable_ok t.name
 unfold isV
 rw[isEmpty_len]
 generalize varS t.name=a at*
 refine acall_of_awp Tryz.func177 Tryz.call177 rfl (by simp[Tryz.ntmps177]) ?_;simp only[Tryz.ntmps177,Tryz.results177]
 by_cases h:t.args.length=0
 ·repeat' (first|(refine awK fun _ _=>?_)|refine zHg ?_|refine end_ret [] ?_;simp[go_sem,h]|refine stepK_is rfl (h1) (by simp) ?_|(fail_if_success with_reducible refine Owe.mk ?_);(simp(disch:=omega) [go_sem,h]))
 ·repeat' (first|(refine awK fun _ _=>?_)|refine zHg ?_|refine end_ret [] ?_;simp[go_sem,h]|(fail_if_success with_reducible refine Owe.mk ?_);(simp(disch:=omega) [go_sem,h]))
theorem refWithin_ok (v:Bool): ∀(t:Tm) (lv:Int),-1000≤lv→lv≤1000→ACall Tryz.prog 162 [eT t,nt .i64 lv,bl (!v)] (fun r=>r=bl (withT lv v t)):=by
 refine tm_ind fun t ih lv hl1 hl2=>?_
 obtain⟨s,ts⟩:=t
 rw[withT_mk]
 simp only[args_mk,name_mk]at*
 have h1:=refName_ok s
 have h2:=refConstant_ok (.mk s ts)
 have h3:=refIsVariable_ok (.mk s ts)
 simp only[isC,isV,args_mk,name_mk,isEmpty_len]at h2 h3
 by_cases hc:lv<1∨4<ts.length
 ·rw[if_pos hc]
  generalize nameS s=a at*
  by_cases h0:ts.length=0
  ·refine acall_of_awp Tryz.func162 Tryz.call162 rfl (by simp[Tryz.ntmps162]) ?_;simp only[Tryz.ntmps162,Tryz.results162]
   cases a
   all_goals
    repeat' (first|(refine awK fun _ _=>?_)|refine zHg ?_|refine zqd ?_ ?_<;>(intro h;first|(exfalso;omega)|(simp only[h,zT]))|refine end_ret [] ?_;simp[go_sem,h0]|(fail_if_success with_reducible refine Owe.mk ?_);(simp(disch:=omega) [go_sem,h0]))
   all_goals omega
  ·refine acall_of_awp Tryz.func162 Tryz.call162 rfl (by simp[Tryz.ntmps162]) ?_;simp only[Tryz.ntmps162,Tryz.results162]
   cases a
   all_goals
    repeat' (first|(refine awK fun _ _=>?_)|refine zHg ?_|refine zqd ?_ ?_<;>(intro h;first|(exfalso;omega)|(simp only[h,zT]))|refine end_ret [] ?_;simp[go_sem,h0]|refine stepK_is rfl (h1) (by simp) ?_|(fail_if_success with_reducible refine Owe.mk ?_);(simp(disch:=omega) [go_sem,h0]))
   all_goals omega
 ·rw[if_neg hc]
  simp only[not_or]at hc
  obtain⟨hc1,hc2⟩:=hc
  by_cases h0:ts.length=0
  ·rw[if_pos h0]
   simp only[h0,decide_true,Bool.true_and]at h2 h3
   generalize constS s=a at*
   generalize varS s=c at*
   refine acall_of_awp Tryz.func162 Tryz.call162 rfl (by simp[Tryz.ntmps162]) ?_;simp only[Tryz.ntmps162,Tryz.results162]
   cases a<;>cases v
   all_goals
    repeat' (first|(refine awK fun _ _=>?_)|refine zHg ?_|refine zqd ?_ ?_<;>(intro h;first|(exfalso;omega)|(simp only[h,zT]))|refine end_ret [] ?_;simp[go_sem,h0]|refine stepK_is rfl (h2) (by simp) ?_|refine stepK_is rfl (h3) (by simp) ?_|(fail_if_success with_reducible refine Owe.mk ?_);(simp(disch:=omega) [go_sem,h0]))
  ·rw[if_neg h0]
   clear h2 h3
   cases ha:nameS s with
   |false=>
    rw[ha]at h1
    refine acall_of_awp Tryz.func162 Tryz.call162 rfl (by simp[Tryz.ntmps162]) ?_;simp only[Tryz.ntmps162,Tryz.results162]
    repeat' (first|(refine awK fun _ _=>?_)|refine zHg ?_|refine zqd ?_ ?_<;>(intro h;first|(exfalso;omega)|(simp only[h,zT]))|refine end_ret [] ?_;simp[go_sem,h0]|refine stepK_is rfl (h1) (by simp) ?_|(fail_if_success with_reducible refine Owe.mk ?_);(simp(disch:=omega) [go_sem,h0]))
   |true=>
    rw[ha]at h1
    simp only[Bool.true_and]
    generalize hR:withL (lv - 1) v ts=R
    refine acall_of_awp Tryz.func162 Tryz.call162 rfl (by simp[Tryz.ntmps162]) ?_;simp only[Tryz.ntmps162,Tryz.results162]
    repeat' (first|(refine awK fun _ _=>?_)|refine zHg ?_|refine zqd ?_ ?_<;>(intro h;first|(exfalso;omega)|(simp only[h,zT]))|refine stepK_is rfl (h1) (by simp) ?_|(fail_if_success with_reducible refine Owe.mk ?_);(simp(disch:=omega) [go_sem,h0]))
    refine awp_for [1,2,3,36] [] (fun i:Nat=> [(37,nt .i64 i)]) (fun i:Nat=> []) (fun i:Nat=>ts.length - i) (fun i:Nat=>i≤ts.length∧withL (lv - 1) v (ts.take i)=true) (0) (Le.sub4 rfl (by simp[go_sem])) ⟨?_⟩ ?_
    ·exact⟨Nat.zero_le _,rfl⟩
    intro i ⟨hi,hw⟩ AA hAA;simp only[kL,Nat.reduceBEq,Nat.reduceEqDiff,if_true,if_false,List.cons_append,List.nil_append,List.append_nil]
    by_cases hlt:i<ts.length
    ·have hu:=ih ts[i] (List.getElem_mem hlt) (lv - 1) (by omega) (by omega)
     have hn:=withL_next (lv:=lv - 1) (v:=v) hlt
     rw[hw,Bool.true_and]at hn
     cases hq:withT (lv - 1) v ts[i]with
     |true=>
      rw[hq]at hu hn
      repeat' (first|(refine awK fun _ _=>?_)|refine zHg ?_|refine stepK_is rfl (hu) (by simp) ?_|refine(hAA.next (i+1) (Le.sub4 rfl (by simp[go_sem])) (by(try dsimp only);omega) ?_)|(fail_if_success with_reducible refine Owe.mk ?_);(simp(disch:=omega) [go_sem,hlt]))
      exact⟨⟨hlt,hn⟩⟩
     |false=>
      rw[hq]at hu
      have:=withL_false (List.getElem_mem hlt) hq
      rw[this]at hR
      subst hR
      repeat' (first|(refine awK fun _ _=>?_)|refine zHg ?_|refine end_ret [] ?_;simp[go_sem,hlt]|refine stepK_is rfl (hu) (by simp) ?_|(fail_if_success with_reducible refine Owe.mk ?_);(simp(disch:=omega) [go_sem,hlt]))
    ·obtain rfl:i=ts.length:=by omega
     rw[List.take_length]at hw
     rw[hw]at hR
     subst hR
     repeat' (first|(refine awK fun _ _=>?_)|refine zHg ?_|refine end_ret [] ?_;simp[go_sem]|(fail_if_success with_reducible refine Owe.mk ?_);(simp(disch:=omega) [go_sem]))
theorem refValid_ok (t:Tm):ACall Tryz.prog 125 [eT t] (fun r=>r=bl (withT 4 true t)):=by
 have h:=refWithin_ok true t 4 (by decide) (by decide)
 generalize withT 4 true t=b at*
 refine acall_of_awp Tryz.func125 Tryz.call125 rfl (by simp[Tryz.ntmps125]) ?_;simp only[Tryz.ntmps125,Tryz.results125]
 repeat' (first|(refine awK fun _ _=>?_)|refine zHg ?_|refine end_ret [] ?_;simp[go_sem]|refine stepK_is rfl (h) (by simp) ?_|(fail_if_success with_reducible refine Owe.mk ?_);(simp(disch:=omega) [go_sem]))
theorem sign_ok (a b:Int):ACall Tryz.prog 62 [nt .i64 a,nt .i64 b] (fun r=>r=nt .i64 (ord a b)):=by
 unfold ord
 refine acall_of_awp Tryz.func62 Tryz.call62 rfl (by simp[Tryz.ntmps62]) ?_;simp only[Tryz.ntmps62,Tryz.results62]
 repeat' (first|(refine awK fun _ _=>?_)|refine zHg ?_|refine zqd ?_ ?_<;>(intro h;(simp only[h,zT]))|refine end_ret [] ?_;simp[go_sem]|(fail_if_success with_reducible refine Owe.mk ?_);(simp(disch:=omega) [go_sem]))
 all_goals(first|omega|simp[*])
theorem refStrings_ok (a b:ByteArray):ACall Tryz.prog 65 [.sc (.string a),.sc (.string b)] (fun r=>r=nt .i64 (strC a b)):=by
 have hr:=strC_range a b
 have hz:=strC_zero (a:=a) (b:=b)
 have hs:=less_strC a b
 generalize strC a b=c at*
 by_cases he:a=b
 ·subst he
  have:c=0:=hz.2 rfl
  subst this
  simp at hs
  refine acall_of_awp Tryz.func65 Tryz.call65 rfl (by simp[Tryz.ntmps65]) ?_;simp only[Tryz.ntmps65,Tryz.results65]
  repeat' (first|(refine awK fun _ _=>?_)|refine zHg ?_|refine end_ret [] ?_;simp[go_sem,hs]|(fail_if_success with_reducible refine Owe.mk ?_);(simp(disch:=omega) [go_sem,hs]))
 ·have hc:c≠0:=fun h=>he (hz.1 h)
  refine acall_of_awp Tryz.func65 Tryz.call65 rfl (by simp[Tryz.ntmps65]) ?_;simp only[Tryz.ntmps65,Tryz.results65]
  repeat' (first|(refine awK fun _ _=>?_)|refine zHg ?_|(first|refine zqd ?_ ?_|refine zqn ?_ ?_)<;>(intro h;first|(exfalso;omega)|(simp only[h,zT]))|refine end_ret [] ?_;simp[go_sem,hs,he]|(fail_if_success with_reducible refine Owe.mk ?_);(simp(disch:=omega) [go_sem,hs,he]))
  all_goals omega
theorem refCompareList_of (ts us:List Tm) (l f l' f':Bool) (h: ∀t∈ts,∀u,ACall Tryz.prog 31 [eT t,eT u] (fun r=>r=nt .i64 (cmpT t u))):
 ACall Tryz.prog 66 [.list l f (ts.map eTm),.list l' f' (us.map eTm)] (fun r=>r=nt .i64 (cmpL ts us)):=by
 refine ACall.bound (i:=0) rfl Tryz.call66 fun hb=>?_
 rw[List.length_map]at hb
 have hb:ts.length≤140737488355328:=hb
 have ho:=sign_ok ts.length us.length
 generalize hR:cmpL ts us=R
 refine acall_of_awp Tryz.func66 Tryz.call66 rfl (by simp[Tryz.ntmps66]) ?_;simp only[Tryz.ntmps66,Tryz.results66]
 repeat' (first|(refine awK fun _ _=>?_)|refine zHg ?_|(fail_if_success with_reducible refine Owe.mk ?_);(simp(disch:=omega) [go_sem]))
 refine awp_for [0,1] [] (fun i:Nat=> [(5,nt .i64 i)]) (fun i:Nat=> []) (fun i:Nat=>ts.length - i) (fun i:Nat=>i≤ts.length∧i≤us.length∧cmpL (ts.drop i) (us.drop i)=R) (0) (Le.sub4 rfl (by simp[go_sem])) ⟨?_⟩ ?_
 ·exact⟨Nat.zero_le _,Nat.zero_le _,by simpa using hR⟩
 intro i ⟨hi,hi2,hc⟩ AA hAA;simp only[kL,Nat.reduceBEq,Nat.reduceEqDiff,if_true,if_false,List.cons_append,List.nil_append,List.append_nil]
 by_cases h1:i<ts.length
 ·by_cases h2:i<us.length
  ·have hu:=h ts[i] (List.getElem_mem h1) us[i]
   rw[List.drop_eq_getElem_cons h1,List.drop_eq_getElem_cons h2]at hc
   simp only[cmpL]at hc
   generalize cmpT ts[i] us[i]=c at*
   by_cases hz:c=0
   ·subst hz
    simp at hc
    repeat' (first|(refine awK fun _ _=>?_)|refine zHg ?_|refine dstepK_is rfl (hu) rfl (by simp) ?_|refine(hAA.next (i+1) (Le.sub4 rfl (by simp[go_sem])) (by(try dsimp only);omega) ?_)|(fail_if_success with_reducible refine Owe.mk ?_);(simp(disch:=omega) [go_sem,h1,h2])|refine zDr 10 mix ?_|fail)
    exact⟨⟨h1,h2,hc⟩⟩
   ·simp only[ne_eq,hz,not_false_eq_true,if_true]at hc
    repeat' (first|(refine awK fun _ _=>?_)|refine zHg ?_|refine zqn ?_ ?_<;>(intro h;first|(exfalso;omega)|(simp only[h,zT]))|refine end_ret [] ?_;simp[go_sem,h1,h2,hz,hc]|refine dstepK_is rfl (hu) rfl (by simp) ?_|(fail_if_success with_reducible refine Owe.mk ?_);(simp(disch:=omega) [go_sem,h1,h2,hz,hc])|refine zDr 10 mix ?_|fail)
  ·have e1:us.drop i= []:=List.drop_of_length_le (by omega)
   rw[List.drop_eq_getElem_cons h1,e1]at hc
   simp only[cmpL]at hc
   have e2:ord ts.length us.length=1:=by unfold ord;rw[if_neg (by omega),if_pos (by omega)]
   rw[e2]at ho
   repeat' (first|(refine awK fun _ _=>?_)|refine zHg ?_|refine end_ret [] ?_;simp[go_sem,h1,h2,hc]|refine stepK_is rfl (ho) (by simp) ?_|(fail_if_success with_reducible refine Owe.mk ?_);(simp(disch:=omega) [go_sem,h1,h2,hc]))
 ·have e1:ts.drop i= []:=List.drop_of_length_le (by omega)
  by_cases h2:i<us.length
  ·rw[List.drop_eq_getElem_cons h2,e1]at hc
   simp only[cmpL]at hc
   have e2:ord ts.length us.length= -1:=by unfold ord;rw[if_pos (by omega)]
   rw[e2]at ho
   repeat' (first|(refine awK fun _ _=>?_)|refine zHg ?_|refine end_ret [] ?_;simp[go_sem,h1,h2,hc]|refine stepK_is rfl (ho) (by simp) ?_|(fail_if_success with_reducible refine Owe.mk ?_);(simp(disch:=omega) [go_sem,h1,h2,hc]))
  ·have e3:us.drop i= []:=List.drop_of_length_le (by omega)
   rw[e1,e3]at hc
   simp only[cmpL]at hc
   have e2:ord ts.length us.length=0:=by unfold ord;rw[if_neg (by omega),if_neg (by omega)]
   rw[e2]at ho
   repeat' (first|(refine awK fun _ _=>?_)|refine zHg ?_|refine end_ret [] ?_;simp[go_sem,h1,h2,hc]|refine stepK_is rfl (ho) (by simp) ?_|(fail_if_success with_reducible refine Owe.mk ?_);(simp(disch:=omega) [go_sem,h1,h2,hc]))
theorem class_ok (t:Tm):ACall Tryz.prog 63 [eT t] (fun r=>r=nt .i64 (kd t).1):=by
 have h1:=refIsNumber_ok t.name
 have h2:=refVariable_ok t.name
 unfold kd
 generalize(numS t.name).2=b at*
 generalize varS t.name=c at*
 by_cases h0:0<t.args.length
 ·rw[if_pos h0]
  have h0':(0:Int)<t.args.length:=by omega
  refine acall_of_awp Tryz.func63 Tryz.call63 rfl (by simp[Tryz.ntmps63]) ?_;simp only[Tryz.ntmps63,Tryz.results63]
  repeat' (first|(refine awK fun _ _=>?_)|refine zHg ?_|refine end_ret [] ?_;simp[go_sem,h0]|(fail_if_success with_reducible refine Owe.mk ?_);(simp(disch:=omega) [go_sem,h0]))
 ·rw[if_neg h0]
  cases b
  ·cases c
   ·refine acall_of_awp Tryz.func63 Tryz.call63 rfl (by simp[Tryz.ntmps63]) ?_;simp only[Tryz.ntmps63,Tryz.results63]
    repeat' (first|(refine awK fun _ _=>?_)|refine zHg ?_|refine end_ret [] ?_;simp[go_sem,h0]|refine stepK_is rfl (h1) (by simp) ?_|refine stepK_is rfl (h2) (by simp) ?_|(fail_if_success with_reducible refine Owe.mk ?_);(simp(disch:=omega) [go_sem,h0]))
   ·refine acall_of_awp Tryz.func63 Tryz.call63 rfl (by simp[Tryz.ntmps63]) ?_;simp only[Tryz.ntmps63,Tryz.results63]
    repeat' (first|(refine awK fun _ _=>?_)|refine zHg ?_|refine end_ret [] ?_;simp[go_sem,h0]|refine stepK_is rfl (h1) (by simp) ?_|refine stepK_is rfl (h2) (by simp) ?_|(fail_if_success with_reducible refine Owe.mk ?_);(simp(disch:=omega) [go_sem,h0]))
  ·refine acall_of_awp Tryz.func63 Tryz.call63 rfl (by simp[Tryz.ntmps63]) ?_;simp only[Tryz.ntmps63,Tryz.results63]
   repeat' (first|(refine awK fun _ _=>?_)|refine zHg ?_|refine end_ret [] ?_;simp[go_sem,h0]|refine stepK_is rfl (h1) (by simp) ?_|(fail_if_success with_reducible refine Owe.mk ?_);(simp(disch:=omega) [go_sem,h0]))
theorem value_ok (s:ByteArray):ACall Tryz.prog 64 [.sc (.string s)] (fun r=>r=nt .i64 (numS s).1):=by
 have hc:=refNumber_ok s
 generalize numS s=q at*
 obtain⟨v,b⟩:=q
 dsimp only at*
 refine acall_of_awp Tryz.func64 Tryz.call64 rfl (by simp[Tryz.ntmps64]) ?_;simp only[Tryz.ntmps64,Tryz.results64]
 repeat' (first|(refine awK fun _ _=>?_)|refine zHg ?_|refine end_ret [] ?_;simp[go_sem]|refine stepK_is rfl (hc) (by simp) ?_|(fail_if_success with_reducible refine Owe.mk ?_);(simp(disch:=omega) [go_sem]))
theorem refCompare_ok: ∀a b:Tm,ACall Tryz.prog 31 [eT a,eT b] (fun r=>r=nt .i64 (cmpT a b)):=by
 refine tm_ind fun a ih b=>?_
 have h1:=class_ok a
 have h2:=class_ok b
 have ho1:=sign_ok (kd a).1 (kd b).1
 rw[cmpT_eq]
 by_cases q1:(kd a).1=(kd b).1
 ·have e1:ord (kd a).1 (kd b).1=0:=by unfold ord;rw[if_neg (by omega),if_neg (by omega)]
  rw[e1]at ho1
  rcases kd_cases a with⟨a1,a2,a3⟩|⟨a1,a2⟩
  ·rcases kd_cases b with⟨b1,b2,b3⟩|⟨b1,b2⟩
   ·have hv1:=value_ok a.name
    have hv2:=value_ok b.name
    have ho2:=sign_ok (numS a.name).1 (numS b.name).1
    rw[a3]at h1 ho1 ⊢
    rw[b3]at h2 ho1 ⊢
    rw[a1,b1]
    dsimp only at*
    generalize(numS a.name).1=u at*
    generalize(numS b.name).1=v at*
    have e:(if((0:Int),u,(0:Int),ByteArray.mk #[])=(0,v,0,ByteArray.mk #[])then cmpL [] []else if(0:Int)≠0 then ord 0 0 else if u≠v then ord u v else if(0:Int)≠0 then ord 0 0 else strC (ByteArray.mk #[]) (ByteArray.mk #[]))=ord u v:=by
     by_cases h:u=v
     ·subst h;simp[cmpL,ord]
     ·simp[h]
    rw[e]
    generalize ord u v=o at*
    clear a1 b1 a2 b2 a3 b3 ih
    refine acall_of_awp Tryz.func31 Tryz.call31 rfl (by simp[Tryz.ntmps31]) ?_;simp only[Tryz.ntmps31,Tryz.results31]
    repeat' (first|(refine awK fun _ _=>?_)|refine zHg ?_|refine end_ret [] ?_;simp[go_sem]|refine stepK_is rfl (h1) (by simp) ?_|refine dstepK_is rfl (h1) rfl (by simp) ?_|refine dstepK_is rfl (h2) rfl (by simp) ?_|refine dstepK_is rfl (ho1) rfl (by simp) ?_|refine dstepK_is rfl (hv1) rfl (by simp) ?_|refine dstepK_is rfl (hv2) rfl (by simp) ?_|refine stepK_is rfl (ho2) (by simp) ?_|(fail_if_success with_reducible refine Owe.mk ?_);(simp(disch:=omega) [go_sem])|refine zDr 6 mix ?_|fail)
   ·exact absurd (by rw[←q1,a3]) b1
  ·rcases kd_cases b with⟨b1,b2,b3⟩|⟨b1,b2⟩
   ·exact absurd (by rw[q1,b3]) a1
   ·have h3:=refCompareList_of a.args b.args false false false false ih
    have ho2:=sign_ok a.args.length b.args.length
    have ho3:=refStrings_ok a.name b.name
    have hz:=strC_zero (a:=a.name) (b:=b.name)
    generalize cmpL a.args b.args=w at*
    rw[a2,b2]
    dsimp only
    rw[←q1]at h2 ho1 ⊢
    generalize(kd a).1=k at*
    clear a2 b2 ih
    by_cases q2:(a.args.length:Int)=b.args.length
    ·by_cases q3:a.name=b.name
     ·have q4:strC a.name b.name=0:=hz.2 q3
      rw[q4]at ho3
      simp only[q2,q3,if_true]
      refine acall_of_awp Tryz.func31 Tryz.call31 rfl (by simp[Tryz.ntmps31]) ?_;simp only[Tryz.ntmps31,Tryz.results31]
      repeat' (first|(refine awK fun _ _=>?_)|refine zHg ?_|refine end_ret [] ?_;simp[go_sem,a1,q2]|refine stepK_is rfl (h1) (by simp) ?_|refine dstepK_is rfl (h1) rfl (by simp) ?_|refine dstepK_is rfl (h2) rfl (by simp) ?_|refine dstepK_is rfl (ho1) rfl (by simp) ?_|refine stepK_is rfl (ho3) (by simp) ?_|refine stepK_is rfl (h3) (by simp) ?_|(fail_if_success with_reducible refine Owe.mk ?_);(simp(disch:=omega) [go_sem,a1,q2])|refine zDr 6 mix ?_|fail)
     ·have q4:strC a.name b.name≠0:=fun h=>q3 (hz.1 h)
      have e:(if(k,(0:Int),(a.args.length:Int),a.name)=(k,0,(b.args.length:Int),b.name)then w else if k≠k then ord k k else if(0:Int)≠0 then ord 0 0 else if(a.args.length:Int)≠b.args.length then ord a.args.length b.args.length else strC a.name b.name)=strC a.name b.name:=by
       simp[q2,q3]
      rw[e]
      generalize strC a.name b.name=o at*
      refine acall_of_awp Tryz.func31 Tryz.call31 rfl (by simp[Tryz.ntmps31]) ?_;simp only[Tryz.ntmps31,Tryz.results31]
      repeat' (first|(refine awK fun _ _=>?_)|refine zHg ?_|refine end_ret [] ?_;simp[go_sem,a1,q2,q4]|refine stepK_is rfl (h1) (by simp) ?_|refine dstepK_is rfl (h1) rfl (by simp) ?_|refine dstepK_is rfl (h2) rfl (by simp) ?_|refine dstepK_is rfl (ho1) rfl (by simp) ?_|refine stepK_is rfl (ho3) (by simp) ?_|(fail_if_success with_reducible refine Owe.mk ?_);(simp(disch:=omega) [go_sem,a1,q2,q4])|refine zDr 6 mix ?_|fail)
    ·have e:(if(k,(0:Int),(a.args.length:Int),a.name)=(k,0,(b.args.length:Int),b.name)then w else if k≠k then ord k k else if(0:Int)≠0 then ord 0 0 else if(a.args.length:Int)≠b.args.length then ord a.args.length b.args.length else strC a.name b.name)=ord a.args.length b.args.length:=by
      simp[q2]
     rw[e]
     generalize ord a.args.length b.args.length=o at*
     refine acall_of_awp Tryz.func31 Tryz.call31 rfl (by simp[Tryz.ntmps31]) ?_;simp only[Tryz.ntmps31,Tryz.results31]
     repeat' (first|(refine awK fun _ _=>?_)|refine zHg ?_|refine end_ret [] ?_;simp[go_sem,a1,q2]|refine stepK_is rfl (h1) (by simp) ?_|refine dstepK_is rfl (h1) rfl (by simp) ?_|refine dstepK_is rfl (h2) rfl (by simp) ?_|refine dstepK_is rfl (ho1) rfl (by simp) ?_|refine stepK_is rfl (ho2) (by simp) ?_|(fail_if_success with_reducible refine Owe.mk ?_);(simp(disch:=omega) [go_sem,a1,q2])|refine zDr 6 mix ?_|fail)
 ·have e1:ord (kd a).1 (kd b).1≠0:=by unfold ord;split<;>(try split)<;>omega
  have e:(if kd a=kd b then cmpL a.args b.args else if(kd a).1≠(kd b).1 then ord (kd a).1 (kd b).1 else if(kd a).2.1≠(kd b).2.1 then ord (kd a).2.1 (kd b).2.1 else if(kd a).2.2.1≠(kd b).2.2.1 then ord (kd a).2.2.1 (kd b).2.2.1 else strC (kd a).2.2.2 (kd b).2.2.2)=ord (kd a).1 (kd b).1:=by
   rw[if_neg (fun h=>q1 (by rw[h])),if_pos q1]
  rw[e]
  generalize ord (kd a).1 (kd b).1=o at*
  generalize(kd a).1=x at*
  generalize(kd b).1=y at*
  refine acall_of_awp Tryz.func31 Tryz.call31 rfl (by simp[Tryz.ntmps31]) ?_;simp only[Tryz.ntmps31,Tryz.results31]
  repeat' (first|(refine awK fun _ _=>?_)|refine zHg ?_|refine end_ret [] ?_;simp[go_sem,e1]|refine dstepK_is rfl (h1) rfl (by simp) ?_|refine dstepK_is rfl (h2) rfl (by simp) ?_|refine dstepK_is rfl (ho1) rfl (by simp) ?_|(fail_if_success with_reducible refine Owe.mk ?_);(simp(disch:=omega) [go_sem,e1])|refine zDr 6 mix ?_|fail)
section
variable {α : Type} {c : α → α → Int}
theorem srtG_next {l:List α} {i:Nat} (h:i<l.length):srtG c (l.take (i+1))=insG c l[i] (srtG c (l.take i)):=by
 unfold srtG
 rw[take_next h,List.foldl_append];rfl
theorem insG_cut (h:Tot c) {t:α}: ∀{o:List α},AscG c o→ ∃k,k≤o.length∧(∀(j:Nat) (hj:j<o.length),j<k→c o[j] t<0)∧(∀hk:k<o.length,0≤c o[k] t)∧
 ((∃hk:k<o.length,c o[k] t=0)∧insG c t o=o∨(∀hk:k<o.length,c o[k] t≠0)∧insG c t o=o.take k++t::o.drop k)
 | [],_=>⟨0,Nat.le_refl _,fun j hj=>absurd hj (Nat.not_lt_zero _),fun hk=>absurd hk (Nat.not_lt_zero _),.inr ⟨fun hk=>absurd hk (Nat.not_lt_zero _),rfl⟩⟩
 |y::r,ho=>by
  obtain⟨a1,a2⟩:=List.pairwise_cons.1 ho
  by_cases h1:c y t<0
  ·obtain⟨k,k1,k2,k3,k4⟩:=insG_cut h (t:=t) a2
   refine⟨k+1,by simp;omega,fun j hj hjk=>?_,fun hk=>k3 (by simpa using hk),?_⟩
   ·cases j with
    |zero=>exact h1
    |succ j=>exact k2 j (by simpa using hj) (by omega)
   ·rw[insG,if_pos h1]
    rcases k4 with⟨⟨hk,e0⟩,e⟩|⟨e0,e⟩
    ·exact .inl ⟨⟨by simp;omega,e0⟩,by rw[e]⟩
    ·exact .inr ⟨fun hk=>e0 (by simpa using hk),by rw[e];rfl⟩
  ·refine⟨0,Nat.zero_le _,fun j _ hj=>absurd hj (Nat.not_lt_zero _),fun _=>Int.not_lt.1 h1,?_⟩
   rw[insG,if_neg h1]
   by_cases h0:c y t=0
   ·rw[if_pos h0];exact .inl ⟨⟨by simp,h0⟩,rfl⟩
   ·rw[if_neg h0];exact .inr ⟨fun _=>h0,rfl⟩
end
open Go.Ab
set_option maxRecDepth 100000
theorem perm_map_inv {α β:Type} {f:α→β}: ∀{B:List α} {A:List β},A.Perm (B.map f)→ ∃C:List α,C.Perm B∧C.map f=A
 | [],A,h=>⟨[],.refl _,by rw[List.map_nil]at h;rw[h.eq_nil];rfl⟩
 |b::B,A,h=>by
  rw[List.map_cons]at h
  have hm:f b∈A:=h.mem_iff.2 (by simp)
  obtain⟨a1,a2,rfl⟩:=List.append_of_mem hm
  have h2:(a1++a2).Perm (B.map f):=by
   have:=List.perm_middle.symm.trans h
   exact(List.perm_cons _).1 this
  obtain⟨C,h3,h4⟩:=perm_map_inv h2
  obtain⟨c1,c2,rfl,h5,h6⟩:=List.map_eq_append_iff.1 h4
  exact⟨c1++b::c2,List.perm_middle.trans (.cons b h3),by rw[List.map_append,List.map_cons,h5,h6]⟩
def ordF:Nat→List (List Nat)
 |0=> [[]]
 |n+1=>(ordF n).flatMap fun l=>(List.range (n+1)).map fun a=>l.take a++(n+1)::l.drop a
theorem mem_ordF: ∀(n:Nat) (l:List Nat),l∈ordF n↔l.Perm ((List.range n).map (· +1))
 |0,l=>by
  rw[ordF,List.mem_singleton]
  simp
 |n+1,l=>by
  have hr:((List.range (n+1)).map (· +1)).Perm ((n+1)::(List.range n).map (· +1)):=by
   rw[List.range_succ,List.map_append]
   exact List.perm_append_comm
  rw[ordF,List.mem_flatMap]
  constructor
  ·rintro⟨m,hm,h⟩
   obtain⟨a,_,rfl⟩:=List.mem_map.1 h
   have h1:=(mem_ordF n m).1 hm
   refine .trans List.perm_middle (.trans (.cons _ ?_) hr.symm)
   rw[List.take_append_drop];exact h1
  ·intro h
   have h':=h.trans hr
   have hm:n+1∈l:=h'.mem_iff.2 (by simp)
   obtain⟨a,b,rfl⟩:=List.append_of_mem hm
   have h2:(a++b).Perm ((List.range n).map (· +1)):=by
    have:=List.perm_middle.symm.trans h'
    exact(List.perm_cons _).1 this
   refine⟨a++b,(mem_ordF n _).2 h2,List.mem_map.2 ⟨a.length,?_,by simp⟩⟩
   have:=h2.length_eq
   rw[List.length_append,List.length_map,List.length_range]at this
   exact List.mem_range.2 (by omega)
def nrmO (r:Rl):Rl:=minL ((ordF (varsR r).length).map fun l=>cndR r (varsR r) (l.map fun k=>nmV (k - 1)))
theorem nrmO_eq (r:Rl):nrmO r=nrmB r:=by
 refine minL_uniq fun x=>?_
 rw[mem_cands,isC_cnd (.refl _),List.mem_map]
 have e:((List.range (varsR r).length).map (· +1)).map (fun k=>nmV (k - 1))=nmsN (varsR r).length:=by
  unfold nmsN
  rw[List.map_map];rfl
 constructor
 ·rintro⟨l,h1,rfl⟩
  refine⟨_,?_,rfl⟩
  rw[←e]
  exact((mem_ordF _ _).1 h1).map _
 ·rintro⟨l,h1,rfl⟩
  rw[←e]at h1
  obtain⟨C,h2,rfl⟩:=perm_map_inv h1
  exact⟨C,(mem_ordF _ _).2 h2,rfl⟩
set_option maxHeartbeats 8000000
theorem refLit_ok (a b:Lt):ACall Tryz.prog 32 [eLt a,eLt b] (fun r=>r=nt .i64 (ltC a b)):=by
 have h:=refCompare_ok a.atom b.atom
 rw[ltC_if]
 obtain⟨p,t⟩:=a
 obtain⟨q,u⟩:=b
 dsimp only at*
 generalize cmpT t u=c at*
 cases p<;>cases q<;>simp only[if_true,if_false,Bool.false_eq_true,Bool.true_eq_false]
 ·refine acall_of_awp Tryz.func32 Tryz.call32 rfl (by simp[Tryz.ntmps32]) ?_;simp only[Tryz.ntmps32,Tryz.results32]
  repeat' (first|(refine awK fun _ _=>?_)|refine zHg ?_|refine end_ret [] ?_;simp[go_sem]|refine stepK_is rfl (h) (by simp) ?_|(fail_if_success with_reducible refine Owe.mk ?_);(simp(disch:=omega) [go_sem]))
 ·refine acall_of_awp Tryz.func32 Tryz.call32 rfl (by simp[Tryz.ntmps32]) ?_;simp only[Tryz.ntmps32,Tryz.results32]
  repeat' (first|(refine awK fun _ _=>?_)|refine zHg ?_|refine end_ret [] ?_;simp[go_sem]|(fail_if_success with_reducible refine Owe.mk ?_);(simp(disch:=omega) [go_sem]))
 ·refine acall_of_awp Tryz.func32 Tryz.call32 rfl (by simp[Tryz.ntmps32]) ?_;simp only[Tryz.ntmps32,Tryz.results32]
  repeat' (first|(refine awK fun _ _=>?_)|refine zHg ?_|refine end_ret [] ?_;simp[go_sem]|(fail_if_success with_reducible refine Owe.mk ?_);(simp(disch:=omega) [go_sem]))
 ·refine acall_of_awp Tryz.func32 Tryz.call32 rfl (by simp[Tryz.ntmps32]) ?_;simp only[Tryz.ntmps32,Tryz.results32]
  repeat' (first|(refine awK fun _ _=>?_)|refine zHg ?_|refine end_ret [] ?_;simp[go_sem]|refine stepK_is rfl (h) (by simp) ?_|(fail_if_success with_reducible refine Owe.mk ?_);(simp(disch:=omega) [go_sem]))
theorem refCmpRl_ok (a b:Rl) (hba:a.body.length≤140737488355328) (hbb:b.body.length≤140737488355328):ACall Tryz.prog 13 [eRl a,eRl b] (fun r=>r=nt .i64 (rlC a b)):=by
 have h1:=refCompare_ok a.head b.head
 generalize hV:rlC a b=V
 unfold rlC at hV
 obtain⟨ha,la⟩:=a
 obtain⟨hb,lb⟩:=b
 dsimp only at*
 generalize cmpT ha hb=x at*
 by_cases hx:x=0
 ·subst hx
  simp only[thn,ne_eq,not_true_eq_false,if_false]at hV
  refine acall_of_awp Tryz.func13 Tryz.call13 rfl (by simp[Tryz.ntmps13]) ?_;simp only[Tryz.ntmps13,Tryz.results13]
  repeat' (first|(refine awK fun _ _=>?_)|refine zHg ?_|refine stepK_is rfl (h1) (by simp) ?_|(fail_if_success with_reducible refine Owe.mk ?_);(simp(disch:=omega) [go_sem]))
  refine awp_for [2,3] [] (fun i:Nat=> [(6,nt .i64 i)]) (fun i:Nat=> []) (fun i:Nat=>la.length - i) (fun i:Nat=>i≤la.length∧i≤lb.length∧lexC ltC (la.drop i) (lb.drop i)=V) (0) (Le.sub4 rfl (by simp[go_sem])) ⟨?_⟩ ?_
  ·exact⟨Nat.zero_le _,Nat.zero_le _,hV⟩
  clear hV
  intro i ⟨hi,hj,hV⟩ AA hAA;simp only[kL,Nat.reduceBEq,Nat.reduceEqDiff,if_true,if_false,List.cons_append,List.nil_append,List.append_nil]
  by_cases hlt:i<la.length
  ·by_cases hjl:i<lb.length
   ·have hc:=refLit_ok la[i] lb[i]
    rw[lex_drop hlt hjl]at hV
    by_cases hz:ltC la[i] lb[i]=0
    ·rw[hz]at hV hc
     repeat' (first|(refine awK fun _ _=>?_)|refine zHg ?_|refine dstepK_is rfl (hc) rfl (by simp) ?_|refine(hAA.next (i+1) (Le.sub4 rfl (by simp[go_sem])) (by(try dsimp only);omega) ?_)|(fail_if_success with_reducible refine Owe.mk ?_);(simp(disch:=omega) [go_sem,hlt,hjl])|refine zDr 12 mix ?_|fail)
     all_goals(first|omega|skip)
     all_goals exact⟨hlt,hjl,by simpa[thn]using hV⟩
    ·have hV':ltC la[i] lb[i]=V:=by rw[←hV];unfold thn;rw[if_pos hz]
     rw[hV']at hc hz
     clear hV hV'
     repeat' (first|(refine awK fun _ _=>?_)|refine zHg ?_|refine end_ret [] ?_;simp[go_sem,hlt,hjl,hz]|refine dstepK_is rfl (hc) rfl (by simp) ?_|(fail_if_success with_reducible refine Owe.mk ?_);(simp(disch:=omega) [go_sem,hlt,hjl,hz])|refine zDr 12 mix ?_|fail)
   ·obtain rfl:i=lb.length:=by omega
    rw[List.drop_length,List.drop_eq_getElem_cons hlt]at hV
    have hV:(1:Int)=V:=hV
    subst hV
    have hjl2: ¬((la.length:Int)<lb.length):=by omega
    have hjl3:(lb.length:Int)<la.length:=by omega
    repeat' (first|(refine awK fun _ _=>?_)|refine zHg ?_|refine end_ret [] ?_;simp[go_sem,hlt,hjl,hjl2,hjl3]|(fail_if_success with_reducible refine Owe.mk ?_);(simp(disch:=omega) [go_sem,hlt,hjl,hjl2,hjl3]))
  ·obtain rfl:i=la.length:=by omega
   rw[List.drop_length]at hV
   by_cases hjl:la.length<lb.length
   ·rw[List.drop_eq_getElem_cons hjl]at hV
    have hV:(-1:Int)=V:=hV
    subst hV
    repeat' (first|(refine awK fun _ _=>?_)|refine zHg ?_|refine end_ret [] ?_;simp[go_sem,hjl]|(fail_if_success with_reducible refine Owe.mk ?_);(simp(disch:=omega) [go_sem,hjl]))
   ·rw[List.drop_of_length_le (by omega)]at hV
    have hV:(0:Int)=V:=hV
    subst hV
    have hjl2: ¬((la.length:Int)<lb.length):=by omega
    have hjl3: ¬((lb.length:Int)<la.length):=by omega
    repeat' (first|(refine awK fun _ _=>?_)|refine zHg ?_|refine end_ret [] ?_;simp[go_sem,hjl,hjl2,hjl3]|(fail_if_success with_reducible refine Owe.mk ?_);(simp(disch:=omega) [go_sem,hjl,hjl2,hjl3]))
 ·have hV':x=V:=by rw[←hV];unfold thn;rw[if_pos hx]
  subst hV'
  clear hV
  refine acall_of_awp Tryz.func13 Tryz.call13 rfl (by simp[Tryz.ntmps13]) ?_;simp only[Tryz.ntmps13,Tryz.results13]
  repeat' (first|(refine awK fun _ _=>?_)|refine zHg ?_|refine end_ret [] ?_;simp[go_sem,hx]|refine stepK_is rfl (h1) (by simp) ?_|(fail_if_success with_reducible refine Owe.mk ?_);(simp(disch:=omega) [go_sem,hx]))
theorem ref7Variable_ok (n:ByteArray) (ts:List Tm):ACall Tryz.prog 127 [eT (.mk n ts)] (fun r=>r=bl (decide (ts.length=0∧varS n=true))):=by
 have h1:=refVariable_ok n
 by_cases h0:ts.length=0
 ·have e:decide (ts.length=0∧varS n=true)=varS n:=by simp[h0]
  rw[e]
  generalize varS n=a at*
  refine acall_of_awp Tryz.func127 Tryz.call127 rfl (by simp[Tryz.ntmps127]) ?_;simp only[Tryz.ntmps127,Tryz.results127]
  repeat' (first|(refine awK fun _ _=>?_)|refine zHg ?_|refine end_ret [] ?_;simp[go_sem,h0]|refine stepK_is rfl (h1) (by simp) ?_|(fail_if_success with_reducible refine Owe.mk ?_);(simp(disch:=omega) [go_sem,h0]))
 ·have e:decide (ts.length=0∧varS n=true)=false:=by simp[h0]
  rw[e]
  refine acall_of_awp Tryz.func127 Tryz.call127 rfl (by simp[Tryz.ntmps127]) ?_;simp only[Tryz.ntmps127,Tryz.results127]
  repeat' (first|(refine awK fun _ _=>?_)|refine zHg ?_|refine end_ret [] ?_;simp[go_sem,h0]|(fail_if_success with_reducible refine Owe.mk ?_);(simp(disch:=omega) [go_sem,h0]))
end Go.Proofs.YtkbglbcphjmiiaaGreatDoor
