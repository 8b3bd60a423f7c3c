import Derived.Shelf.SlGeneric
import Derived.Shelf.SlLaysF
import Derived.Ground.SlsfProg
import Derived.Test.YtgmibdiofkmmbaaGreatDoorS6
import Derived.Shelf.SlSortCmp.Whole1
set_option linter.all false
open Go.Proofs.Tryz
namespace Go.Proofs.YtgmibdiofkmmbaaGreatDoor
open Go.Shelf Go.Proofs
open Go.Ab
variable [Glob prog]
set_option maxRecDepth 100000
set_option maxHeartbeats 8000000
def lL {α:Type} (cf:α->Bool) (l:List α):Int:=if l.findIdx cf<l.length then l.findIdx cf else -1
theorem aGz {α:Type} {cf:α->Bool} {l:List α} {i:Nat} (h:i<l.length) (he:cf l[i]=true) (hn: ∀(k:Nat) (hk:k<l.length),k<i->cf l[k]=false):lL cf l=i:=by
 have e:l.findIdx cf=i:=by
  rw[List.findIdx_eq h]
  exact⟨he,fun j hj=>by simpa using hn j (by omega) hj⟩
 unfold lL
 rw[e,if_pos h]
theorem aG0 {α:Type} {cf:α->Bool} {l:List α} (hn: ∀(k:Nat) (hk:k<l.length),k<l.length->cf l[k]=false):lL cf l= -1:=by
 unfold lL
 rw[if_neg]
 intro h
 have:=List.findIdx_getElem (w:=h)
 rw[hn _ h h]at this
 cases this
theorem aT3 {α:Type} {cf:α->Bool} {l:List α}:0<=lL cf l↔l.any cf=true:=by
 unfold lL
 rw[List.any_eq_true]
 by_cases h:l.findIdx cf<l.length
 ·rw[if_pos h]
  exact⟨fun _=>List.findIdx_lt_length.1 h,fun _=>by omega⟩
 ·rw[if_neg h]
  exact⟨fun h=>by omega,fun hh=>absurd (List.findIdx_lt_length.2 hh) h⟩
def wZ:List AV:=oH.flatMap fun k=> [.sc (.string k.nm),nt .i64 k.ar,bl k.hd,bl k.bd]
class KwG [Glob prog]:Prop where
 tab:Glob.tab prog 0=some (.iptr false [.agg wZ] 0 0)
theorem aAv [KwG]:Glob.tab prog 0=some (.iptr false [.agg wZ] 0 0):=KwG.tab
theorem aAw:tW wZ 0 4 10=oH.map rU:=rfl
theorem aAx:wZ.length=40:=rfl
theorem dKb:oH.length=10:=rfl
theorem aT4 (l:List Tm) (le fu:Bool) (f:FuncId) (cf:Tm->Bool) (hcl: ∀x∈l,ACall prog f [aP x] (fun r=>r=bl (cf x))):ACall prog 111 [.list le fu (l.map aP),.clo f []] (fun r=>r=nt .i64 (lL cf l)):=by
 refine ACall.bound (i:=0) rfl call111 fun hb=>?_
 rw[List.length_map]at hb
 have hb:l.length<=140737488355328:=hb
 generalize hR:lL cf l=R
 refine aX func111 call111 rfl (by simp[ntmps111]) ?_;simp only[ntmps111,results111]
 repeat' (first|(refine aE fun _ _=>?_)|refine zHg ?_|simp(disch:=omega) [go_sem])
 refine bZ [0,1,7] [] (fun i:Nat=> [(8,nt .i64 i)]) (fun i:Nat=> []) (fun i:Nat=>l.length - i) (fun i:Nat=>i<=l.length/\ ∀(k:Nat) (hk:k<l.length),k<i->cf l[k]=false) (0) (Le.sub4 rfl (by simp[go_sem])) ⟨?_⟩ ?_
 ·exact⟨Nat.zero_le _,fun k _ hk=>absurd hk (Nat.not_lt_zero _)⟩
 intro i ⟨hi,hn⟩ AA hAA;simp only[kL,Nat.reduceBEq,Nat.reduceEqDiff]
 by_cases hlt:i<l.length
 ·have hu:=hcl l[i] (List.getElem_mem hlt)
  rw[jH]at hu
  cases hq:cf l[i]
  ·rw[hq]at hu
   repeat' (first|(refine aE fun _ _=>?_)|refine zHg ?_|refine aI rfl (hu) (by simp) ?_|(refine(hAA.next (i+1) (Le.sub4 rfl (by simp[go_sem])) (by(try dsimp only);omega) ?_))|simp(disch:=omega) [go_sem,hlt])
   try any_goals omega
   exact⟨hlt,fun k hk hki=>by rcases Nat.lt_or_eq_of_le (Nat.le_of_lt_succ hki)with h|rfl;exact hn k hk h;exact hq⟩
  ·have he:=aGz hlt hq hn
   rw[hR]at he
   subst he
   rw[hq]at hu
   repeat' (first|(refine aE fun _ _=>?_)|refine zHg ?_|(refine aL [] ?_;simp[go_sem,hlt])|refine aI rfl (hu) (by simp) ?_|simp(disch:=omega) [go_sem,hlt])
 ·obtain rfl:i=l.length:=by omega
  have he:=aG0 hn
  rw[hR]at he
  subst he
  repeat' (first|(refine aE fun _ _=>?_)|refine zHg ?_|(refine aL [] ?_;simp[go_sem])|simp(disch:=omega) [go_sem])
theorem aT5 (l:List Tm) (le fu:Bool) (f:FuncId) (cf:Tm->Bool) (hcl: ∀x∈l,ACall prog f [aP x] (fun r=>r=bl (cf x))):ACall prog 108 [.list le fu (l.map aP),.clo f []] (fun r=>r=bl (l.any cf)):=by
 have h:=aT4 l le fu f cf hcl
 have e:=aT3 (cf:=cf) (l:=l)
 generalize lL cf l=x at*
 generalize l.any cf=b at*
 refine aX func108 call108 rfl (by simp[ntmps108]) ?_;simp only[ntmps108,results108]
 cases b
 ·have e: ¬0<=x:=fun h=>by have:=e.1 h;cases this
  repeat' (first|(refine aE fun _ _=>?_)|refine zHg ?_|(refine aL [] ?_;simp[go_sem,e])|refine aI rfl (h) (by simp) ?_|simp(disch:=omega) [go_sem,e])
 ·have e:0<=x:=e.2 rfl
  repeat' (first|(refine aE fun _ _=>?_)|refine zHg ?_|(refine aL [] ?_;simp[go_sem,e])|refine aI rfl (h) (by simp) ?_|simp(disch:=omega) [go_sem,e])
theorem dKc (l:List Tm) (le fu:Bool) (f:FuncId) (u:Tm) (cf:Tm->Bool) (hcl: ∀x∈l,ACall prog f [aP x,.iptr true [eT u] 0 0] (fun r=>r=bl (cf x))):ACall prog 111 [.list le fu (l.map aP),.clo f [.iptr true [eT u] 0 0]] (fun r=>r=nt .i64 (lL cf l)):=by
 refine ACall.bound (i:=0) rfl call111 fun hb=>?_
 rw[List.length_map]at hb
 have hb:l.length<=140737488355328:=hb
 generalize hR:lL cf l=R
 refine aX func111 call111 rfl (by simp[ntmps111]) ?_;simp only[ntmps111,results111]
 repeat' (first|(refine aE fun _ _=>?_)|refine zHg ?_|simp(disch:=omega) [go_sem])
 refine bZ [0,1,7] [] (fun i:Nat=> [(8,nt .i64 i)]) (fun i:Nat=> []) (fun i:Nat=>l.length - i) (fun i:Nat=>i<=l.length/\ ∀(k:Nat) (hk:k<l.length),k<i->cf l[k]=false) (0) (Le.sub4 rfl (by simp[go_sem])) ⟨?_⟩ ?_
 ·exact⟨Nat.zero_le _,fun k _ hk=>absurd hk (Nat.not_lt_zero _)⟩
 intro i ⟨hi,hn⟩ AA hAA;simp only[kL,Nat.reduceBEq,Nat.reduceEqDiff]
 by_cases hlt:i<l.length
 ·have hu:=hcl l[i] (List.getElem_mem hlt)
  rw[jH]at hu
  cases hq:cf l[i]
  ·rw[hq]at hu
   repeat' (first|(refine aE fun _ _=>?_)|refine zHg ?_|refine aI rfl (hu) (by simp) ?_|(refine(hAA.next (i+1) (Le.sub4 rfl (by simp[go_sem])) (by(try dsimp only);omega) ?_))|simp(disch:=omega) [go_sem,hlt])
   try any_goals omega
   exact⟨hlt,fun k hk hki=>by rcases Nat.lt_or_eq_of_le (Nat.le_of_lt_succ hki)with h|rfl;exact hn k hk h;exact hq⟩
  ·have he:=aGz hlt hq hn
   rw[hR]at he
   subst he
   rw[hq]at hu
   repeat' (first|(refine aE fun _ _=>?_)|refine zHg ?_|(refine aL [] ?_;simp[go_sem,hlt])|refine aI rfl (hu) (by simp) ?_|simp(disch:=omega) [go_sem,hlt])
 ·obtain rfl:i=l.length:=by omega
  have he:=aG0 hn
  rw[hR]at he
  subst he
  repeat' (first|(refine aE fun _ _=>?_)|refine zHg ?_|(refine aL [] ?_;simp[go_sem])|simp(disch:=omega) [go_sem])
theorem dKd (l:List Tm) (le fu:Bool) (f:FuncId) (u:Tm) (cf:Tm->Bool) (hcl: ∀x∈l,ACall prog f [aP x,.iptr true [eT u] 0 0] (fun r=>r=bl (cf x))):ACall prog 108 [.list le fu (l.map aP),.clo f [.iptr true [eT u] 0 0]] (fun r=>r=bl (l.any cf)):=by
 have h:=dKc l le fu f u cf hcl
 have e:=aT3 (cf:=cf) (l:=l)
 generalize lL cf l=x at*
 generalize l.any cf=b at*
 refine aX func108 call108 rfl (by simp[ntmps108]) ?_;simp only[ntmps108,results108]
 cases b
 ·have e: ¬0<=x:=fun h=>by have:=e.1 h;cases this
  repeat' (first|(refine aE fun _ _=>?_)|refine zHg ?_|(refine aL [] ?_;simp[go_sem,e])|refine aI rfl (h) (by simp) ?_|simp(disch:=omega) [go_sem,e])
 ·have e:0<=x:=e.2 rfl
  repeat' (first|(refine aE fun _ _=>?_)|refine zHg ?_|(refine aL [] ?_;simp[go_sem,e])|refine aI rfl (h) (by simp) ?_|simp(disch:=omega) [go_sem,e])
theorem dKe (k:Kw) (s:ByteArray):ACall prog 168 [rU k,.iptr true [.sc (.string s)] 0 0] (fun r=>r=bl (decide (k.nm=s))):=by
 refine aX func168 call168 rfl (by simp[ntmps168]) ?_;simp only[ntmps168,results168]
 repeat' (first|(refine aE fun _ _=>?_)|refine zHg ?_|(refine aL [] ?_;simp[go_sem])|simp(disch:=omega) [go_sem])
theorem dKf (l:List Kw) (le fu:Bool) (s:ByteArray) (cf:Kw->Bool) (hcl: ∀x∈l,ACall prog 168 [rU x,.iptr true [.sc (.string s)] 0 0] (fun r=>r=bl (cf x))):ACall prog 167 [.list le fu (l.map rU),.clo 168 [.iptr true [.sc (.string s)] 0 0]] (fun r=>r=nt .i64 (lL cf l)):=by
 refine ACall.bound (i:=0) rfl call167 fun hb=>?_
 rw[List.length_map]at hb
 have hb:l.length<=140737488355328:=hb
 generalize hR:lL cf l=R
 refine aX func167 call167 rfl (by simp[ntmps167]) ?_;simp only[ntmps167,results167]
 repeat' (first|(refine aE fun _ _=>?_)|refine zHg ?_|simp(disch:=omega) [go_sem])
 refine bZ [0,1,7] [] (fun i:Nat=> [(8,nt .i64 i)]) (fun i:Nat=> []) (fun i:Nat=>l.length - i) (fun i:Nat=>i<=l.length/\ ∀(k:Nat) (hk:k<l.length),k<i->cf l[k]=false) (0) (Le.sub4 rfl (by simp[go_sem])) ⟨?_⟩ ?_
 ·exact⟨Nat.zero_le _,fun k _ hk=>absurd hk (Nat.not_lt_zero _)⟩
 intro i ⟨hi,hn⟩ AA hAA;simp only[kL,Nat.reduceBEq,Nat.reduceEqDiff]
 by_cases hlt:i<l.length
 ·have hu:=hcl l[i] (List.getElem_mem hlt)
  try unfold rU at hu
  cases hq:cf l[i]
  ·rw[hq]at hu
   repeat' (first|(refine aE fun _ _=>?_)|refine zHg ?_|refine aI rfl (hu) (by simp) ?_|(refine(hAA.next (i+1) (Le.sub4 rfl (by simp[go_sem])) (by(try dsimp only);omega) ?_))|simp(disch:=omega) [go_sem,hlt,rU])
   try any_goals omega
   exact⟨hlt,fun k hk hki=>by rcases Nat.lt_or_eq_of_le (Nat.le_of_lt_succ hki)with h|rfl;exact hn k hk h;exact hq⟩
  ·have he:=aGz hlt hq hn
   rw[hR]at he
   subst he
   rw[hq]at hu
   repeat' (first|(refine aE fun _ _=>?_)|refine zHg ?_|(refine aL [] ?_;simp[go_sem,hlt,rU])|refine aI rfl (hu) (by simp) ?_|simp(disch:=omega) [go_sem,hlt,rU])
 ·obtain rfl:i=l.length:=by omega
  have he:=aG0 hn
  rw[hR]at he
  subst he
  repeat' (first|(refine aE fun _ _=>?_)|refine zHg ?_|(refine aL [] ?_;simp[go_sem])|simp(disch:=omega) [go_sem])
theorem dKg (s:ByteArray):(lL (fun k=>decide (k.nm=s)) oH= -1/\yI s=none)\/ ∃(i:Nat) (h:i<oH.length),lL (fun k=>decide (k.nm=s)) oH=i/\yI s=some oH[i]:=by
 unfold yI lL
 by_cases h:oH.findIdx (fun k=>decide (k.nm=s))<oH.length
 ·refine .inr ⟨_,h,if_pos h,?_⟩
  rw[List.find?_eq_getElem?_findIdx]
  rw[List.getElem?_eq_getElem h]
 ·refine .inl ⟨if_neg h,?_⟩
  rw[List.find?_eq_none]
  intro x hx
  have:=List.findIdx_eq_length.1 (Nat.le_antisymm List.findIdx_le_length (Nat.not_lt.1 h)) x hx
  simpa using this
theorem dKh [KwG] (s:ByteArray):ACall prog 143 [.sc (.string s)] (fun r=>r=kT (yI s)):=by
 have h1:=dKf oH false true s (fun k=>decide (k.nm=s)) (fun k _=>dKe k s)
 rcases dKg s with⟨hi,hk⟩|⟨i,hi,hx,hk⟩
 ·rw[hi]at h1
  rw[hk]
  refine aX func143 call143 rfl (by simp[ntmps143]) ?_;simp only[ntmps143,results143]
  repeat' (first|(refine aE fun _ _=>?_)|refine zHg ?_|(refine aL [] ?_;simp[go_sem,aAv,aAw,aAx,kT])|refine aI rfl (h1) (by simp) ?_|simp(disch:=omega) [go_sem,aAv,aAw,aAx,kT])
 ·rw[hx]at h1
  rw[hk]
  have hi':i=0\/i=1\/i=2\/i=3\/i=4\/i=5\/i=6\/i=7\/i=8\/i=9:=by rw[dKb]at hi;omega
  rcases hi' with rfl|rfl|rfl|rfl|rfl|rfl|rfl|rfl|rfl|rfl
  all_goals(refine aX func143 call143 rfl (by simp[ntmps143]) ?_;simp only[ntmps143,results143])
  all_goals repeat' (first|(refine aE fun _ _=>?_)|refine zHg ?_|(refine aL [] ?_;simp[go_sem,aAv,aAw,aAx,kT,wZ,oH])|refine aI rfl (h1) (by simp) ?_|simp(disch:=omega) [go_sem,aAv,aAw,aAx,kT,wZ,oH])
theorem dKi: ∀t:Tm,ACall prog 142 [eT t] (fun r=>r=bl (uN t)):=by
 refine fM fun t ih=>?_
 obtain⟨n,ts⟩:=t
 simp only[cM]at ih
 rw[dH2]
 have h2:=aE8 n
 by_cases h0:ts.length=0
 ·rw[if_pos h0]
  have h1:=aNo n
  have h3:=W7 n
  generalize fO n=q at*
  obtain⟨a,b⟩:=q
  generalize iJ n=c at*
  generalize iA n=d at*
  dsimp only at*
  clear ih
  cases b<;>cases c<;>cases d
  all_goals(refine aX func142 call142 rfl (by simp[ntmps142]) ?_;simp only[ntmps142,results142])
  all_goals repeat' (first|(refine aE fun _ _=>?_)|refine zHg ?_|(refine aL [] ?_;simp[go_sem,h0])|refine aI rfl (h1) (by simp) ?_|refine aI rfl (h2) (by simp) ?_|refine aI rfl (h3) (by simp) ?_|simp(disch:=omega) [go_sem,h0])
 ·rw[if_neg h0,aSc]
  have h1:=aT5 ts false false 142 uN (fun x hx=>by rw[jH];exact ih x hx)
  generalize ts.any uN=b at*
  generalize iJ n=c at*
  clear ih
  cases b<;>cases c
  all_goals(refine aX func142 call142 rfl (by simp[ntmps142]) ?_;simp only[ntmps142,results142])
  all_goals repeat' (first|(refine aE fun _ _=>?_)|refine zHg ?_|(refine aL [] ?_;simp[go_sem,h0])|refine aI rfl (h1) (by simp) ?_|refine aI rfl (h2) (by simp) ?_|simp(disch:=omega) [go_sem,h0])
theorem dKj: ∀t:Tm,ACall prog 144 [eT t] (fun r=>r=bl (uO t)):=by
 refine fM fun t ih=>?_
 obtain⟨n,ts⟩:=t
 simp only[cM]at ih
 rw[dH3,aSd]
 have h1:=aT5 ts false false 144 uO (fun x hx=>by rw[jH];exact ih x hx)
 generalize ts.any uO=b at*
 clear ih
 by_cases h0:4<ts.length
 ·rw[decide_eq_true h0,Bool.true_or]
  have h0':(4:Int)<ts.length:=by omega
  refine aX func144 call144 rfl (by simp[ntmps144]) ?_;simp only[ntmps144,results144]
  repeat' (first|(refine aE fun _ _=>?_)|refine zHg ?_|(refine aL [] ?_;simp[go_sem,h0'])|simp(disch:=omega) [go_sem,h0'])
 ·rw[decide_eq_false h0,Bool.false_or]
  have h0': ¬(4:Int)<ts.length:=by omega
  refine aX func144 call144 rfl (by simp[ntmps144]) ?_;simp only[ntmps144,results144]
  repeat' (first|(refine aE fun _ _=>?_)|refine zHg ?_|(refine aL [] ?_;simp[go_sem,h0'])|refine aI rfl (h1) (by simp) ?_|simp(disch:=omega) [go_sem,h0'])
theorem dKk [KwG] (t:Tm) (hd:Bool) (hz:t.size<=1000000):ACall prog 104 [eT t,bl hd] (fun r=>r=nt .i64 (jV hd t)):=by
 have h1:=aE8 t.name
 have h2:=dKi t
 have h3:=dKh t.name
 have h4:=dKj t
 have h5:=aNe t hz
 unfold jV
 generalize iJ t.name=a at*
 generalize uN t=b at*
 generalize uO t=c at*
 generalize t.depth=d at*
 generalize yI t.name=k at*
 cases a
 ·rw[if_pos (.inl rfl)]
  refine aX func104 call104 rfl (by simp[ntmps104]) ?_;simp only[ntmps104,results104]
  repeat' (first|(refine aE fun _ _=>?_)|refine zHg ?_|(refine aL [] ?_;simp[go_sem])|refine aI rfl (h1) (by simp) ?_|simp(disch:=omega) [go_sem])
 cases b
 rotate_left
 ·rw[if_pos (.inr rfl)]
  refine aX func104 call104 rfl (by simp[ntmps104]) ?_;simp only[ntmps104,results104]
  repeat' (first|(refine aE fun _ _=>?_)|refine zHg ?_|(refine aL [] ?_;simp[go_sem])|refine aI rfl (h1) (by simp) ?_|refine aI rfl (h2) (by simp) ?_|simp(disch:=omega) [go_sem])
 rw[if_neg (by simp)]
 cases k with
 |none=>
  unfold Z5
  cases c
  ·rw[if_neg (by simp)]
   by_cases h4d:4<d
   ·rw[if_pos h4d]
    have h4d':(4:Int)<d:=by omega
    refine aX func104 call104 rfl (by simp[ntmps104]) ?_;simp only[ntmps104,results104]
    repeat' (first|(refine aE fun _ _=>?_)|refine zHg ?_|(refine aL [] ?_;simp[go_sem,kT,h4d'])|refine aI rfl (h1) (by simp) ?_|refine aI rfl (h2) (by simp) ?_|refine aI rfl (h3) (by simp) ?_|refine aI rfl (h4) (by simp) ?_|refine aI rfl (h5) (by simp) ?_|simp(disch:=omega) [go_sem,kT,h4d'])
   ·rw[if_neg h4d]
    have h4d': ¬(4:Int)<d:=by omega
    refine aX func104 call104 rfl (by simp[ntmps104]) ?_;simp only[ntmps104,results104]
    repeat' (first|(refine aE fun _ _=>?_)|refine zHg ?_|(refine aL [] ?_;simp[go_sem,kT,h4d'])|refine aI rfl (h1) (by simp) ?_|refine aI rfl (h2) (by simp) ?_|refine aI rfl (h3) (by simp) ?_|refine aI rfl (h4) (by simp) ?_|refine aI rfl (h5) (by simp) ?_|simp(disch:=omega) [go_sem,kT,h4d'])
  ·rw[if_pos rfl]
   refine aX func104 call104 rfl (by simp[ntmps104]) ?_;simp only[ntmps104,results104]
   repeat' (first|(refine aE fun _ _=>?_)|refine zHg ?_|(refine aL [] ?_;simp[go_sem,kT])|refine aI rfl (h1) (by simp) ?_|refine aI rfl (h2) (by simp) ?_|refine aI rfl (h3) (by simp) ?_|refine aI rfl (h4) (by simp) ?_|simp(disch:=omega) [go_sem,kT])
 |some k=>
  obtain⟨kn,ka,kh,kb⟩:=k
  unfold Z5
  dsimp only
  cases c
  ·by_cases hn:t.args.length=ka
   ·rw[if_neg (by simp[hn])]
    by_cases h4d:4<d
    ·rw[if_pos h4d]
     have h4d':(4:Int)<d:=by omega
     refine aX func104 call104 rfl (by simp[ntmps104]) ?_;simp only[ntmps104,results104]
     repeat' (first|(refine aE fun _ _=>?_)|refine zHg ?_|(refine aL [] ?_;simp[go_sem,kT,h4d',hn])|refine aI rfl (h1) (by simp) ?_|refine aI rfl (h2) (by simp) ?_|refine aI rfl (h3) (by simp) ?_|refine aI rfl (h4) (by simp) ?_|refine aI rfl (h5) (by simp) ?_|simp(disch:=omega) [go_sem,kT,h4d',hn])
    ·rw[if_neg h4d]
     have h4d': ¬(4:Int)<d:=by omega
     cases hd<;>cases kh<;>cases kb
     all_goals simp only[Bool.true_eq_false,Bool.false_eq_true,and_true,and_false,true_and,false_and,or_true,or_false,if_true,if_false]
     all_goals(refine aX func104 call104 rfl (by simp[ntmps104]) ?_;simp only[ntmps104,results104])
     all_goals repeat' (first|(refine aE fun _ _=>?_)|refine zHg ?_|(refine aL [] ?_;simp[go_sem,kT,h4d',hn])|refine aI rfl (h1) (by simp) ?_|refine aI rfl (h2) (by simp) ?_|refine aI rfl (h3) (by simp) ?_|refine aI rfl (h4) (by simp) ?_|refine aI rfl (h5) (by simp) ?_|simp(disch:=omega) [go_sem,kT,h4d',hn])
   ·rw[if_pos (.inr hn)]
    have hn': ¬(t.args.length:Int)=ka:=by omega
    refine aX func104 call104 rfl (by simp[ntmps104]) ?_;simp only[ntmps104,results104]
    repeat' (first|(refine aE fun _ _=>?_)|refine zHg ?_|(refine aL [] ?_;simp[go_sem,kT,hn'])|refine aI rfl (h1) (by simp) ?_|refine aI rfl (h2) (by simp) ?_|refine aI rfl (h3) (by simp) ?_|refine aI rfl (h4) (by simp) ?_|simp(disch:=omega) [go_sem,kT,hn'])
  ·rw[if_pos (.inl rfl)]
   refine aX func104 call104 rfl (by simp[ntmps104]) ?_;simp only[ntmps104,results104]
   repeat' (first|(refine aE fun _ _=>?_)|refine zHg ?_|(refine aL [] ?_;simp[go_sem,kT])|refine aI rfl (h1) (by simp) ?_|refine aI rfl (h2) (by simp) ?_|refine aI rfl (h3) (by simp) ?_|refine aI rfl (h4) (by simp) ?_|simp(disch:=omega) [go_sem,kT])
theorem dKl: ∀t:Tm,(nO t).length<=t.size:=by
 refine fM fun t ih=>?_
 obtain⟨s,ts⟩:=t
 simp only[cM]at ih
 rw[Y7,Tm.size]
 split
 ·simp
 ·rename_i h0;clear h0
  induction ts with
  |nil=>simp[eG]
  |cons u r ih2=>
   have h1:=ih u (by simp)
   have h2:=ih2 fun v hv=>ih v (List.mem_cons_of_mem _ hv)
   simp only[eG,dV,List.length_append];omega
theorem aT6 (r:Rl) (hl:r.body.length<=1000000):ACall prog 103 [fP r] (fun v=>v= .own 2 ((dO r).map aP)):=by
 obtain⟨h,bs⟩:=r
 dsimp only at*
 have hnx: ∀i (hi:i<bs.length),h::(bs.take (i+1)).map Lt.atom=(h::(bs.take i).map Lt.atom)++ [bs[i].atom]:=fun i hi=>by
  rw[hZ hi,List.map_append];rfl
 unfold dO
 dsimp only
 generalize hR:h::bs.map Lt.atom=R
 refine aX func103 call103 rfl (by simp[ntmps103]) ?_;simp only[ntmps103,results103]
 repeat' (first|(refine aE fun _ _=>?_)|refine zHg ?_|simp(disch:=omega) [go_sem])
 refine bZ [10,11] [900,8] (fun y:Nat×List Tm=> [(12,nt .i64 y.1),(3,.ref 900 0 y.2.length)]) (fun y:Nat×List Tm=> [(900,⟨true,false,false,2,y.2.map aP,0⟩)]) (fun y:Nat×List Tm=>bs.length - y.1) (fun y:Nat×List Tm=>y.1<=bs.length/\y.2.length=y.1+1/\y.2=h::(bs.take y.1).map Lt.atom) ((0,[h])) (Le.renSub [(8,900)] [(900,8)] (by simp[go_sem]) (by simp[go_sem]) (Le.sub4 rfl (by simp[go_sem]))) ⟨?_⟩ ?_
 ·exact⟨Nat.zero_le _,rfl,rfl⟩
 intro⟨i,A⟩ ⟨hi,hAl,hA⟩ AA hAA;simp only[kL,Nat.reduceBEq,Nat.reduceEqDiff]
 dsimp only at*
 by_cases hlt:i<bs.length
 ·have hn:=hnx i hlt
  rw[<-hA]at hn
  generalize hbi:bs[i]=b at*
  repeat' (first|(refine aE fun _ _=>?_)|refine zHg ?_|(refine(hAA.next ((i+1,A++ [b.atom])) (Le.sub4 rfl (by simp[go_sem,hAl])) (by(try dsimp only);omega) ?_))|simp(disch:=omega) [go_sem,hlt,hbi,hAl]|refine zAo ?_|fail)
  try any_goals omega
  all_goals exact⟨hlt,by rw[List.length_append,hAl];rfl,hn.symm⟩
 ·obtain rfl:i=bs.length:=by omega
  rw[List.take_length]at hA
  obtain rfl:=hA.trans hR
  repeat' (first|(refine aE fun _ _=>?_)|refine zHg ?_|(refine aL [] ?_;simp[go_sem])|simp(disch:=omega) [go_sem])
def vC (h:Tm) (bs:List Lt) (i:Nat):List Tm:=h::((bs.take i).filter fun b=> !jW b).map Lt.atom
def vD (bs:List Lt) (i:Nat):List Tm:=((bs.take i).filter jW).map Lt.atom
theorem dKm {h:Tm} {bs:List Lt} {i:Nat} (hi:i<bs.length):vC h bs (i+1)=vC h bs i++if jW bs[i]=true then[]else[bs[i].atom]:=by
 unfold vC
 rw[hZ hi,List.filter_append,List.map_append,List.cons_append]
 congr 2
 simp only[List.filter_cons,List.filter_nil]
 cases jW bs[i]<;>simp
theorem dKn {bs:List Lt} {i:Nat} (hi:i<bs.length):vD bs (i+1)=vD bs i++if jW bs[i]=true then[bs[i].atom]else[]:=by
 unfold vD
 rw[hZ hi,List.filter_append,List.map_append]
 congr 1
 simp only[List.filter_cons,List.filter_nil]
 cases jW bs[i]<;>simp
theorem dKo {h:Tm} {bs:List Lt} {i:Nat}:(vC h bs i).length<=i+1:=by
 unfold vC
 have:=List.length_filter_le (fun b=> !jW b) (bs.take i)
 simp only[List.length_cons,List.length_map,List.length_take]at*;omega
theorem dKp {bs:List Lt} {i:Nat}:(vD bs i).length<=i:=by
 unfold vD
 have:=List.length_filter_le jW (bs.take i)
 simp only[List.length_map,List.length_take]at*;omega
theorem dKq (r:Rl) (hl:r.body.length<=1000000) (hn:(eG (uP r)).length<=1000000) (hb:(eG (wU r)).length<=1000000):ACall prog 106 [fP r] (fun v=>v=bl (M0 r)):=by
 have v1: ∀le fu,ACall prog 105 [.list le fu ((wU r).map aP)] (fun v=>v= .own 1 ((jU (wU r)).map aY)):=fun le fu=>aF8 _ le fu hb
 have v2: ∀le fu,ACall prog 105 [.list le fu ((uP r).map aP)] (fun v=>v= .own 1 ((jU (uP r)).map aY)):=fun le fu=>aF8 _ le fu hn
 have e1:uP r=vC r.head r.body r.body.length:=by unfold uP vC;rw[List.take_length]
 have e2:wU r=vD r.body r.body.length:=by unfold wU vD;rw[List.take_length]
 have hlN:(jU (uP r)).length<=1000000:=Nat.le_trans (aF7 _) hn
 unfold M0
 rw[e1]at v2 hlN ⊢
 rw[e2]at v1 ⊢
 obtain⟨h,bs⟩:=r
 dsimp only at*
 generalize hR:(List.all _ _)=R
 clear hn hb e1 e2
 refine aX func106 call106 rfl (by simp[ntmps106]) ?_;simp only[ntmps106,results106]
 repeat' (first|(refine aE fun _ _=>?_)|refine zHg ?_|simp(disch:=omega) [go_sem])
 refine bZ [14,15] [12,901] (fun y:Nat×List Tm×List Tm=> [(16,nt .i64 y.1),(3,.ref 12 0 y.2.1.length),(4,.ref 901 0 y.2.2.length)]) (fun y:Nat×List Tm×List Tm=> [(12,⟨true,false,false,2,y.2.1.map aP,0⟩),(901,⟨true,false,false,2,y.2.2.map aP,0⟩)]) (fun y:Nat×List Tm×List Tm=>bs.length - y.1) (fun y:Nat×List Tm×List Tm=>y.1<=bs.length/\y.2.1=vC h bs y.1/\y.2.2=vD bs y.1) ((0,[h],[])) (by refine Le.trans ?_ (Le.nil (i:=4) (T:=901) (es:=2) rfl);exact(Le.sub4 rfl (by simp[go_sem,List.map_nil]))) ⟨?_⟩ ?_
 ·exact⟨Nat.zero_le _,by simp[vC],by simp[vD]⟩
 intro⟨i,A,B⟩ ⟨hi,hA,hB⟩ AA hAA;simp only[kL,Nat.reduceBEq,Nat.reduceEqDiff]
 dsimp only at*
 by_cases hlt:i<bs.length
 ·have n1:=dKm (h:=h) hlt
  have n2:=dKn hlt
  rw[<-hA]at n1
  rw[<-hB]at n2
  have l1:A.length<=i+1:=by rw[hA];exact dKo
  have l2:B.length<=i:=by rw[hB];exact dKp
  clear v1 v2 hA hB
  generalize hbi:bs[i]=b at*
  obtain⟨ng,a⟩:=b
  unfold jW at n1 n2
  dsimp only at*
  cases ng
  ·by_cases hd:a.name=gE
   ·rw[decide_eq_true hd]at n1 n2
    obtain⟨an,aas⟩:=a
    simp only[jI]at hd
    subst hd
    simp only[Bool.not_true,Bool.and_false,Bool.false_eq_true,if_false,List.append_nil]at n1 n2
    repeat' (first|(refine aE fun _ _=>?_)|refine zHg ?_|(refine(hAA.next ((i+1,A++ [.mk gE aas],B)) (Le.sub4 rfl (by simp[go_sem])) (by(try dsimp only);omega) ?_))|simp(disch:=omega) [go_sem,hlt,hbi]|refine zAo ?_|fail)
    try any_goals omega
    all_goals exact⟨hlt,n1.symm,n2.symm⟩
   ·rw[decide_eq_false hd]at n1 n2
    simp only[Bool.not_false,Bool.and_true,if_true,List.append_nil]at n1 n2
    repeat' (first|(refine aE fun _ _=>?_)|refine zHg ?_|(refine(hAA.next ((i+1,A,B++ [a])) (Le.sub4 rfl (by simp[go_sem])) (by(try dsimp only);omega) ?_))|simp(disch:=omega) [go_sem,hlt,hbi,hd]|refine zAo ?_|fail)
    try any_goals omega
    all_goals exact⟨hlt,n1.symm,n2.symm⟩
  ·simp only[Bool.not_true,Bool.false_and,Bool.false_eq_true,if_false,List.append_nil]at n1 n2
   repeat' (first|(refine aE fun _ _=>?_)|refine zHg ?_|(refine(hAA.next ((i+1,A++ [a],B)) (Le.sub4 rfl (by simp[go_sem])) (by(try dsimp only);omega) ?_))|simp(disch:=omega) [go_sem,hlt,hbi]|refine zAo ?_|fail)
   try any_goals omega
   all_goals exact⟨hlt,n1.symm,n2.symm⟩
 ·obtain rfl:i=bs.length:=by omega
  rw[<-hA]at v2 hR hlN
  rw[<-hB]at v1 hR
  clear hA hB
  have hlenT:True:=trivial
  generalize jU A=V at*
  generalize jU B=W at*
  repeat' (first|(refine aE fun _ _=>?_)|refine zHg ?_|(refine aI ?hl (v1 true false) (by simp) ?_;(case hl=>(simp[go_sem,hlenT];done)))|(refine aI ?hl (v2 true false) (by simp) ?_;(case hl=>(simp[go_sem,hlenT];done)))|simp(disch:=omega) [go_sem,hlenT])
  refine bZ [7,42,43] [] (fun j:Nat=> [(44,nt .i64 j)]) (fun j:Nat=> []) (fun j:Nat=>V.length - j) (fun j:Nat=>j<=V.length/\ ∀(k:Nat) (hk:k<V.length),k<j->iB W V[k]=true) (0) (Le.sub4 rfl (by simp[go_sem])) ⟨?_⟩ ?_
  ·exact⟨Nat.zero_le _,fun k _ hk=>absurd hk (Nat.not_lt_zero _)⟩
  intro j ⟨hj,hn⟩ AA hAA;simp only[kL,Nat.reduceBEq,Nat.reduceEqDiff]
  by_cases hjl:j<V.length
  ·have hc:=aF5 W V[j] true false
   cases hq:iB W V[j]
   ·rw[hq]at hc
    have hu:R=false:=by
     rw[<-hR,List.all_eq_false]
     exact⟨_,List.getElem_mem hjl,by rw[hq];simp⟩
    subst hu
    repeat' (first|(refine aE fun _ _=>?_)|refine zHg ?_|(refine aL [] ?_;simp[go_sem,hjl,aY,hlenT])|(refine aI ?hl (hc) (by simp) ?_;(case hl=>(simp[go_sem,hjl,aY,hlenT];done)))|simp(disch:=omega) [go_sem,hjl,aY,hlenT])
   ·rw[hq]at hc
    repeat' (first|(refine aE fun _ _=>?_)|refine zHg ?_|(refine aI ?hl (hc) (by simp) ?_;(case hl=>(simp[go_sem,hjl,aY,hlenT];done)))|(refine(hAA.next (j+1) (Le.sub4 rfl (by simp[go_sem])) (by(try dsimp only);omega) ?_))|simp(disch:=omega) [go_sem,hjl,aY,hlenT])
    try any_goals omega
    exact⟨hjl,fun k hk hkj=>by rcases Nat.lt_or_eq_of_le (Nat.le_of_lt_succ hkj)with h|rfl;exact hn k hk h;exact hq⟩
  ·obtain rfl:j=V.length:=by omega
   have hu:R=true:=by
    rw[<-hR,List.all_eq_true]
    intro x hx
    obtain⟨k,hk,rfl⟩:=List.mem_iff_getElem.1 hx
    exact hn k hk hk
   subst hu
   repeat' (first|(refine aE fun _ _=>?_)|refine zHg ?_|(refine aL [] ?_;simp[go_sem])|simp(disch:=omega) [go_sem])
theorem aT7: ∀{l:List Tm} {i:Nat} (hi:i<l.length),(∀(k:Nat) (hk:k<l.length),k<i->jV false l[k]=0)->jV false l[i]≠0->wT l=jV false l[i]
 |t::r,0,_,_,h=>by
  have h':jV false t≠0:=h
  rw[wT,if_pos h'];rfl
 |t::r,i+1,hi,hn,h=>by
  have h0:=hn 0 (by simp) (by omega)
  rw[wT,if_neg (by simpa using h0)]
  exact aT7 (i:=i) (by simpa using hi) (fun k hk hki=>hn (k+1) (by simpa using hk) (by omega)) h
theorem aT8: ∀{l:List Tm},(∀(k:Nat) (hk:k<l.length),jV false l[k]=0)->wT l=0
 | [],_=>rfl
 |t::r,hn=>by
  have h0:=hn 0 (by simp)
  rw[wT,if_neg (by simpa using h0)]
  exact aT8 fun k hk=>hn (k+1) (by simpa using hk)
theorem dKr {h:Tm} {bs:List Lt} {i:Nat} (hi:i<(dO ⟨h,bs⟩).length) (h0:i≠0): ∃hi':i - 1<(bs.map Lt.atom).length,(dO ⟨h,bs⟩)[i]=(bs.map Lt.atom)[i - 1]:=by
 cases i with
 |zero=>exact absurd rfl h0
 |succ i=>
  simp only[dO,List.length_cons]at hi
  exact⟨by simpa using hi,rfl⟩
theorem dKs [KwG] (r:Rl) (hl:r.body.length<=1000000) (hh:r.head.size<=100) (hz: ∀b∈r.body,b.atom.size<=100):ACall prog 62 [fP r] (fun v=>v=nt .i64 (mU r)):=by
 by_cases h8:8<r.body.length
 ·have h8':(8:Int)<r.body.length:=by omega
  unfold mU
  rw[if_pos h8]
  refine aX func62 call62 rfl (by simp[ntmps62]) ?_;simp only[ntmps62,results62]
  repeat' (first|(refine aE fun _ _=>?_)|refine zHg ?_|(refine aL [] ?_;simp[go_sem,h8'])|simp(disch:=omega) [go_sem,h8'])
 have h8': ¬(8:Int)<r.body.length:=by omega
 have a1:=aT6 r hl
 have hlv: ∀l:List Tm,(∀t∈l,t.size<=100)->(eG l).length<=l.length*100:=by
  intro l
  induction l with
  |nil=>intro _;simp[eG]
  |cons t q ihq=>
   intro h
   have e:eG (t::q)=nO t++eG q:=rfl
   have h1:=dKl t
   have h2:=h t (by simp)
   have h3:=ihq fun u hu=>h u (by simp[hu])
   rw[e,List.length_append,List.length_cons];omega
 have hsz: ∀t∈dO r,t.size<=100:=fun t ht=>by
  simp only[dO,List.mem_cons,List.mem_map]at ht
  rcases ht with rfl|⟨b,hb,rfl⟩
  ·exact hh
  ·exact hz b hb
 have hvl: ∀l:List Tm,(∀t∈l,t∈dO r)->l.length<=100->(eG l).length<=1000000:=fun l h1 h2=>by
  have:=hlv l fun t ht=>hsz t (h1 t ht)
  omega
 have hal:(dO r).length=r.body.length+1:=by simp[dO]
 have s1:=dKq r hl (hvl _ (fun t ht=>by
  simp only[uP,List.mem_cons,List.mem_map,List.mem_filter]at ht
  simp only[dO,List.mem_cons,List.mem_map]
  rcases ht with e|⟨b,hb,e⟩
  ·exact .inl e
  ·exact .inr ⟨b,hb.1,e⟩) (by have:=List.length_filter_le (fun b=> !jW b) r.body;simp only[uP,List.length_cons,List.length_map];omega))
  (hvl _ (fun t ht=>by
   simp only[wU,List.mem_map,List.mem_filter]at ht
   simp only[dO,List.mem_cons,List.mem_map]
   obtain⟨b,hb,e⟩:=ht
   exact .inr ⟨b,hb.1,e⟩) (by have:=List.length_filter_le jW r.body;simp only[wU,List.length_map];omega))
 have v1:=aF8 (dO r) true false (hvl _ (fun _ h=>h) (by omega))
 have hvv:(jU (dO r)).length<=1000000:=Nat.le_trans (aF7 _) (hvl _ (fun _ h=>h) (by omega))
 have hA: ∀(i:Nat) (hi:i<(dO r).length) (hd:Bool),ACall prog 104 [eT (dO r)[i],bl hd] (fun v=>v=nt .i64 (jV hd (dO r)[i])):=fun i hi hd=>dKk _ hd (Nat.le_trans (hsz _ (List.getElem_mem hi)) (by decide))
 have n1:=aE8 (r.head.args.headD uQ).name
 have hat: ∀{i:Nat} (hi:i<(dO r).length),(∀(k:Nat) (hk:k<(dO r).length),k<i->jV (decide (k=0)) (dO r)[k]=0)->jV (decide (i=0)) (dO r)[i]≠0->mU r=jV (decide (i=0)) (dO r)[i]:=fun {i} hi hn hne=>by
  unfold mU
  rw[if_neg h8]
  by_cases h0:i=0
  ·subst h0
   rw[if_pos (by simpa[dO]using hne)]
   simp[dO]
  ·have h00:=hn 0 (by omega) (by omega)
   rw[if_neg (by simpa[dO]using h00)]
   obtain⟨hi',e⟩:=dKr (h:=r.head) (bs:=r.body) hi h0
   have e:(dO r)[i]=(r.body.map Lt.atom)[i - 1]:=e
   rw[decide_eq_false h0]at hne ⊢
   rw[e]at hne ⊢
   have:=aT7 hi' (fun k hk hki=>by
    have:=hn (k+1) (by simpa[dO]using hk) (by omega)
    simpa[dO]using this) hne
   rw[if_pos (by rw[this];exact hne),this]
 have hrest:(∀(k:Nat) (hk:k<(dO r).length),jV (decide (k=0)) (dO r)[k]=0)->mU r=if 5<(jU (dO r)).length then 11 else if M0 r=false then 7 else if yJ r=true then 8 else 0:=fun hn=>by
  unfold mU
  rw[if_neg h8]
  have h00:=hn 0 (by omega)
  rw[if_neg (by simpa[dO]using h00)]
  rw[if_neg]
  ·rfl
  ·rw[Ne,Decidable.not_not]
   exact aT8 fun k hk=>by
    have:=hn (k+1) (by simpa[dO]using hk)
    simpa[dO]using this
 have hrole:(∀(k:Nat) (hk:k<(dO r).length),jV (decide (k=0)) (dO r)[k]=0)->r.head.name=uM->r.head.args.length=1:=fun hn he=>by
  have h0:=hn 0 (by omega)
  have h0:jV true r.head=0:=by simpa[dO]using h0
  unfold jV at h0
  split at h0
  ·cases h0
  ·rw[he]at h0
   have hk:yI uM=some ⟨uM,1,true,true⟩:=by kernel_rfl
   rw[hk]at h0
   unfold Z5 at h0
   dsimp only at h0
   split at h0
   ·cases h0
   ·rename_i hc
    exact Decidable.byContradiction fun hne=>hc (.inr hne)
 generalize hR:mU r=R at*
 obtain⟨h,bs⟩:=r
 dsimp only at*
 clear hvl hsz hlv hh hz
 generalize dO ⟨h,bs⟩=L at*
 generalize M0 ⟨h,bs⟩=sf at*
 generalize jU L=V at*
 have hlenT:True:=trivial
 refine aX func62 call62 rfl (by simp[ntmps62]) ?_;simp only[ntmps62,results62]
 repeat' (first|(refine aE fun _ _=>?_)|refine zHg ?_|refine aI rfl (a1) (by simp) ?_|simp(disch:=omega) [go_sem,h8'])
 refine bZ [1,3,14,15] [] (fun i:Nat=> [(16,nt .i64 i)]) (fun i:Nat=> []) (fun i:Nat=>L.length - i) (fun i:Nat=>i<=L.length/\ ∀(k:Nat) (hk:k<L.length),k<i->jV (decide (k=0)) L[k]=0) (0) (Le.sub4 rfl (by simp[go_sem])) ⟨?_⟩ ?_
 ·exact⟨Nat.zero_le _,fun k _ hk=>absurd hk (Nat.not_lt_zero _)⟩
 intro i ⟨hi,hn⟩ AA hAA;simp only[kL,Nat.reduceBEq,Nat.reduceEqDiff]
 by_cases hlt:i<L.length
 ·have hu:=hA i hlt (decide (i=0))
  by_cases he:jV (decide (i=0)) L[i]=0
  ·rw[he]at hu
   by_cases h0:i=0
   ·subst h0
    simp only[decide_true]at hu
    repeat' (first|(refine aE fun _ _=>?_)|refine zHg ?_|refine aI rfl (hu) (by simp) ?_|(refine(hAA.next (0+1) (Le.sub4 rfl (by simp[go_sem])) (by(try dsimp only);omega) ?_))|simp(disch:=omega) [go_sem,hlt])
    try any_goals omega
    all_goals exact⟨hlt,fun k hk hki=>by cases(show k=0 by omega);exact he⟩
   ·rw[decide_eq_false h0]at hu
    have h0': ¬(i:Int)=0:=by omega
    repeat' (first|(refine aE fun _ _=>?_)|refine zHg ?_|refine aI rfl (hu) (by simp) ?_|(refine(hAA.next (i+1) (Le.sub4 rfl (by simp[go_sem])) (by(try dsimp only);omega) ?_))|simp(disch:=omega) [go_sem,hlt,h0,h0'])
    try any_goals omega
    all_goals exact⟨hlt,fun k hk hki=>by rcases Nat.lt_or_eq_of_le (Nat.le_of_lt_succ hki)with h|rfl;exact hn k hk h;exact he⟩
  ·have:=hat hlt hn he
   rw[<-this]at hu he
   by_cases h0:i=0
   ·subst h0
    simp only[decide_true]at hu
    clear hA hat hrest hrole
    repeat' (first|(refine aE fun _ _=>?_)|refine zHg ?_|(refine aL [] ?_;simp[go_sem,hlt,he])|refine aI rfl (hu) (by simp) ?_|simp(disch:=omega) [go_sem,hlt,he])
   ·rw[decide_eq_false h0]at hu
    have h0': ¬(i:Int)=0:=by omega
    clear hA hat hrest hrole
    repeat' (first|(refine aE fun _ _=>?_)|refine zHg ?_|(refine aL [] ?_;simp[go_sem,hlt,he,h0,h0'])|refine aI rfl (hu) (by simp) ?_|simp(disch:=omega) [go_sem,hlt,he,h0,h0'])
 ·obtain rfl:i=L.length:=by omega
  have hr1:=hrest fun k hk=>hn k hk hk
  have hr2:=hrole fun k hk=>hn k hk hk
  clear hA hat hrest hrole hn
  by_cases h5:5<V.length
  ·rw[if_pos h5]at hr1
   have h5':(5:Int)<V.length:=by omega
   subst hr1
   repeat' (first|(refine aE fun _ _=>?_)|refine zHg ?_|(refine aL [] ?_;simp[go_sem,h5',hlenT])|(refine aI ?hl (v1) (by simp) ?_;(case hl=>(simp[go_sem,h5',hlenT];done)))|simp(disch:=omega) [go_sem,h5',hlenT])
  ·rw[if_neg h5]at hr1
   have h5': ¬(5:Int)<V.length:=by omega
   cases sf
   ·rw[if_pos rfl]at hr1
    subst hr1
    repeat' (first|(refine aE fun _ _=>?_)|refine zHg ?_|(refine aL [] ?_;simp[go_sem,h5',hlenT])|refine aI rfl (s1) (by simp) ?_|(refine aI ?hl (v1) (by simp) ?_;(case hl=>(simp[go_sem,h5',hlenT];done)))|simp(disch:=omega) [go_sem,h5',hlenT])
   ·rw[if_neg (by simp)]at hr1
    by_cases hro:h.name=uM
    ·have hl1:=hr2 hro
     obtain⟨hs,has⟩:=h
     simp only[cM,jI]at*
     subst hro
     rcases has with _|⟨x,_|⟨y,q⟩⟩
     ·simp at hl1
     ·obtain⟨xs,xas⟩:=x
      simp only[List.headD_cons,cM,jI]at n1
      by_cases hb0:bs.length=0
      ·have hb0': ¬(0:Int)<bs.length:=by omega
       by_cases hx0:xas.length=0
       ·have hx0': ¬(0:Int)<xas.length:=by omega
        cases hnm:iJ xs
        ·rw[if_pos (by simp[yJ,cM,jI,hnm])]at hr1
         rw[hnm]at n1
         subst hr1
         repeat' (first|(refine aE fun _ _=>?_)|refine zHg ?_|(refine aL [] ?_;simp[go_sem,h5',hb0',hx0',hx0,hb0,hlenT])|refine aI rfl (n1) (by simp) ?_|(refine aI ?hl (v1) (by simp) ?_;(case hl=>(simp[go_sem,h5',hb0',hx0',hx0,hb0,hlenT];done)))|(refine aI ?hl (s1) (by simp) ?_;(case hl=>(simp[go_sem,h5',hb0',hx0',hx0,hb0,hlenT];done)))|simp(disch:=omega) [go_sem,h5',hb0',hx0',hx0,hb0,hlenT])
        ·rw[if_neg (by simp[yJ,cM,jI,hnm,hx0,hb0])]at hr1
         rw[hnm]at n1
         subst hr1
         repeat' (first|(refine aE fun _ _=>?_)|refine zHg ?_|(refine aL [] ?_;simp[go_sem,h5',hb0',hx0',hx0,hb0,hlenT])|refine aI rfl (n1) (by simp) ?_|(refine aI ?hl (v1) (by simp) ?_;(case hl=>(simp[go_sem,h5',hb0',hx0',hx0,hb0,hlenT];done)))|(refine aI ?hl (s1) (by simp) ?_;(case hl=>(simp[go_sem,h5',hb0',hx0',hx0,hb0,hlenT];done)))|simp(disch:=omega) [go_sem,h5',hb0',hx0',hx0,hb0,hlenT])
       ·have hx0':(0:Int)<xas.length:=by omega
        have hne: ¬xas= []:=fun e=>hx0 (by rw[e];rfl)
        rw[if_pos (by simp[yJ,cM,jI,hne])]at hr1
        subst hr1
        repeat' (first|(refine aE fun _ _=>?_)|refine zHg ?_|(refine zgd ?_ ?_<;>(intro h;first|(exfalso;omega)|(simp only[h,zT])))|(refine aL [] ?_;simp[go_sem,h5',hb0',hx0',hb0,hlenT])|(refine aI ?hl (v1) (by simp) ?_;(case hl=>(simp[go_sem,h5',hb0',hx0',hb0,hlenT];done)))|(refine aI ?hl (s1) (by simp) ?_;(case hl=>(simp[go_sem,h5',hb0',hx0',hb0,hlenT];done)))|simp(disch:=omega) [go_sem,h5',hb0',hx0',hb0,hlenT])
      ·have hb0':(0:Int)<bs.length:=by omega
       have hne: ¬bs= []:=fun e=>hb0 (by rw[e];rfl)
       rw[if_pos (by simp[yJ,cM,jI,hne])]at hr1
       subst hr1
       repeat' (first|(refine aE fun _ _=>?_)|refine zHg ?_|(refine zgd ?_ ?_<;>(intro h;first|(exfalso;omega)|(simp only[h,zT])))|(refine aL [] ?_;simp[go_sem,h5',hb0',hlenT])|(refine aI ?hl (v1) (by simp) ?_;(case hl=>(simp[go_sem,h5',hb0',hlenT];done)))|(refine aI ?hl (s1) (by simp) ?_;(case hl=>(simp[go_sem,h5',hb0',hlenT];done)))|simp(disch:=omega) [go_sem,h5',hb0',hlenT])
     ·simp at hl1
    ·rw[if_neg (by simp[yJ,hro])]at hr1
     subst hr1
     repeat' (first|(refine aE fun _ _=>?_)|refine zHg ?_|(refine aL [] ?_;simp[go_sem,h5',hro,hlenT])|refine aI rfl (s1) (by simp) ?_|(refine aI ?hl (v1) (by simp) ?_;(case hl=>(simp[go_sem,h5',hro,hlenT];done)))|simp(disch:=omega) [go_sem,h5',hro,hlenT])
theorem dKt: ∀t:Tm,t.size<=1000000->ACall prog 110 [eT t] (fun r=>r=eT t):=by
 refine fM fun t ih hsz=>?_
 obtain⟨s,ts⟩:=t
 simp only[cM]at ih
 rw[gV,cM]at hsz
 have hlen:=sS ts
 refine ACall.loose (x:= .agg [.sc (.string s),.list false (decide (ts.length=0)) (ts.map aP)]) rfl ?_
 refine aX func110 call110 rfl (by simp[ntmps110]) ?_;simp only[ntmps110,results110]
 repeat' (first|(refine aE fun _ _=>?_)|refine zHg ?_|simp(disch:=omega) [go_sem])
 refine bZ [2,3,10,11] [3,900] (fun i:Nat=> [(12,nt .i64 i)]) (fun i:Nat=>(3,⟨false,false,false,2,[.agg [.sc (.string s),if i=0 then .list false true []else .ref 900 0 i]],0⟩)::(if i=0 then[]else[(900,⟨true,false,false,2,(ts.take i).map aP,0⟩)])) (fun i:Nat=>ts.length - i) (fun i:Nat=>i<=ts.length) (0) (Le.sub4 rfl (by simp[go_sem])) ⟨?_⟩ ?_
 ·exact Nat.zero_le _
 intro i hi AA hAA;simp only[kL,Nat.reduceBEq,Nat.reduceEqDiff]
 have hln:(ts.take i).length=i:=by rw[List.length_take];omega
 by_cases hlt:i<ts.length
 ·have hu:=ih _ (List.getElem_mem hlt) (by have:=wK hlt;omega)
  have hnx:=hZ hlt
  by_cases h0:i=0
  ·subst h0
   repeat' (first|(refine aE fun _ _=>?_)|refine zHg ?_|refine bI rfl (hu) rfl (by simp) ?_|(refine(hAA.next (0+1) (Le.renSub [(21,900)] [(900,21)] (by simp[go_sem,hnx]) (by simp[go_sem,hnx]) (Le.sub4 rfl (by simp[go_sem,hnx]))) (by(try dsimp only);omega) ?_))|simp(disch:=omega) [go_sem,hlt]|refine zDr 4 bA ?_|fail)
   try any_goals omega
   exact⟨hlt⟩
  ·generalize ts.take i=A at*
   repeat' (first|(refine aE fun _ _=>?_)|refine zHg ?_|refine bI rfl (hu) rfl (by simp) ?_|(refine(hAA.next (i+1) (Le.sub4 rfl (by simp[go_sem,hnx,hln])) (by(try dsimp only);omega) ?_))|simp(disch:=omega) [go_sem,hlt,h0,hln]|refine zAo ?_|refine zDr 4 bA ?_|fail)
   try any_goals omega
   exact⟨hlt⟩
 ·obtain rfl:i=ts.length:=by omega
  rw[List.take_length]
  by_cases h0:ts.length=0
  ·obtain rfl:=List.eq_nil_of_length_eq_zero h0
   repeat' (first|(refine aE fun _ _=>?_)|refine zHg ?_|(refine aL [] ?_;simp[go_sem])|simp(disch:=omega) [go_sem])
  ·repeat' (first|(refine aE fun _ _=>?_)|refine zHg ?_|(refine aL [] ?_;simp[go_sem,h0])|simp(disch:=omega) [go_sem,h0])
theorem dKu (x u:Tm):ACall prog 109 [eT x,.iptr true [eT u] 0 0] (fun r=>r=bl (decide (cS x u=0))):=by
 have hc:=yC x u
 generalize cS x u=c at*
 refine aX func109 call109 rfl (by simp[ntmps109]) ?_;simp only[ntmps109,results109]
 repeat' (first|(refine aE fun _ _=>?_)|refine zHg ?_|(refine aL [] ?_;simp[go_sem])|refine aI rfl (hc) (by simp) ?_|simp(disch:=omega) [go_sem])
theorem dKv {n:ByteArray} {ts:List Tm}:C0 (.mk n ts)=(decide (n=aGd)&&decide (ts.length=0)):=rfl
theorem dKw {n:ByteArray} {has:List Tm} {bs:List Lt}:M2 ⟨.mk n has,bs⟩=(decide (n=uM)&&(decide (has.length=1)&&decide (bs.length=0))):=rfl
theorem dKx (t:Tm):ACall prog 112 [eT t] (fun r=>r=bl (C0 t)):=by
 obtain⟨n,ts⟩:=t
 rw[dKv]
 by_cases h1:n=aGd
 ·subst h1
  by_cases h0:ts.length=0
  ·rw[decide_eq_true rfl,decide_eq_true h0]
   refine aX func112 call112 rfl (by simp[ntmps112]) ?_;simp only[ntmps112,results112]
   repeat' (first|(refine aE fun _ _=>?_)|refine zHg ?_|(refine aL [] ?_;simp[go_sem,h0])|simp(disch:=omega) [go_sem,h0])
  ·rw[decide_eq_true rfl,decide_eq_false h0]
   refine aX func112 call112 rfl (by simp[ntmps112]) ?_;simp only[ntmps112,results112]
   repeat' (first|(refine aE fun _ _=>?_)|refine zHg ?_|(refine aL [] ?_;simp[go_sem,h0])|simp(disch:=omega) [go_sem,h0])
 ·rw[decide_eq_false h1,Bool.false_and]
  refine aX func112 call112 rfl (by simp[ntmps112]) ?_;simp only[ntmps112,results112]
  repeat' (first|(refine aE fun _ _=>?_)|refine zHg ?_|(refine aL [] ?_;simp[go_sem,h1])|simp(disch:=omega) [go_sem,h1])
def tL (l:List Rl) (i:Nat):List Tm:=(((l.take i).filter M2).map fun r=>r.head.args.headD uQ).foldl B9 []
theorem aT9 {l:List Rl} {i:Nat} (hi:i<l.length):tL l (i+1)=if M2 l[i]=true then B9 (tL l i) (l[i].head.args.headD uQ)else tL l i:=by
 unfold tL
 rw[hZ hi,List.filter_append,List.map_append,List.foldl_append]
 simp only[List.filter_cons,List.filter_nil]
 cases M2 l[i]<;>simp
theorem dKy {a:List Tm} {t:Tm}:(B9 a t).length<=a.length+1:=by
 unfold B9;split
 ·omega
 ·simp
theorem aUa {l:List Rl}: ∀{i:Nat},i<=l.length->(tL l i).length<=i
 |0,_=>by simp[tL]
 |i+1,h=>by
  rw[aT9 (by omega)]
  have:=aUa (l:=l) (i:=i) (by omega)
  split
  ·exact Nat.le_trans dKy (by omega)
  ·omega
theorem dKz (l:List Rl):tL l l.length=oI l:=by unfold tL oI;rw[List.take_length]
theorem aUb (l:List Rl) (le fu:Bool) (hl:l.length<=1000000) (hz: ∀r∈l,r.head.size<=1000000):ACall prog 64 [.list le fu (l.map fP)] (fun v=>v= .own 2 ((oI l).map aP)):=by
 rw[<-dKz]
 refine aX func64 call64 rfl (by simp[ntmps64]) ?_;simp only[ntmps64,results64]
 repeat' (first|(refine aE fun _ _=>?_)|refine zHg ?_|simp(disch:=omega) [go_sem])
 refine bZ [7,8] [900] (fun y:Nat×List Tm=> [(9,nt .i64 y.1),(3,.ref 900 0 y.2.length)]) (fun y:Nat×List Tm=> [(900,⟨true,false,false,2,y.2.map aP,0⟩)]) (fun y:Nat×List Tm=>l.length - y.1) (fun y:Nat×List Tm=>y.1<=l.length/\y.2=tL l y.1) ((0,[])) (by refine Le.trans ?_ (Le.nil (i:=3) (T:=900) (es:=2) rfl);exact(Le.sub4 rfl (by simp[go_sem,List.map_nil]))) ⟨?_⟩ ?_
 ·exact⟨Nat.zero_le _,by simp[tL]⟩
 intro⟨i,A⟩ ⟨hi,hA⟩ AA hAA;simp only[kL,Nat.reduceBEq,Nat.reduceEqDiff]
 dsimp only at*
 by_cases hlt:i<l.length
 ·have hn:=aT9 hlt
  have hln:A.length<=i:=by rw[hA];exact aUa hi
  rw[<-hA]at hn
  have hzr:=hz _ (List.getElem_mem hlt)
  clear hA hz
  have hlenT:True:=trivial
  generalize hbi:l[i]=r at*
  obtain⟨⟨n,has⟩,bs⟩:=r
  rw[dKw]at hn
  simp only[cM]at hn
  by_cases h1:n=uM
  ·subst h1
   by_cases h2:has.length=1
   ·rcases has with _|⟨x,_|⟨y,q⟩⟩
    ·simp at h2
    ·by_cases h3:bs.length=0
     ·have h3': ¬(0:Int)<bs.length:=by omega
      rw[decide_eq_true rfl,decide_eq_true h2,decide_eq_true h3]at hn
      simp only[Bool.and_self,if_true,List.headD_cons]at hn
      have hx:x.size<=1000000:=by
       have:=A7 (l:= [x]) (t:=x) (by simp)
       rw[gV,cM]at hzr
       omega
      have hcl:=dKt x hx
      have hc:=dKd A true false 109 x (fun u=>decide (cS u x=0)) (fun u _=>by rw[jH];exact dKu u x)
      unfold B9 at hn
      cases hq:A.any fun u=>decide (cS u x=0)
      ·rw[hq]at hn hc
       simp only[Bool.false_eq_true,if_false]at hn
       repeat' (first|(refine aE fun _ _=>?_)|refine zHg ?_|refine aI rfl (hcl) (by simp) ?_|(refine aI ?hl (hc) (by simp) ?_;(case hl=>(simp[go_sem,hlt,hbi,h3,h3',hlenT];done)))|(refine(hAA.next ((i+1,A++ [x])) (Le.sub4 rfl (by simp[go_sem])) (by(try dsimp only);omega) ?_))|simp(disch:=omega) [go_sem,hlt,hbi,h3,h3',hlenT]|refine zAo ?_|fail)
       try any_goals omega
       all_goals exact⟨hlt,hn.symm⟩
      ·rw[hq]at hn hc
       simp only[if_true]at hn
       repeat' (first|(refine aE fun _ _=>?_)|refine zHg ?_|(refine aI ?hl (hc) (by simp) ?_;(case hl=>(simp[go_sem,hlt,hbi,h3,h3',hlenT];done)))|(refine(hAA.next ((i+1,A)) (Le.sub4 rfl (by simp[go_sem])) (by(try dsimp only);omega) ?_))|simp(disch:=omega) [go_sem,hlt,hbi,h3,h3',hlenT])
       try any_goals omega
       all_goals exact⟨hlt,hn.symm⟩
     ·have h3':(0:Int)<bs.length:=by omega
      rw[decide_eq_false h3,Bool.and_false,Bool.and_false,if_neg (by simp)]at hn
      repeat' (first|(refine aE fun _ _=>?_)|refine zHg ?_|(refine zqd ?_ ?_<;>(intro h;first|(exfalso;omega)|(simp only[h,zT])))|(refine(hAA.next ((i+1,A)) (Le.sub4 rfl (by simp[go_sem])) (by(try dsimp only);omega) ?_))|simp(disch:=omega) [go_sem,hlt,hbi,h3'])
      try any_goals omega
      all_goals exact⟨hlt,hn.symm⟩
    ·simp at h2
   ·have h2': ¬(has.length:Int)=1:=by omega
    rw[decide_eq_false h2,Bool.false_and,Bool.and_false,if_neg (by simp)]at hn
    repeat' (first|(refine aE fun _ _=>?_)|refine zHg ?_|(refine(hAA.next ((i+1,A)) (Le.sub4 rfl (by simp[go_sem])) (by(try dsimp only);omega) ?_))|simp(disch:=omega) [go_sem,hlt,hbi,h2'])
    try any_goals omega
    all_goals exact⟨hlt,hn.symm⟩
  ·rw[decide_eq_false h1,Bool.false_and,if_neg (by simp)]at hn
   repeat' (first|(refine aE fun _ _=>?_)|refine zHg ?_|(refine(hAA.next ((i+1,A)) (Le.sub4 rfl (by simp[go_sem])) (by(try dsimp only);omega) ?_))|simp(disch:=omega) [go_sem,hlt,hbi,h1])
   try any_goals omega
   all_goals exact⟨hlt,hn.symm⟩
 ·obtain rfl:i=l.length:=by omega
  subst hA
  repeat' (first|(refine aE fun _ _=>?_)|refine zHg ?_|(refine aL [] ?_;simp[go_sem])|simp(disch:=omega) [go_sem])
theorem dK0 (l:List Rl) (le fu:Bool) (hl:l.length<=1000000) (hz: ∀r∈l,r.head.size<=1000000):ACall prog 65 [.list le fu (l.map fP)] (fun v=>v=nt .i64 (C2 l)):=by
 have h1:=aUb l le fu hl hz
 have h2:=aT4 (oI l) true false 112 C0 (fun t _=>by rw[jH];exact dKx t)
 have e:lL C0 (oI l)=C2 l:=rfl
 rw[e]at h2
 generalize C2 l=c at*
 generalize oI l=R at*
 have hlenT:True:=trivial
 refine aX func65 call65 rfl (by simp[ntmps65]) ?_;simp only[ntmps65,results65]
 repeat' (first|(refine aE fun _ _=>?_)|refine zHg ?_|(refine aL [] ?_;simp[go_sem,hlenT])|refine aI rfl (h1) (by simp) ?_|(refine aI ?hl (h2) (by simp) ?_;(case hl=>(simp[go_sem,hlenT];done)))|simp(disch:=omega) [go_sem,hlenT])
abbrev mD {α:Type} (e:α->AV) (p:ByteArray×α):AV:= .tup [.sc (.string p.1),e p.2]
theorem C8 (a b:ByteArray):jS (.string a) (.string b)=some (decide (a=b)):=rfl
theorem aAy {α:Type} {e:α->AV} {s:ByteArray}: ∀{l:List (ByteArray×α)} {j i:Nat} (hj:j<l.length),l[j].1=s->(∀(k:Nat) (hk:k<l.length),k<j-> ¬l[k].1=s)->dD (.string s) (l.map (mD e)) i=some (some (i+j,e l[j].2))
 |p::l,0,i,_,h,_=>by
  have h:p.1=s:=h
  rw[List.map_cons,dD,C8,decide_eq_true h.symm]
  rfl
 |p::l,j+1,i,hj,h,hn=>by
  have h0: ¬p.1=s:=hn 0 (by simp) (by omega)
  rw[List.map_cons,dD,C8,decide_eq_false (fun e=>h0 e.symm)]
  have:=aAy (e:=e) (l:=l) (j:=j) (i:=i+1) (by simpa using hj) h (fun k hk hkj=>hn (k+1) (by simpa using hk) (by omega))
  simp only[this]
  simp only[List.getElem_cons_succ,Option.some.injEq,Prod.mk.injEq,and_true]
  omega
theorem aAz {α:Type} {e:α->AV} {s:ByteArray}: ∀{l:List (ByteArray×α)} {i:Nat},(∀p∈l,¬p.1=s)->dD (.string s) (l.map (mD e)) i=some none
 | [],_,_=>rfl
 |p::l,i,h=>by
  rw[List.map_cons,dD,C8,decide_eq_false (fun e=>h p (by simp) e.symm)]
  exact aAz fun q hq=>h q (by simp[hq])
theorem aG1 {α:Type} (l:List (ByteArray×α)) (s:ByteArray):(∀p∈l,¬p.1=s)\/ ∃(j:Nat) (hj:j<l.length),l[j].1=s/\ ∀(k:Nat) (hk:k<l.length),k<j-> ¬l[k].1=s:=by
 induction l with
 |nil=>exact .inl (by simp)
 |cons p l ih=>
  by_cases h:p.1=s
  ·exact .inr ⟨0,by simp,h,fun k _ hk=>by omega⟩
  ·rcases ih with h1|⟨j,hj,h1,h2⟩
   ·refine .inl fun q hq=>?_
    rcases List.mem_cons.1 hq with rfl|hq
    ·exact h
    ·exact h1 q hq
   ·refine .inr ⟨j+1,by simpa using hj,h1,fun k hk hkj=>?_⟩
    cases k with
    |zero=>exact h
    |succ k=>exact h2 k (by simpa using hk) (by omega)
theorem aUc {α:Type} {e:α->AV} {s:ByteArray} {l:List (ByteArray×α)} (h: ∀p∈l,¬p.1=s) (v:AV):fK (.string s) v (l.map (mD e))=some (l.map (mD e)++ [.tup [.sc (.string s),v]]):=by
 unfold fK
 rw[aAz h]
theorem aUd {α:Type} {e:α->AV} {s:ByteArray} {l:List (ByteArray×α)} {j:Nat} (hj:j<l.length) (h:l[j].1=s) (hn: ∀(k:Nat) (hk:k<l.length),k<j-> ¬l[k].1=s) (v:α):fK (.string s) (e v) (l.map (mD e))=some ((l.set j (s,v)).map (mD e)):=by
 unfold fK
 rw[aAy hj h hn]
 simp only[Nat.zero_add,List.map_set]
abbrev jX (n:Nat):AV:=nt .i64 n
abbrev dH (l:List (ByteArray×Nat)):AObj:=⟨true,false,false,0,l.map (mD jX),1⟩
def A2 (asc:List (ByteArray×Nat)) (met:List Tm):Prop:=(∀t∈met,(t.name,t.args.length)∈asc)/\(∀p∈asc,∃t∈met,t.name=p.1/\t.args.length=p.2)/\asc.length<=met.length
theorem aG2 {met:List Tm} {t:Tm}:B8 met t=true↔ ∀u∈met,u.name=t.name->u.args.length=t.args.length:=by
 unfold B8
 rw[List.all_eq_true]
 refine forall_congr' fun u=>forall_congr' fun _=>?_
 by_cases h:u.name=t.name<;>simp[h]
def arU (asc:List (ByteArray×Nat)):Prop:= ∀p∈asc,∀q∈asc,p.1=q.1->p.2=q.2
def C9:Option Nat->Int
 |some i=>i
 |none=> -1
theorem dK1 (l:List Rl) (le fu:Bool) (hl:l.length<=1000000) (hb: ∀r∈l,r.body.length<=8):ACall prog 63 [.list le fu (l.map fP)] (fun v=>v=nt .i64 (C9 (tE [] l 0))):=by
 have hcA: ∀(i:Nat) (hi:i<l.length),ACall prog 103 [fP l[i]] (fun v=>v= .own 2 ((dO l[i]).map aP)):=fun i hi=>aT6 _ (Nat.le_trans (hb _ (List.getElem_mem hi)) (by decide))
 generalize hR:tE [] l 0=R
 refine aX func63 call63 rfl (by simp[ntmps63]) ?_;simp only[ntmps63,results63]
 repeat' (first|(refine aE fun _ _=>?_)|refine zHg ?_|simp(disch:=omega) [go_sem])
 refine bZ [3,11,12] [10] (fun y:Nat×List (ByteArray×Nat)×List Tm=> [(13,nt .i64 y.1)]) (fun y:Nat×List (ByteArray×Nat)×List Tm=> [(10,dH y.2.1)]) (fun y:Nat×List (ByteArray×Nat)×List Tm=>l.length - y.1) (fun y:Nat×List (ByteArray×Nat)×List Tm=>y.1<=l.length/\A2 y.2.1 y.2.2/\arU y.2.1/\y.2.2.length<=9*y.1/\tE y.2.2 (l.drop y.1) y.1=R) ((0,[],[])) (Le.sub4 rfl (by simp[go_sem,dH,List.map_nil])) ⟨?_⟩ ?_
 ·exact⟨Nat.zero_le _,⟨by simp,by simp,Nat.le_refl _⟩,fun p hp=>by simp at hp,Nat.le_refl _,hR⟩
 intro⟨i,asc,met⟩ ⟨hi,har,hau,hml,hd⟩ AA hAA;simp only[kL,Nat.reduceBEq,Nat.reduceEqDiff]
 dsimp only at*
 clear hR
 by_cases hlt:i<l.length
 ·have hcr:=hcA i hlt
  have hb8:=hb _ (List.getElem_mem hlt)
  rw[List.drop_eq_getElem_cons hlt,tE]at hd
  have hal:(dO l[i]).length=l[i].body.length+1:=by simp[dO]
  generalize hbi:l[i]=r at*
  generalize hD:tE (met++dO r) (l.drop (i+1)) (i+1)=D at hd
  generalize dO r=at_ at*
  clear hcA hb
  have hmet0:met.length<=9000000:=by omega
  repeat' (first|(refine aE fun _ _=>?_)|refine zHg ?_|refine aI rfl (hcr) (by simp) ?_|simp(disch:=omega) [go_sem,hlt,hbi,dH])
  refine bZ [3,4,11,12,13,19,20] [10,5] (fun z:Nat×List (ByteArray×Nat)=> [(21,nt .i64 z.1)]) (fun z:Nat×List (ByteArray×Nat)=> [(10,dH z.2)]) (fun z:Nat×List (ByteArray×Nat)=>at_.length - z.1) (fun z:Nat×List (ByteArray×Nat)=>z.1<=at_.length/\A2 z.2 (met++at_.take z.1)/\arU z.2/\(if M1 (met++at_.take z.1) (at_.drop z.1)=true then D else some i)=R) ((0,asc)) (Le.sub4 rfl (by simp[go_sem,dH])) ⟨?_⟩ ?_
  ·refine⟨Nat.zero_le _,by simpa using har,hau,by simpa using hd⟩
  clear hd har hau
  intro z hin AB hAB;simp only[kL,Nat.reduceBEq,Nat.reduceEqDiff]
  obtain⟨k,as2⟩:=z
  obtain⟨hk,har,hau,hd⟩:=hin
  dsimp only at*
  by_cases hkl:k<at_.length
  ·rw[List.drop_eq_getElem_cons hkl,M1]at hd
   have htk:=hZ hkl
   have hasl:as2.length<=9000100:=by
    have:=har.2.2
    simp only[List.length_append,List.length_take]at this
    omega
   generalize hbk:at_[k]=t at*
   obtain⟨s,ts⟩:=t
   have hmr:as2.length<=140737488355327:=by omega
   have hmr0:as2.length<=140737488355328:=by omega
   rcases aG1 as2 s with hno|⟨j,hj,hjs,hjn⟩
   ·have hm:=aAz (e:=jX) (i:=0) hno
    have hp:fK (.string s) (.sc (.int .i64 (ts.length:Int))) (as2.map (mD jX))=some (as2.map (mD jX)++ [.tup [.sc (.string s),.sc (.int .i64 (ts.length:Int))]]):=aUc (e:=jX) hno (jX ts.length)
    have hao:B8 (met++at_.take k) (.mk s ts)=true:=aG2.2 fun u hu hun=>by
     have:=har.1 u hu
     exact absurd hun (hno _ this)
    rw[hao,Bool.true_and,List.append_assoc,<-htk]at hd
    have hr2:A2 (as2++ [(s,ts.length)]) (met++at_.take (k+1)):=by
     rw[htk,<-List.append_assoc]
     refine⟨fun u hu=>?_,fun p hp=>?_,by simp only[List.length_append,List.length_cons,List.length_nil]at*;have:=har.2.2;simp only[List.length_append]at this;omega⟩
     ·rcases List.mem_append.1 hu with hu|hu
      ·exact List.mem_append_left _ (har.1 u hu)
      ·simp at hu;subst hu;simp[jI,cM]
     ·rcases List.mem_append.1 hp with hp|hp
      ·obtain⟨u,hu,e⟩:=har.2.1 p hp
       exact⟨u,List.mem_append_left _ hu,e⟩
      ·simp at hp;subst hp;exact⟨.mk s ts,by simp,rfl,rfl⟩
    have hu2:arU (as2++ [(s,ts.length)]):=fun p hp q hq e=>by
     rcases List.mem_append.1 hp with hp|hp<;>rcases List.mem_append.1 hq with hq|hq
     ·exact hau p hp q hq e
     ·simp at hq;subst hq;exact absurd e (hno p hp)
     ·simp at hp;subst hp;exact absurd e.symm (hno q hq)
     ·simp at hp hq;rw[hp,hq]
    clear har hau
    repeat' (first|(refine aE fun _ _=>?_)|refine zHg ?_|(refine(hAB.next ((k+1,as2++ [(s,ts.length)])) (Le.sub4 rfl (by simp[go_sem,dH,List.map_append,List.map_cons,List.map_nil])) (by(try dsimp only);omega) ?_))|simp(disch:=omega) [go_sem,hkl,hbk,hm,hp,hmr,dH])
    try any_goals omega
    all_goals exact⟨hkl,hr2,hu2,hd⟩
   ·have hm:=aAy (e:=jX) (i:=0) hj hjs hjn
    rw[Nat.zero_add]at hm
    have hjm:as2[j]∈as2:=List.getElem_mem hj
    by_cases hq:as2[j].2=ts.length
    ·have hset:as2.set j (s,ts.length)=as2:=by
      rw[<-hq,<-hjs]
      exact List.set_getElem_self hj
     have hp:fK (.string s) (.sc (.int .i64 (ts.length:Int))) (as2.map (mD jX))=some ((as2.set j (s,ts.length)).map (mD jX)):=aUd (e:=jX) hj hjs hjn ts.length
     rw[hset]at hp
     have hao:B8 (met++at_.take k) (.mk s ts)=true:=aG2.2 fun u hu hun=>by
      have h1:=har.1 u hu
      have:=hau _ h1 _ hjm (by rw[hjs];exact hun)
      rw[cM,<-hq];exact this
     rw[hao,Bool.true_and,List.append_assoc,<-htk]at hd
     have hr2:A2 as2 (met++at_.take (k+1)):=by
      rw[htk,<-List.append_assoc]
      refine⟨fun u hu=>?_,fun p hp=>?_,by have:=har.2.2;simp only[List.length_append,List.length_cons,List.length_nil]at*;omega⟩
      ·rcases List.mem_append.1 hu with hu|hu
       ·exact har.1 u hu
       ·simp only[List.mem_singleton]at hu
        subst hu
        rw[jI,cM,<-hjs,<-hq];exact hjm
      ·obtain⟨u,hu,e⟩:=har.2.1 p hp
       exact⟨u,List.mem_append_left _ hu,e⟩
     clear har
     rw[hq]at hm
     repeat' (first|(refine aE fun _ _=>?_)|refine zHg ?_|(refine(hAB.next ((k+1,as2)) (Le.sub4 rfl (by simp[go_sem,dH])) (by(try dsimp only);omega) ?_))|simp(disch:=omega) [go_sem,hkl,hbk,hm,hp,hmr0,dH])
     try any_goals omega
     all_goals exact⟨hkl,hr2,hau,hd⟩
    ·have hao:B8 (met++at_.take k) (.mk s ts)=false:=by
      rw[Bool.eq_false_iff]
      intro h
      obtain⟨u,hu,e1,e2⟩:=har.2.1 _ hjm
      have:=aG2.1 h u hu (by rw[e1,hjs,jI])
      exact hq (by rw[<-e2,this,cM])
     rw[hao,Bool.false_and,if_neg (by simp)]at hd
     subst hd
     unfold C9
     have hq': ¬(as2[j].2:Int)=ts.length:=by omega
     clear har hau
     generalize as2[j].2=n at*
     repeat' (first|(refine aE fun _ _=>?_)|refine zHg ?_|(refine aL [] ?_;simp[go_sem,hkl,hbk,hm,hq',dH])|simp(disch:=omega) [go_sem,hkl,hbk,hm,hq',dH])
  ·obtain rfl:k=at_.length:=by omega
   rw[List.take_length,List.drop_length,M1,if_pos rfl]at hd
   rw[List.take_length]at har
   repeat' (first|(refine aE fun _ _=>?_)|refine zHg ?_|(refine(hAA.next ((i+1,as2,met++at_)) (Le.sub4 rfl (by simp[go_sem,dH])) (by(try dsimp only);omega) ?_))|simp(disch:=omega) [go_sem,dH])
   try any_goals omega
   all_goals exact⟨hlt,har,hau,by simp only[List.length_append];omega,by rw[hD];exact hd⟩
 ·obtain rfl:i=l.length:=by omega
  rw[List.drop_length,tE]at hd
  subst hd
  repeat' (first|(refine aE fun _ _=>?_)|refine zHg ?_|(refine aL [] ?_;simp[go_sem,dH,C9])|simp(disch:=omega) [go_sem,dH,C9])
theorem aUe {α:Type} [DecidableEq α] {a b:List α} (ha:a.Nodup) (hb:b.Nodup) (h: ∀x,x∈a↔x∈b):a.Perm b:=by
 rw[List.perm_iff_count]
 intro x
 have h1:=List.nodup_iff_count.1 ha x
 have h2:=List.nodup_iff_count.1 hb x
 have h3:=List.count_pos_iff (a:=x) (l:=a)
 have h4:=List.count_pos_iff (a:=x) (l:=b)
 have h5:=h x
 by_cases hx:x∈a
 ·have:=h3.2 hx;have:=h4.2 (h5.1 hx);omega
 ·have: ¬0<a.count x:=fun e=>hx (h3.1 e)
  have: ¬0<b.count x:=fun e=>hx (h5.2 (h4.1 e))
  omega
theorem aUf {is:List Nat} {n i:Nat} (hn:is.Nodup) (hl: ∀j∈is,j<n) (hi:i<n) (hni:i∉is):is.length<n:=by
 have h:is.Perm ((List.range n).filter (· ∈is)):=aUe hn (List.Nodup.sublist (List.filter_sublist) List.nodup_range) fun x=>by simp;exact fun hx=>hl x hx
 rw[h.length_eq]
 have:=List.length_filter_lt_length_iff_exists (p:=(· ∈is)) (l:=List.range n)|>.2 ⟨i,by simpa using hi,by simpa using hni⟩
 simpa using this
theorem aUg {α:Type} {ks:List α} {f:Nat->α} {is:List Nat} (hf: ∀(i:Nat) (hi:i<ks.length),f i=ks[i]) (hn:is.Nodup) (hl: ∀j∈is,j<ks.length) (ha: ∀i,i<ks.length->i∈is):(is.map f).Perm ks:=by
 have h:is.Perm (List.range ks.length):=aUe hn List.nodup_range fun x=>by simp;exact⟨hl x,ha x⟩
 refine(h.map f).trans (.of_eq ?_)
 refine List.ext_getElem (by simp) fun i h1 h2=>?_
 rw[List.getElem_map,List.getElem_range]
 exact hf i h2
abbrev mE (hd:LH) (l:List ByteArray):aK:= [(2000,fB true (hd.st .ready none) [.ptr 1000 0 0]),(1000,⟨false,false,true,1,[.ref 1001 0 l.length],0⟩),(1001,⟨true,false,true,1,l.map aY,0⟩)]
abbrev gR (hd:LH) (l:List ByteArray):aK:= [(2000,fB true (hd.st .ready none) [.ptr 1000 0 0]),(1000,⟨false,false,true,1,[.ref 1002 0 l.length],0⟩),(1002,⟨true,false,false,1,l.map aY,0⟩)]
abbrev eC (w:ByteArray->Value) (ks:List ByteArray):AObj:=⟨true,false,true,0,ks.map (sR Value.string fun k=> .sc (w k)),1⟩
abbrev vE (w:ByteArray->Value) (ks:List ByteArray) (bs:List Nat) (c:Nat):AObj:=⟨true,false,true,0,nF (ks.map (sR Value.string fun k=> .sc (w k))) bs c,1⟩
theorem dK2 (ks:List ByteArray) (w:ByteArray->Value) (hb:ks.length<=1000000) (hd:LH) (hY: ∀(l:List ByteArray) (x:ByteArray),l.length<1000000->qT prog [.yl 2000,aY x] (mE hd l) (fun r o'=>r=bl true/\o'=gR hd (l++ [x]))):
 MCall prog 192 [.yl 2000,.ptr 1003 0 0] (mE hd []++ [(1003,⟨false,false,true,1,[.mp 1004],0⟩),(1004,eC w ks)])
  (fun r o'=>r= .tup []/\ ∃l:List ByteArray,l.Perm ks/\ ∃(bs:List Nat) (c:Nat),o'=gR hd l++ [(1003,⟨false,false,true,1,[.mp 1004],0⟩),(1004,vE w ks bs c)]):=by
 refine dM func192 call192 rfl (by simp[ntmps192]) ?_;simp only[ntmps192,results192]
 repeat' (first|(refine aE fun _ _=>?_)|refine zHg ?_|simp(disch:=omega) [go_sem])
 refine aMk (L:=1004) rfl rfl (by decide+kernel) (by decide) (by simp) fun bs c hbl hbn hbc=>?_
 rw[List.length_map]at hbl
 repeat' (first|(refine aE fun _ _=>?_)|refine zHg ?_|simp(disch:=omega) [go_sem])
 refine bZ [0,5] [2000,1000,1001,5,1004] (fun z:List Nat×List ByteArray=> []) (fun z:List Nat×List ByteArray=> [(2000,fB true (hd.st .ready none) [.ptr 1000 0 0]),(1000,⟨false,false,true,1,[.ref 1001 0 z.2.length],0⟩),(1001,⟨true,false,false,1,z.2.map aY,0⟩),(5,iY 1004 c false bs z.1),(1004,vE w ks bs c)]) (fun z:List Nat×List ByteArray=>ks.length - z.1.length) (fun z:List Nat×List ByteArray=>z.1.Nodup/\(∀i∈z.1,i<ks.length)/\z.2=z.1.map (ks.getD · default)) (([],[])) (by refine Le.trans ?_ (Le.unpin 1001 rfl);exact(Le.sub4 rfl (by simp[go_sem,mE,wH,List.map_nil]))) ⟨?_⟩ ?_
 ·exact⟨List.nodup_nil,by simp,rfl⟩
 intro⟨is,l⟩ ⟨hin,hil,hlk⟩ AA hAA;simp only[kL,Nat.reduceBEq,Nat.reduceEqDiff]
 dsimp only at*
 have hll:l.length=is.length:=by rw[hlk,List.length_map]
 repeat' (first|(refine aE fun _ _=>?_)|refine zHg ?_|simp(disch:=omega) [go_sem])
 refine aMn (L:=1004) rfl rfl rfl (by simp) hbl hbn hbc hil (fun hall=>?_) (fun i hi hni=>?_)
 ·have hp:l.Perm ks:=hlk▸aUg (fun i hi=>by simp[List.getD_eq_getElem?_getD,List.getElem?_eq_getElem hi]) hin hil hall
  repeat' (first|(refine aE fun _ _=>?_)|refine zHg ?_|simp(disch:=omega) [go_sem])
  refine eW ⟨14,[],gR hd l++ [(1003,⟨false,false,true,1,[.mp 1004],0⟩),(1004,vE w ks bs c)]⟩ [] (Le.renSub [(1001,1002),(1002,1001)] [(1002,1001),(1001,1002)] (by simp[go_sem,gR]) (by simp[go_sem,gR]) (Le.sub4 rfl (by simp[go_sem,gR]))) (by simp[go_sem,gR]) ⟨rfl,l,hp,bs,c,rfl⟩
 ·have hlx:is.length<ks.length:=aUf hin hil hi hni
  have hla:(is++ [i]).length=is.length+1:=by simp
  have hy:=hY l ks[i] (by omega)
  have hkx:ks.getD i default=ks[i]:=by simp[List.getD_eq_getElem?_getD,List.getElem?_eq_getElem hi]
  generalize hx:ks[i]=x at*
  repeat' (first|(refine aE fun _ _=>?_)|refine zHg ?_|simp(disch:=omega) [go_sem,aY,qC])
  refine aMo (L:=1004) (i:=i) rfl rfl rfl (by simp) hbl hi ?_
  rw[hx]
  repeat' (first|(refine aE fun _ _=>?_)|refine zHg ?_|simp(disch:=omega) [go_sem,aY,qC])
  refine aMc [] [] 10000 _ _ (Fits.mk' (by simp[go_sem,mE,gR,aY]) (by simp[go_sem,mE,gR,aY])) (by simp[go_sem,mE,gR,aY]) (by simp[go_sem,mE,gR,aY]) (hy) (by simp[go_sem,mE,gR,aY]) (by simp[go_sem,mE,gR,aY]) ?_
  repeat' (first|(refine aE fun _ _=>?_)|refine zHg ?_|(refine(hAA.next ((is++ [i],l++ [x])) (Le.renSub [(11002,1001),(1001,11002)] [(1001,11002),(11002,1001)] (by simp[go_sem,gR,aY,iY,List.map_append,List.map_cons,List.map_nil,List.length_append,List.length_cons,List.length_nil]) (by simp[go_sem,gR,aY,iY,List.map_append,List.map_cons,List.map_nil,List.length_append,List.length_cons,List.length_nil]) (Le.sub4 rfl (by simp[go_sem,gR,aY,iY,List.map_append,List.map_cons,List.map_nil,List.length_append,List.length_cons,List.length_nil]))) (by(try dsimp only);omega) ?_))|simp(disch:=omega) [go_sem,gR,aY,qC])
  try any_goals omega
  exact⟨List.nodup_append.2 ⟨hin,by simp,fun a ha b hb e=>hni (by rw[<-List.mem_singleton.1 hb,<-e];exact ha)⟩,fun j hj=>by rcases List.mem_append.1 hj with h|h;exact hil j h;simp at h;omega,by rw[hlk,List.map_append,List.map_cons,List.map_nil,hkx]⟩
theorem aUh: ∀a b:List UInt8,a<b↔Lib.compareBytes a b<0
 | [],[]=>by simp[Lib.compareBytes]
 | [],b::bs=>by simp[Lib.compareBytes]
 |a::xs,[]=>by simp[Lib.compareBytes]
 |a::xs,b::bs=>by
  rw[List.cons_lt_cons_iff,Lib.compareBytes]
  by_cases h1:a<b
  ·simp[h1]
  ·rw[if_neg h1]
   by_cases h2:b<a
   ·rw[if_pos h2]
    have:a≠b:=fun e=>by subst e;exact h1 h2
    simp[h1,this]
   ·rw[if_neg h2]
    have e:a=b:=by
     have g1: ¬a.toNat<b.toNat:=h1
     have g2: ¬b.toNat<a.toNat:=h2
     exact UInt8.toNat_inj.1 (by omega)
    rw[aUh xs bs]
    simp[h1,e]
def tM (s:ByteArray):List UInt8:=s.data.toList
def vF (l:List UInt8):ByteArray:=⟨l.toArray⟩
theorem dK3 (s:ByteArray):vF (tM s)=s:=by
 obtain⟨⟨l⟩⟩:=s
 rfl
theorem dK4 (a b:List UInt8):a<=b↔dF (vF a) (vF b)<=0:=by
 have h:=aUh b a
 have hn:=aFh a b
 have e:dF (vF a) (vF b)=Lib.compareBytes a b:=by simp[dF,vF]
 rw[e]
 show ¬b<a↔_
 rw[h]
 omega
def qY (l:List ByteArray):List ByteArray:=((l.map tM).mergeSort fun x y=>decide (x<=y)).map vF
theorem aUi (l:List ByteArray):(qY l).Perm l:=by
 have h:=((List.mergeSort_perm (l.map tM) fun x y=>decide (x<=y)).map vF)
 rw[List.map_map]at h
 have e:(vF∘tM)=(id:ByteArray->ByteArray):=funext dK3
 rw[e,List.map_id]at h
 exact h
theorem aUj (l:List ByteArray):(qY l).length=l.length:=(aUi l).length_eq
theorem dK5 (l:List ByteArray):(qY l).Pairwise fun a b=>dF a b<=0:=by
 have h:=List.pairwise_mergeSort (le:=fun x y:List UInt8=>decide (x<=y)) (fun a b c h1 h2=>by simp at*;exact List.le_trans h1 h2) (fun a b=>by simp;exact List.le_total a b) (l.map tM)
 refine List.pairwise_map.2 (h.imp fun {a b} hab=>?_)
 exact(dK4 a b).1 (by simpa using hab)
theorem aUk {l:List ByteArray} (hn:l.Nodup):qY l=gX dF l:=by
 have hp:=aUi l
 have ha:tC dF (qY l):=by
  have hn':(qY l).Nodup:=hp.nodup_iff.2 hn
  refine((dK5 l).and hn').imp fun {a b} hab=>?_
  have h1: ¬dF a b=0:=fun e=>hab.2 ((tD.zero a b).1 e)
  have h2:dF a b<=0:=hab.1
  show dF a b<0
  omega
 rw[<-aR9 tD ha]
 exact B7 tD fun x=>hp.mem_iff
theorem dK6 (o:AObj) (ho:o=⟨true,false,true,0,o.xs,1⟩):MCall prog 176 [.mp 1000] [(1000,o)] (fun r o'=>r= .clo 192 [.ptr 1001 0 0]/\o'= [(1001,⟨false,false,false,1,[.mp 1000],0⟩),(1000,o)]):=by
 rw[ho]
 refine dM func176 call176 rfl (by simp[ntmps176]) ?_;simp only[ntmps176,results176]
 repeat' (first|(refine aE fun _ _=>?_)|refine zHg ?_|simp(disch:=omega) [go_sem])
 refine dN ⟨4,[(2,.clo 192 [.ptr 1001 0 0])],[(1001,⟨false,false,false,1,[.mp 1000],0⟩),(1000,⟨true,false,true,0,o.xs,1⟩)]⟩ [.clo 192 [.ptr 1001 0 0]] (Le.renSub [(1,1001),(1001,1)] [(1001,1),(1,1001)] (by simp[go_sem]) (by simp[go_sem]) (Le.sub4 rfl (by simp[go_sem]))) (by simp[go_sem]) ⟨rfl,rfl⟩
abbrev kyO (w:ByteArray->Value) (ks:List ByteArray) (L B:Nat):aK:= [(B,⟨false,false,true,1,[.mp L],0⟩),(L,eC w ks)]
theorem dK7 (ks:List ByteArray) (w:ByteArray->Value) (hb:ks.length<=1000000):MCall prog 205 [.list false true [],.clo 192 [.ptr 1003 0 0]] (kyO w ks 1004 1003)
 (fun r o'=> ∃l:List ByteArray,l.Perm ks/\r= .ref 1005 0 l.length/\o'= [(1005,⟨true,false,false,1,l.map aY,0⟩)]):=by
 refine dM func205 call205 rfl (by simp[ntmps205]) ?_;simp only[ntmps205,results205]
 repeat' (first|(refine aE fun _ _=>?_)|refine zHg ?_|simp(disch:=omega) [go_sem])
 refine aMh (Le.nilBox 2 900 1 rfl (by decide) (by decide)) ?_;simp only[aC3,aC4,zS,S7,aC8,S9,S8,aC9,T0,aDa,aDe,aDf,aDd,aDc,aDg,aDh,aC5,S4,S5,aC6,aC7,S6,aDn,List.map_cons,List.map_nil,Bool.or_false,Bool.false_eq_true,if_false,Nat.reduceEqDiff,Nat.reduceBEq]
 refine aMb 2000 7 30000 [2] [(1000,2),(1001,900)] [(2,1000),(900,1001)] (fun hd=>(2000,fB true (hd.st .ready none) [.ptr 1000 0 0]):: [(1000,⟨false,false,true,1,[.ref 1001 0 0],0⟩),(1001,⟨true,false,true,1,[],0⟩),(1003,⟨false,false,true,1,[.mp 1004],0⟩),(1004,eC w ks)]) (.yl 2000:: [.ptr 1003 0 0]) (fun hd r o'=>r= .tup []/\ ∃l:List ByteArray,l.Perm ks/\ ∃(bs:List Nat) (c:Nat),o'=gR hd l++ [(1003,⟨false,false,true,1,[.mp 1004],0⟩),(1004,vE w ks bs c)]) rfl (by simp[go_sem]) (by simp) rfl (by simp[go_sem]) ?_;intro hd hps has hbd hn hks
 refine⟨Fits.mk' (by simp[go_sem,mE,gR,eC,vE,iY]) (by simp[go_sem,mE,gR,eC,vE,iY]),(by simp[go_sem,mE,gR,eC,vE,iY]),(by simp[go_sem,mE,gR,eC,vE,iY]),(by simp[go_sem,mE,gR,eC,vE,iY]),?_,?_⟩
 ·have hk:=dK2 ks w hb hd fun A x hA=>by
   refine aL8 (ts:= [.ptr 1000 0 0]) (by simp[go_sem,mE,gR]) hps has hbd hn hks rfl (by decide) (by decide) rfl rfl ?_;simp only[List.zip_cons_cons,List.zip_nil_left,List.zip_nil_right,List.cons_append,List.nil_append]
   repeat' (first|(refine aE fun _ _=>?_)|refine zHg ?_|simp(disch:=omega) [go_sem,mE,aY])
   refine aMg [.ptr 1000 0 0] (by simp[go_sem]) ?_;simp only[aEi,aEh,Nat.reduceEqDiff,if_true,if_false]
   repeat' (first|(refine aE fun _ _=>?_)|refine zHg ?_|simp(disch:=omega) [go_sem,mE,aY]|refine zAo ?_|fail)
   refine aMf (aMd ⟨13,[],[(2000,fB true (hd.st .busy none) [.ptr 1000 0 0]),(1000,⟨false,false,true,1,[.ref 1002 0 (A.length+1)],0⟩),(1002,⟨true,false,false,1,A.map aY++ [aY x],0⟩)]⟩ [.ptr 1000 0 0] (Le.renSub [(11,1002),(1002,11)] [(1002,11),(11,1002)] (by simp[go_sem,aY]) (by simp[go_sem,aY]) (Le.sub4 rfl (by simp[go_sem,aY]))) (by simp[go_sem,aY]) (by simp[go_sem,aY]))
  exact hk
 ·rintro r o' ⟨rfl,l,hp,bs,c,rfl⟩
  have hlb:l.length<=1000000:=by rw[hp.length_eq];exact hb
  refine⟨(by simp[go_sem,gR]),aMe (hd.st .ready none) [.ptr 1000 0 0] (by simp[go_sem,gR]) (by simp[go_sem,gR]) ⟨13,[(2,.ptr 2 0 0)],[(2,⟨false,false,false,1,[.ref 31002 0 l.length],0⟩),(31002,⟨true,false,false,1,l.map aY,0⟩)]⟩ (Le.sub4 rfl (by simp[go_sem,gR])) (by simp[go_sem,gR]) ?_⟩
  repeat' (first|(refine aE fun _ _=>?_)|refine zHg ?_|simp(disch:=omega) [go_sem])
  refine dN ⟨13,[(4,.ref 1005 0 l.length)],[(1005,⟨true,false,false,1,l.map aY,0⟩)]⟩ [.ref 1005 0 l.length] (Le.renSub [(31002,1005),(1005,31002)] [(1005,31002),(31002,1005)] (by simp[go_sem]) (by simp[go_sem]) (Le.sub4 rfl (by simp[go_sem]))) (by simp[go_sem]) ⟨l,hp,rfl,rfl⟩
theorem dK8 (ks:List ByteArray) (w:ByteArray->Value) (hb:ks.length<=1000000):MCall prog 190 [.clo 192 [.ptr 1003 0 0]] (kyO w ks 1004 1003)
 (fun r o'=> ∃l:List ByteArray,l.Perm ks/\r= .ref 1005 0 l.length/\o'= [(1005,⟨true,false,false,1,l.map aY,0⟩)]):=by
 have h:=dK7 ks w hb
 refine dM func190 call190 rfl (by simp[ntmps190]) ?_;simp only[ntmps190,results190]
 repeat' (first|(refine aE fun _ _=>?_)|refine zHg ?_|simp(disch:=omega) [go_sem])
 refine iE [] [] 10000 _ _ (Fits.mk' (by simp[go_sem,eC]) (by simp[go_sem,eC])) (by simp[go_sem,eC]) (by simp[go_sem,eC]) (h) (by simp[go_sem,eC]) (by intros;simp[go_sem,eC]) ?_;intro l hp
 repeat' (first|(refine aE fun _ _=>?_)|refine zHg ?_|simp(disch:=omega) [go_sem])
 refine dN ⟨5,[(2,.ref 1005 0 l.length)],[(1005,⟨true,false,false,1,l.map aY,0⟩)]⟩ [.ref 1005 0 l.length] (Le.renSub [(11005,1005),(1005,11005)] [(1005,11005),(11005,1005)] (by simp[go_sem]) (by simp[go_sem]) (Le.sub4 rfl (by simp[go_sem]))) (by simp[go_sem]) ⟨l,hp,rfl,rfl⟩
end Go.Proofs.YtgmibdiofkmmbaaGreatDoor
