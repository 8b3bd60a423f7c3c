import Derived.Test.YtbgckcdddlmiaaaGreatDoorS7
import Derived.Test.YtbgckcdddlmiaaaGreatDoorA15
set_option linter.all false
open Go.Proofs.Tryz
namespace Go.Proofs.YtbgckcdddlmiaaaGreatDoor
open Go.Ab
variable [Glob prog]
set_option maxRecDepth 100000
set_option maxHeartbeats 16000000
theorem bSe (l:List Mu) (le fu:Bool) (L:List Rl) (cf:Mu->Bool) (hcl: ∀x∈l,ACall prog 41 [cR x,.iptr true [.list false false (L.map bH)] 0 0] (fun r=>r=bl (cf x))):ACall prog 79 [.list le fu (l.map cR),.clo 41 [.iptr true [.list false false (L.map bH)] 0 0]] (fun r=>r=nt .i64 (fG cf l)):=by
 refine ACall.bound (i:=0) rfl call79 fun hb=>?_
 rw[List.length_map]at hb
 have hb:l.length<=140737488355328:=hb
 generalize hR:fG cf l=R
 refine aQ func79 call79 rfl (by simp[ntmps79]) ?_;simp only[ntmps79,results79]
 repeat' (first|(refine aA fun _ _=>?_)|refine zHg ?_|simp(disch:=omega) [go_sem])
 refine bL [0,1,7] [] (fun i:Nat=> [(8,nt .i64 i)]) (fun i:Nat=> []) (fun i:Nat=>l.length - i) (fun i:Nat=>i<=l.length/\ ∀(k:Nat) (hk:k<l.length),k<i->cf l[k]=false) (0) (Le.sub4 rfl (by simp[go_sem])) ⟨?_⟩ ?_
 ·exact⟨Nat.zero_le _,fun k _ hk=>absurd hk (Nat.not_lt_zero _)⟩
 intro i ⟨hi,hn⟩ AA hAA;simp only[kL,Nat.reduceBEq,Nat.reduceEqDiff]
 by_cases hlt:i<l.length
 ·have hu:=hcl l[i] (List.getElem_mem hlt)
  try unfold cR at hu
  cases hq:cf l[i]
  ·rw[hq]at hu
   repeat' (first|(refine aA fun _ _=>?_)|refine zHg ?_|refine aH rfl (hu) (by simp) ?_|(refine(hAA.next (i+1) (Le.sub4 rfl (by simp[go_sem])) (by(try dsimp only);omega) ?_))|simp(disch:=omega) [go_sem,hlt,cR])
   try any_goals omega
   exact⟨hlt,fun k hk hki=>by rcases Nat.lt_or_eq_of_le (Nat.le_of_lt_succ hki)with h|rfl;exact hn k hk h;exact hq⟩
  ·have he:=S3 hlt hq hn
   rw[hR]at he
   subst he
   rw[hq]at hu
   repeat' (first|(refine aA fun _ _=>?_)|refine zHg ?_|(refine aM [] ?_;simp[go_sem,hlt,cR])|refine aH rfl (hu) (by simp) ?_|simp(disch:=omega) [go_sem,hlt,cR])
 ·obtain rfl:i=l.length:=by omega
  have he:=S4 hn
  rw[hR]at he
  subst he
  repeat' (first|(refine aA fun _ _=>?_)|refine zHg ?_|(refine aM [] ?_;simp[go_sem])|simp(disch:=omega) [go_sem])
abbrev eS (L:List Rl):AObj:=⟨false,false,true,1,[.list false false (L.map bH)],0⟩
abbrev eM (R:List Mu):AObj:=⟨true,false,true,3,R.map cR,0⟩
def wW:Mu:=⟨0,0,0⟩
abbrev uU (L:List Rl) (A B:List Mu):aF:= [(1000,eS L),(1001,eM (B++List.replicate (A.length - B.length) wW))]
theorem bSf {α:Type} {R:List α} {j i:Nat} {x:α} (h:j<i):(R.set j x).drop i=R.drop i:=by
 apply List.ext_getElem?
 intro k
 rw[List.getElem?_drop,List.getElem?_drop,List.getElem?_set_ne (by omega)]
theorem bSg {α:Type} {R:List α} {j:Nat} {x:α} (h:j<R.length):(R.set j x).take (j+1)=R.take j++ [x]:=by
 apply List.ext_getElem?
 intro k
 rw[List.getElem?_take,List.getElem?_append,List.length_take,Nat.min_eq_left (by omega),List.getElem?_take]
 by_cases h1:k<j
 ·rw[if_pos (by omega),if_pos h1,if_pos h1,List.getElem?_set_ne (by omega)]
 ·rw[if_neg h1]
  by_cases h2:k=j
  ·subst h2
   rw[if_pos (by omega),List.getElem?_set_self h,Nat.sub_self];rfl
  ·rw[if_neg (by omega)]
   obtain⟨d,hd⟩: ∃d,k - j=d+1:=⟨k - j - 1,by omega⟩
   rw[hd];rfl
theorem bSh (L:List Rl) (A:List Mu) (cf:Mu->Bool) (hA:A.length<=1000000000) (hcl: ∀m∈A,ACall prog 41 [cR m,.iptr true [.list false false (L.map bH)] 0 0] (fun r=>r=bl (cf m))):
 MCall prog 40 [.ref 1001 0 A.length,.clo 41 [.ptr 1000 0 0]] [(1000,eS L),(1001,eM A)]
  (fun r o'=>r= .ref 1001 0 (eG cf A A.length).length/\o'=uU L A (eG cf A A.length)):=by
 have hix:=fun a b=>bSe A a b L cf hcl
 have hir:=bSd (cf:=cf) (l:=A)
 have hlenT:True:=trivial
 by_cases hneg:fG cf A= -1
 ·have hall:eG cf A A.length=A:=by
   unfold eG
   rw[List.take_length,List.filter_eq_self]
   intro m hm
   cases hq:cf m
   ·rfl
   ·have:0<=fG cf A:=aEb.2 (List.any_eq_true.2 ⟨m,hm,hq⟩)
    omega
  rw[hall]
  unfold uU
  rw[Nat.sub_self,List.replicate_zero,List.append_nil]
  rw[hneg]at hix
  refine dC func40 call40 rfl (by simp[ntmps40]) ?_;simp only[ntmps40,results40]
  repeat' (first|(refine aA fun _ _=>?_)|refine zHg ?_|(refine aH ?hl (hix true false) (by simp) ?_;(case hl=>(simp[go_sem,hlenT,eS,eM];done)))|simp(disch:=omega) [go_sem,hlenT,eS,eM])
  refine cJ ⟨42,[(4,.ref 1001 0 A.length)],[(1000,eS L),(1001,eM A)]⟩ [.ref 1001 0 A.length] (Le.renSub [] [] (by simp[go_sem,eS,eM]) (by simp[go_sem,eS,eM]) (Le.sub4 rfl (by simp[go_sem,eS,eM]))) (by simp[go_sem,eS,eM]) ⟨rfl,rfl⟩
 ·obtain⟨i0,hi0⟩: ∃i0:Nat,fG cf A=i0:=⟨(fG cf A).toNat,by have: -1<=fG cf A:=hir.1;omega⟩
  have hi0l:i0<A.length:=by have:=hir.2;omega
  have hfi:A.findIdx cf=i0:=by
   unfold fG at hi0
   split at hi0
   ·omega
   ·omega
  have hci0:cf A[i0]=true:=by
   have:=List.findIdx_getElem (w:=(by rw[hfi];exact hi0l:A.findIdx cf<A.length))
   simpa only[hfi]using this
  have hf0:eG cf A (i0+1)=A.take i0:=by
   rw[aEa hi0l,if_pos hci0,List.append_nil]
   unfold eG
   rw[List.filter_eq_self]
   intro m hm
   obtain⟨k,hk,rfl⟩:=List.mem_iff_getElem.1 hm
   rw[List.length_take]at hk
   have:=List.not_of_lt_findIdx (xs:=A) (p:=cf) (i:=k) (by omega)
   rw[List.getElem_take]
   simpa using this
  have hfl0:(eG cf A (i0+1)).length=i0:=by rw[hf0,List.length_take];omega
  rw[hi0]at hix
  have hnx:=fun i (hi:i<A.length)=>aEa (cf:=cf) hi
  have hle:=fun i=>S2 (cf:=cf) (A:=A) (i:=i)
  refine dC func40 call40 rfl (by simp[ntmps40]) ?_;simp only[ntmps40,results40]
  repeat' (first|(refine aA fun _ _=>?_)|refine zHg ?_|(refine aH ?hl (hix true false) (by simp) ?_;(case hl=>(simp[go_sem,hlenT,eS,eM];done)))|simp(disch:=omega) [go_sem,hlenT,eS,eM])
  refine bL [0,1] [1001] (fun y:Nat×List Mu=> [(6,nt .i64 y.1),(5,nt .i64 (eG cf A y.1).length)]) (fun y:Nat×List Mu=> [(1001,eM y.2)]) (fun y:Nat×List Mu=>A.length - y.1) (fun y:Nat×List Mu=>y.1<=A.length/\y.2.length=A.length/\y.2.take (eG cf A y.1).length=eG cf A y.1/\y.2.drop y.1=A.drop y.1/\(eG cf A y.1).length<y.1) ((i0+1,A)) (Le.sub4 rfl (by simp[go_sem,hfl0,eS,eM])) ⟨?_⟩ ?_
  ·refine⟨by(try dsimp only);omega,rfl,?_,rfl,by(try dsimp only);rw[hfl0];omega⟩
   dsimp only
   rw[hfl0,hf0]
  intro⟨i,R⟩ ⟨hi,hRl,hRt,hRd,hji⟩ AA hAA;simp only[kL,Nat.reduceBEq,Nat.reduceEqDiff]
  dsimp only at*
  by_cases hlt:i<A.length
  ·have hn:=hnx i hlt
   have hu:=hcl A[i] (List.getElem_mem hlt)
   have hRi:R[i]'(by omega)=A[i]:=by
    have h1:(R.drop i)[0]?=(A.drop i)[0]?:=by rw[hRd]
    rw[List.getElem?_drop,List.getElem?_drop,Nat.add_zero,List.getElem?_eq_getElem (by omega),List.getElem?_eq_getElem hlt]at h1
    exact Option.some.inj h1
   have hd1:R.drop (i+1)=A.drop (i+1):=by
    have:=congrArg (List.drop 1) hRd
    rw[List.drop_drop,List.drop_drop]at this
    exact this
   have hltR:i<R.length:=by omega
   generalize hx:A[i]=x at*
   generalize eG cf A i=B at*
   cases hq:cf x
   ·rw[hq]at hu hn
    rw[if_neg (by decide)]at hn
    have hnl:(eG cf A (i+1)).length=B.length+1:=by rw[hn,List.length_append];rfl
    have hBR:B.length<R.length:=by omega
    repeat' (first|(refine aA fun _ _=>?_)|refine zHg ?_|refine aH rfl (hu) (by simp) ?_|(refine(hAA.next ((i+1,R.set B.length x)) (Le.sub4 rfl (by simp[go_sem,hnl,cR,eS,eM])) (by(try dsimp only);omega) ?_))|simp(disch:=omega) [go_sem,hlt,hx,hRi,hltR,hRl,hBR,eS,eM]|refine zAo ?_|fail)
    try any_goals omega
    all_goals exact⟨hlt,by rw[List.length_set];exact hRl,by rw[hnl,bSg hBR,hRt,hn],by rw[bSf (by omega)];exact hd1,by show(eG cf A (i+1)).length<i+1;omega⟩
   ·rw[hq]at hu hn
    rw[if_pos rfl,List.append_nil]at hn
    repeat' (first|(refine aA fun _ _=>?_)|refine zHg ?_|refine aH rfl (hu) (by simp) ?_|(refine(hAA.next ((i+1,R)) (Le.sub4 rfl (by simp[go_sem,hn,eS,eM])) (by(try dsimp only);omega) ?_))|simp(disch:=omega) [go_sem,hlt,hx,hRi,hltR,hRl,eS,eM])
    try any_goals omega
    all_goals exact⟨hlt,hRl,by rw[hn];exact hRt,hd1,by show(eG cf A (i+1)).length<i+1;rw[hn];omega⟩
  ·obtain rfl:i=A.length:=by omega
   have h3:=hle A.length
   generalize eG cf A A.length=B at*
   have ht:(R.map cR).take B.length=B.map cR:=by rw[<-List.map_take,hRt]
   have hd:(R.map cR).drop A.length= []:=List.drop_eq_nil_of_le (by rw[List.length_map];omega)
   repeat' (first|(refine aA fun _ _=>?_)|refine zHg ?_|simp(disch:=omega) [go_sem,hRl,eS,eM]|refine zAo ?_|fail)
   refine cJ ⟨42,[(4,.ref 1001 0 B.length)],uU L A B⟩ [.ref 1001 0 B.length] (Le.renSub [] [] (by simp[go_sem,uU,eS,eM,ht,hd,cR,wW]) (by simp[go_sem,uU,eS,eM,ht,hd,cR,wW]) (Le.sub4 rfl (by simp[go_sem,uU,eS,eM,ht,hd,cR,wW]))) (by simp[go_sem,uU,eS,eM,ht,hd,cR,wW]) ⟨rfl,rfl⟩
set_option maxHeartbeats 8000000
def uV:List AV:=mU.flatMap fun k=> [.sc (.string k.nm),nt .i64 k.ar,bl k.hd,bl k.bd]
class KwG [Glob prog]:Prop where
 tab:Glob.tab prog 1=some (.iptr false [.agg uV] 0 0)
theorem S5 [KwG]:Glob.tab prog 1=some (.iptr false [.agg uV] 0 0):=KwG.tab
theorem S6:rU uV 0 4 10=mU.map qE:=rfl
theorem S7:uV.length=40:=rfl
theorem bSi:mU.length=10:=rfl
theorem aOr (l:List Tm) (le fu:Bool) (f:FuncId) (cf:Tm->Bool) (hcl: ∀x∈l,ACall prog f [aO x] (fun r=>r=bl (cf x))):ACall prog 88 [.list le fu (l.map aO),.clo f []] (fun r=>r=nt .i64 (fG cf l)):=by
 refine ACall.bound (i:=0) rfl call88 fun hb=>?_
 rw[List.length_map]at hb
 have hb:l.length<=140737488355328:=hb
 generalize hR:fG cf l=R
 refine aQ func88 call88 rfl (by simp[ntmps88]) ?_;simp only[ntmps88,results88]
 repeat' (first|(refine aA fun _ _=>?_)|refine zHg ?_|simp(disch:=omega) [go_sem])
 refine bL [0,1,7] [] (fun i:Nat=> [(8,nt .i64 i)]) (fun i:Nat=> []) (fun i:Nat=>l.length - i) (fun i:Nat=>i<=l.length/\ ∀(k:Nat) (hk:k<l.length),k<i->cf l[k]=false) (0) (Le.sub4 rfl (by simp[go_sem])) ⟨?_⟩ ?_
 ·exact⟨Nat.zero_le _,fun k _ hk=>absurd hk (Nat.not_lt_zero _)⟩
 intro i ⟨hi,hn⟩ AA hAA;simp only[kL,Nat.reduceBEq,Nat.reduceEqDiff]
 by_cases hlt:i<l.length
 ·have hu:=hcl l[i] (List.getElem_mem hlt)
  rw[oS]at hu
  cases hq:cf l[i]
  ·rw[hq]at hu
   repeat' (first|(refine aA fun _ _=>?_)|refine zHg ?_|refine aH rfl (hu) (by simp) ?_|(refine(hAA.next (i+1) (Le.sub4 rfl (by simp[go_sem])) (by(try dsimp only);omega) ?_))|simp(disch:=omega) [go_sem,hlt])
   try any_goals omega
   exact⟨hlt,fun k hk hki=>by rcases Nat.lt_or_eq_of_le (Nat.le_of_lt_succ hki)with h|rfl;exact hn k hk h;exact hq⟩
  ·have he:=S3 hlt hq hn
   rw[hR]at he
   subst he
   rw[hq]at hu
   repeat' (first|(refine aA fun _ _=>?_)|refine zHg ?_|(refine aM [] ?_;simp[go_sem,hlt])|refine aH rfl (hu) (by simp) ?_|simp(disch:=omega) [go_sem,hlt])
 ·obtain rfl:i=l.length:=by omega
  have he:=S4 hn
  rw[hR]at he
  subst he
  repeat' (first|(refine aA fun _ _=>?_)|refine zHg ?_|(refine aM [] ?_;simp[go_sem])|simp(disch:=omega) [go_sem])
theorem aOs (l:List Tm) (le fu:Bool) (f:FuncId) (cf:Tm->Bool) (hcl: ∀x∈l,ACall prog f [aO x] (fun r=>r=bl (cf x))):ACall prog 85 [.list le fu (l.map aO),.clo f []] (fun r=>r=bl (l.any cf)):=by
 have h:=aOr l le fu f cf hcl
 have e:=aEb (cf:=cf) (l:=l)
 generalize fG cf l=x at*
 generalize l.any cf=b at*
 refine aQ func85 call85 rfl (by simp[ntmps85]) ?_;simp only[ntmps85,results85]
 cases b
 ·have e: ¬0<=x:=fun h=>by have:=e.1 h;cases this
  repeat' (first|(refine aA fun _ _=>?_)|refine zHg ?_|(refine aM [] ?_;simp[go_sem,e])|refine aH rfl (h) (by simp) ?_|simp(disch:=omega) [go_sem,e])
 ·have e:0<=x:=e.2 rfl
  repeat' (first|(refine aA fun _ _=>?_)|refine zHg ?_|(refine aM [] ?_;simp[go_sem,e])|refine aH rfl (h) (by simp) ?_|simp(disch:=omega) [go_sem,e])
theorem bSj (l:List Tm) (le fu:Bool) (f:FuncId) (u:Tm) (cf:Tm->Bool) (hcl: ∀x∈l,ACall prog f [aO x,.iptr true [eT u] 0 0] (fun r=>r=bl (cf x))):ACall prog 88 [.list le fu (l.map aO),.clo f [.iptr true [eT u] 0 0]] (fun r=>r=nt .i64 (fG cf l)):=by
 refine ACall.bound (i:=0) rfl call88 fun hb=>?_
 rw[List.length_map]at hb
 have hb:l.length<=140737488355328:=hb
 generalize hR:fG cf l=R
 refine aQ func88 call88 rfl (by simp[ntmps88]) ?_;simp only[ntmps88,results88]
 repeat' (first|(refine aA fun _ _=>?_)|refine zHg ?_|simp(disch:=omega) [go_sem])
 refine bL [0,1,7] [] (fun i:Nat=> [(8,nt .i64 i)]) (fun i:Nat=> []) (fun i:Nat=>l.length - i) (fun i:Nat=>i<=l.length/\ ∀(k:Nat) (hk:k<l.length),k<i->cf l[k]=false) (0) (Le.sub4 rfl (by simp[go_sem])) ⟨?_⟩ ?_
 ·exact⟨Nat.zero_le _,fun k _ hk=>absurd hk (Nat.not_lt_zero _)⟩
 intro i ⟨hi,hn⟩ AA hAA;simp only[kL,Nat.reduceBEq,Nat.reduceEqDiff]
 by_cases hlt:i<l.length
 ·have hu:=hcl l[i] (List.getElem_mem hlt)
  rw[oS]at hu
  cases hq:cf l[i]
  ·rw[hq]at hu
   repeat' (first|(refine aA fun _ _=>?_)|refine zHg ?_|refine aH rfl (hu) (by simp) ?_|(refine(hAA.next (i+1) (Le.sub4 rfl (by simp[go_sem])) (by(try dsimp only);omega) ?_))|simp(disch:=omega) [go_sem,hlt])
   try any_goals omega
   exact⟨hlt,fun k hk hki=>by rcases Nat.lt_or_eq_of_le (Nat.le_of_lt_succ hki)with h|rfl;exact hn k hk h;exact hq⟩
  ·have he:=S3 hlt hq hn
   rw[hR]at he
   subst he
   rw[hq]at hu
   repeat' (first|(refine aA fun _ _=>?_)|refine zHg ?_|(refine aM [] ?_;simp[go_sem,hlt])|refine aH rfl (hu) (by simp) ?_|simp(disch:=omega) [go_sem,hlt])
 ·obtain rfl:i=l.length:=by omega
  have he:=S4 hn
  rw[hR]at he
  subst he
  repeat' (first|(refine aA fun _ _=>?_)|refine zHg ?_|(refine aM [] ?_;simp[go_sem])|simp(disch:=omega) [go_sem])
theorem bSk (l:List Tm) (le fu:Bool) (f:FuncId) (u:Tm) (cf:Tm->Bool) (hcl: ∀x∈l,ACall prog f [aO x,.iptr true [eT u] 0 0] (fun r=>r=bl (cf x))):ACall prog 85 [.list le fu (l.map aO),.clo f [.iptr true [eT u] 0 0]] (fun r=>r=bl (l.any cf)):=by
 have h:=bSj l le fu f u cf hcl
 have e:=aEb (cf:=cf) (l:=l)
 generalize fG cf l=x at*
 generalize l.any cf=b at*
 refine aQ func85 call85 rfl (by simp[ntmps85]) ?_;simp only[ntmps85,results85]
 cases b
 ·have e: ¬0<=x:=fun h=>by have:=e.1 h;cases this
  repeat' (first|(refine aA fun _ _=>?_)|refine zHg ?_|(refine aM [] ?_;simp[go_sem,e])|refine aH rfl (h) (by simp) ?_|simp(disch:=omega) [go_sem,e])
 ·have e:0<=x:=e.2 rfl
  repeat' (first|(refine aA fun _ _=>?_)|refine zHg ?_|(refine aM [] ?_;simp[go_sem,e])|refine aH rfl (h) (by simp) ?_|simp(disch:=omega) [go_sem,e])
theorem bSl (k:Kw) (s:ByteArray):ACall prog 159 [qE k,.iptr true [.sc (.string s)] 0 0] (fun r=>r=bl (decide (k.nm=s))):=by
 refine aQ func159 call159 rfl (by simp[ntmps159]) ?_;simp only[ntmps159,results159]
 repeat' (first|(refine aA fun _ _=>?_)|refine zHg ?_|(refine aM [] ?_;simp[go_sem])|simp(disch:=omega) [go_sem])
theorem bSm (l:List Kw) (le fu:Bool) (s:ByteArray) (cf:Kw->Bool) (hcl: ∀x∈l,ACall prog 159 [qE x,.iptr true [.sc (.string s)] 0 0] (fun r=>r=bl (cf x))):ACall prog 158 [.list le fu (l.map qE),.clo 159 [.iptr true [.sc (.string s)] 0 0]] (fun r=>r=nt .i64 (fG cf l)):=by
 refine ACall.bound (i:=0) rfl call158 fun hb=>?_
 rw[List.length_map]at hb
 have hb:l.length<=140737488355328:=hb
 generalize hR:fG cf l=R
 refine aQ func158 call158 rfl (by simp[ntmps158]) ?_;simp only[ntmps158,results158]
 repeat' (first|(refine aA fun _ _=>?_)|refine zHg ?_|simp(disch:=omega) [go_sem])
 refine bL [0,1,7] [] (fun i:Nat=> [(8,nt .i64 i)]) (fun i:Nat=> []) (fun i:Nat=>l.length - i) (fun i:Nat=>i<=l.length/\ ∀(k:Nat) (hk:k<l.length),k<i->cf l[k]=false) (0) (Le.sub4 rfl (by simp[go_sem])) ⟨?_⟩ ?_
 ·exact⟨Nat.zero_le _,fun k _ hk=>absurd hk (Nat.not_lt_zero _)⟩
 intro i ⟨hi,hn⟩ AA hAA;simp only[kL,Nat.reduceBEq,Nat.reduceEqDiff]
 by_cases hlt:i<l.length
 ·have hu:=hcl l[i] (List.getElem_mem hlt)
  try unfold qE at hu
  cases hq:cf l[i]
  ·rw[hq]at hu
   repeat' (first|(refine aA fun _ _=>?_)|refine zHg ?_|refine aH rfl (hu) (by simp) ?_|(refine(hAA.next (i+1) (Le.sub4 rfl (by simp[go_sem])) (by(try dsimp only);omega) ?_))|simp(disch:=omega) [go_sem,hlt,qE])
   try any_goals omega
   exact⟨hlt,fun k hk hki=>by rcases Nat.lt_or_eq_of_le (Nat.le_of_lt_succ hki)with h|rfl;exact hn k hk h;exact hq⟩
  ·have he:=S3 hlt hq hn
   rw[hR]at he
   subst he
   rw[hq]at hu
   repeat' (first|(refine aA fun _ _=>?_)|refine zHg ?_|(refine aM [] ?_;simp[go_sem,hlt,qE])|refine aH rfl (hu) (by simp) ?_|simp(disch:=omega) [go_sem,hlt,qE])
 ·obtain rfl:i=l.length:=by omega
  have he:=S4 hn
  rw[hR]at he
  subst he
  repeat' (first|(refine aA fun _ _=>?_)|refine zHg ?_|(refine aM [] ?_;simp[go_sem])|simp(disch:=omega) [go_sem])
theorem bSn (s:ByteArray):(fG (fun k=>decide (k.nm=s)) mU= -1/\wM s=none)\/ ∃(i:Nat) (h:i<mU.length),fG (fun k=>decide (k.nm=s)) mU=i/\wM s=some mU[i]:=by
 unfold wM fG
 by_cases h:mU.findIdx (fun k=>decide (k.nm=s))<mU.length
 ·refine .inr ⟨_,h,if_pos h,?_⟩
  rw[List.find?_eq_getElem?_findIdx]
  rw[List.getElem?_eq_getElem h]
 ·refine .inl ⟨if_neg h,?_⟩
  rw[List.find?_eq_none]
  intro x hx
  have:=List.findIdx_eq_length.1 (Nat.le_antisymm List.findIdx_le_length (Nat.not_lt.1 h)) x hx
  simpa using this
theorem bSo [KwG] (s:ByteArray):ACall prog 125 [.sc (.string s)] (fun r=>r=jF (wM s)):=by
 have h1:=bSm mU false true s (fun k=>decide (k.nm=s)) (fun k _=>bSl k s)
 rcases bSn s with⟨hi,hk⟩|⟨i,hi,hx,hk⟩
 ·rw[hi]at h1
  rw[hk]
  refine aQ func125 call125 rfl (by simp[ntmps125]) ?_;simp only[ntmps125,results125]
  repeat' (first|(refine aA fun _ _=>?_)|refine zHg ?_|(refine aM [] ?_;simp[go_sem,S5,S6,S7,jF])|refine aH rfl (h1) (by simp) ?_|simp(disch:=omega) [go_sem,S5,S6,S7,jF])
 ·rw[hx]at h1
  rw[hk]
  have hi':i=0\/i=1\/i=2\/i=3\/i=4\/i=5\/i=6\/i=7\/i=8\/i=9:=by rw[bSi]at hi;omega
  rcases hi' with rfl|rfl|rfl|rfl|rfl|rfl|rfl|rfl|rfl|rfl
  all_goals(refine aQ func125 call125 rfl (by simp[ntmps125]) ?_;simp only[ntmps125,results125])
  all_goals repeat' (first|(refine aA fun _ _=>?_)|refine zHg ?_|(refine aM [] ?_;simp[go_sem,S5,S6,S7,jF,uV,mU])|refine aH rfl (h1) (by simp) ?_|simp(disch:=omega) [go_sem,S5,S6,S7,jF,uV,mU])
theorem bSp: ∀t:Tm,ACall prog 124 [eT t] (fun r=>r=bl (sQ t)):=by
 refine fL fun t ih=>?_
 obtain⟨n,ts⟩:=t
 simp only[bX]at ih
 rw[bOe]
 have h2:=N8 n
 by_cases h0:ts.length=0
 ·rw[if_pos h0]
  have h1:=aCa n
  have h3:=aB8 n
  generalize gP n=q at*
  obtain⟨a,b⟩:=q
  generalize lS n=c at*
  generalize qB n=d at*
  dsimp only at*
  clear ih
  cases b<;>cases c<;>cases d
  all_goals(refine aQ func124 call124 rfl (by simp[ntmps124]) ?_;simp only[ntmps124,results124])
  all_goals repeat' (first|(refine aA fun _ _=>?_)|refine zHg ?_|(refine aM [] ?_;simp[go_sem,h0])|refine aH rfl (h1) (by simp) ?_|refine aH rfl (h2) (by simp) ?_|refine aH rfl (h3) (by simp) ?_|simp(disch:=omega) [go_sem,h0])
 ·rw[if_neg h0,aMq]
  have h1:=aOs ts false false 124 sQ (fun x hx=>by rw[oS];exact ih x hx)
  generalize ts.any sQ=b at*
  generalize lS n=c at*
  clear ih
  cases b<;>cases c
  all_goals(refine aQ func124 call124 rfl (by simp[ntmps124]) ?_;simp only[ntmps124,results124])
  all_goals repeat' (first|(refine aA fun _ _=>?_)|refine zHg ?_|(refine aM [] ?_;simp[go_sem,h0])|refine aH rfl (h1) (by simp) ?_|refine aH rfl (h2) (by simp) ?_|simp(disch:=omega) [go_sem,h0])
theorem bSq: ∀t:Tm,ACall prog 126 [eT t] (fun r=>r=bl (sR t)):=by
 refine fL fun t ih=>?_
 obtain⟨n,ts⟩:=t
 simp only[bX]at ih
 rw[bOf,aMr]
 have h1:=aOs ts false false 126 sR (fun x hx=>by rw[oS];exact ih x hx)
 generalize ts.any sR=b at*
 clear ih
 by_cases h0:4<ts.length
 ·rw[decide_eq_true h0,Bool.true_or]
  have h0':(4:Int)<ts.length:=by omega
  refine aQ func126 call126 rfl (by simp[ntmps126]) ?_;simp only[ntmps126,results126]
  repeat' (first|(refine aA fun _ _=>?_)|refine zHg ?_|(refine aM [] ?_;simp[go_sem,h0'])|simp(disch:=omega) [go_sem,h0'])
 ·rw[decide_eq_false h0,Bool.false_or]
  have h0': ¬(4:Int)<ts.length:=by omega
  refine aQ func126 call126 rfl (by simp[ntmps126]) ?_;simp only[ntmps126,results126]
  repeat' (first|(refine aA fun _ _=>?_)|refine zHg ?_|(refine aM [] ?_;simp[go_sem,h0'])|refine aH rfl (h1) (by simp) ?_|simp(disch:=omega) [go_sem,h0'])
theorem bSr [KwG] (t:Tm) (hd:Bool) (hz:t.size<=1000000):ACall prog 81 [eT t,bl hd] (fun r=>r=nt .i64 (iJ hd t)):=by
 have h1:=N8 t.name
 have h2:=bSp t
 have h3:=bSo t.name
 have h4:=bSq t
 have h5:=bLh t hz
 unfold iJ
 generalize lS t.name=a at*
 generalize sQ t=b at*
 generalize sR t=c at*
 generalize t.depth=d at*
 generalize wM t.name=k at*
 cases a
 ·rw[if_pos (.inl rfl)]
  refine aQ func81 call81 rfl (by simp[ntmps81]) ?_;simp only[ntmps81,results81]
  repeat' (first|(refine aA fun _ _=>?_)|refine zHg ?_|(refine aM [] ?_;simp[go_sem])|refine aH rfl (h1) (by simp) ?_|simp(disch:=omega) [go_sem])
 cases b
 rotate_left
 ·rw[if_pos (.inr rfl)]
  refine aQ func81 call81 rfl (by simp[ntmps81]) ?_;simp only[ntmps81,results81]
  repeat' (first|(refine aA fun _ _=>?_)|refine zHg ?_|(refine aM [] ?_;simp[go_sem])|refine aH rfl (h1) (by simp) ?_|refine aH rfl (h2) (by simp) ?_|simp(disch:=omega) [go_sem])
 rw[if_neg (by simp)]
 cases k with
 |none=>
  unfold Q7
  cases c
  ·rw[if_neg (by simp)]
   by_cases h4d:4<d
   ·rw[if_pos h4d]
    have h4d':(4:Int)<d:=by omega
    refine aQ func81 call81 rfl (by simp[ntmps81]) ?_;simp only[ntmps81,results81]
    repeat' (first|(refine aA fun _ _=>?_)|refine zHg ?_|(refine aM [] ?_;simp[go_sem,jF,h4d'])|refine aH rfl (h1) (by simp) ?_|refine aH rfl (h2) (by simp) ?_|refine aH rfl (h3) (by simp) ?_|refine aH rfl (h4) (by simp) ?_|refine aH rfl (h5) (by simp) ?_|simp(disch:=omega) [go_sem,jF,h4d'])
   ·rw[if_neg h4d]
    have h4d': ¬(4:Int)<d:=by omega
    refine aQ func81 call81 rfl (by simp[ntmps81]) ?_;simp only[ntmps81,results81]
    repeat' (first|(refine aA fun _ _=>?_)|refine zHg ?_|(refine aM [] ?_;simp[go_sem,jF,h4d'])|refine aH rfl (h1) (by simp) ?_|refine aH rfl (h2) (by simp) ?_|refine aH rfl (h3) (by simp) ?_|refine aH rfl (h4) (by simp) ?_|refine aH rfl (h5) (by simp) ?_|simp(disch:=omega) [go_sem,jF,h4d'])
  ·rw[if_pos rfl]
   refine aQ func81 call81 rfl (by simp[ntmps81]) ?_;simp only[ntmps81,results81]
   repeat' (first|(refine aA fun _ _=>?_)|refine zHg ?_|(refine aM [] ?_;simp[go_sem,jF])|refine aH rfl (h1) (by simp) ?_|refine aH rfl (h2) (by simp) ?_|refine aH rfl (h3) (by simp) ?_|refine aH rfl (h4) (by simp) ?_|simp(disch:=omega) [go_sem,jF])
 |some k=>
  obtain⟨kn,ka,kh,kb⟩:=k
  unfold Q7
  dsimp only
  cases c
  ·by_cases hn:t.args.length=ka
   ·rw[if_neg (by simp[hn])]
    by_cases h4d:4<d
    ·rw[if_pos h4d]
     have h4d':(4:Int)<d:=by omega
     refine aQ func81 call81 rfl (by simp[ntmps81]) ?_;simp only[ntmps81,results81]
     repeat' (first|(refine aA fun _ _=>?_)|refine zHg ?_|(refine aM [] ?_;simp[go_sem,jF,h4d',hn])|refine aH rfl (h1) (by simp) ?_|refine aH rfl (h2) (by simp) ?_|refine aH rfl (h3) (by simp) ?_|refine aH rfl (h4) (by simp) ?_|refine aH rfl (h5) (by simp) ?_|simp(disch:=omega) [go_sem,jF,h4d',hn])
    ·rw[if_neg h4d]
     have h4d': ¬(4:Int)<d:=by omega
     cases hd<;>cases kh<;>cases kb
     all_goals simp only[Bool.true_eq_false,Bool.false_eq_true,and_true,and_false,true_and,false_and,or_true,or_false,if_true,if_false]
     all_goals(refine aQ func81 call81 rfl (by simp[ntmps81]) ?_;simp only[ntmps81,results81])
     all_goals repeat' (first|(refine aA fun _ _=>?_)|refine zHg ?_|(refine aM [] ?_;simp[go_sem,jF,h4d',hn])|refine aH rfl (h1) (by simp) ?_|refine aH rfl (h2) (by simp) ?_|refine aH rfl (h3) (by simp) ?_|refine aH rfl (h4) (by simp) ?_|refine aH rfl (h5) (by simp) ?_|simp(disch:=omega) [go_sem,jF,h4d',hn])
   ·rw[if_pos (.inr hn)]
    have hn': ¬(t.args.length:Int)=ka:=by omega
    refine aQ func81 call81 rfl (by simp[ntmps81]) ?_;simp only[ntmps81,results81]
    repeat' (first|(refine aA fun _ _=>?_)|refine zHg ?_|(refine aM [] ?_;simp[go_sem,jF,hn'])|refine aH rfl (h1) (by simp) ?_|refine aH rfl (h2) (by simp) ?_|refine aH rfl (h3) (by simp) ?_|refine aH rfl (h4) (by simp) ?_|simp(disch:=omega) [go_sem,jF,hn'])
  ·rw[if_pos (.inl rfl)]
   refine aQ func81 call81 rfl (by simp[ntmps81]) ?_;simp only[ntmps81,results81]
   repeat' (first|(refine aA fun _ _=>?_)|refine zHg ?_|(refine aM [] ?_;simp[go_sem,jF])|refine aH rfl (h1) (by simp) ?_|refine aH rfl (h2) (by simp) ?_|refine aH rfl (h3) (by simp) ?_|refine aH rfl (h4) (by simp) ?_|simp(disch:=omega) [go_sem,jF])
theorem bSs: ∀t:Tm,(lB t).length<=t.size:=by
 refine fL fun t ih=>?_
 obtain⟨s,ts⟩:=t
 simp only[bX]at ih
 rw[D1,Tm.size]
 split
 ·simp
 ·rename_i h0;clear h0
  induction ts with
  |nil=>simp[dM]
  |cons u r ih2=>
   have h1:=ih u (by simp)
   have h2:=ih2 fun v hv=>ih v (List.mem_cons_of_mem _ hv)
   simp only[dM,bZ,List.length_append];omega
theorem aOt (r:Rl) (hl:r.body.length<=1000000):ACall prog 80 [bH r] (fun v=>v= .own 2 ((cU r).map aO)):=by
 obtain⟨h,bs⟩:=r
 dsimp only at*
 have hnx: ∀i (hi:i<bs.length),h::(bs.take (i+1)).map Lt.atom=(h::(bs.take i).map Lt.atom)++ [bs[i].atom]:=fun i hi=>by
  rw[eZ hi,List.map_append];rfl
 unfold cU
 dsimp only
 generalize hR:h::bs.map Lt.atom=R
 refine aQ func80 call80 rfl (by simp[ntmps80]) ?_;simp only[ntmps80,results80]
 repeat' (first|(refine aA fun _ _=>?_)|refine zHg ?_|simp(disch:=omega) [go_sem])
 refine bL [10,11] [900,8] (fun y:Nat×List Tm=> [(12,nt .i64 y.1),(3,.ref 900 0 y.2.length)]) (fun y:Nat×List Tm=> [(900,⟨true,false,false,2,y.2.map aO,0⟩)]) (fun y:Nat×List Tm=>bs.length - y.1) (fun y:Nat×List Tm=>y.1<=bs.length/\y.2.length=y.1+1/\y.2=h::(bs.take y.1).map Lt.atom) ((0,[h])) (Le.renSub [(8,900)] [(900,8)] (by simp[go_sem]) (by simp[go_sem]) (Le.sub4 rfl (by simp[go_sem]))) ⟨?_⟩ ?_
 ·exact⟨Nat.zero_le _,rfl,rfl⟩
 intro⟨i,A⟩ ⟨hi,hAl,hA⟩ AA hAA;simp only[kL,Nat.reduceBEq,Nat.reduceEqDiff]
 dsimp only at*
 by_cases hlt:i<bs.length
 ·have hn:=hnx i hlt
  rw[<-hA]at hn
  generalize hbi:bs[i]=b at*
  repeat' (first|(refine aA fun _ _=>?_)|refine zHg ?_|(refine(hAA.next ((i+1,A++ [b.atom])) (Le.sub4 rfl (by simp[go_sem,hAl])) (by(try dsimp only);omega) ?_))|simp(disch:=omega) [go_sem,hlt,hbi,hAl]|refine zAo ?_|fail)
  try any_goals omega
  all_goals exact⟨hlt,by rw[List.length_append,hAl];rfl,hn.symm⟩
 ·obtain rfl:i=bs.length:=by omega
  rw[List.take_length]at hA
  obtain rfl:=hA.trans hR
  repeat' (first|(refine aA fun _ _=>?_)|refine zHg ?_|(refine aM [] ?_;simp[go_sem])|simp(disch:=omega) [go_sem])
def tD (h:Tm) (bs:List Lt) (i:Nat):List Tm:=h::((bs.take i).filter fun b=> !oA b).map Lt.atom
def tE (bs:List Lt) (i:Nat):List Tm:=((bs.take i).filter oA).map Lt.atom
theorem bSt {h:Tm} {bs:List Lt} {i:Nat} (hi:i<bs.length):tD h bs (i+1)=tD h bs i++if oA bs[i]=true then[]else[bs[i].atom]:=by
 unfold tD
 rw[eZ hi,List.filter_append,List.map_append,List.cons_append]
 congr 2
 simp only[List.filter_cons,List.filter_nil]
 cases oA bs[i]<;>simp
theorem bSu {bs:List Lt} {i:Nat} (hi:i<bs.length):tE bs (i+1)=tE bs i++if oA bs[i]=true then[bs[i].atom]else[]:=by
 unfold tE
 rw[eZ hi,List.filter_append,List.map_append]
 congr 1
 simp only[List.filter_cons,List.filter_nil]
 cases oA bs[i]<;>simp
theorem bSv {h:Tm} {bs:List Lt} {i:Nat}:(tD h bs i).length<=i+1:=by
 unfold tD
 have:=List.length_filter_le (fun b=> !oA b) (bs.take i)
 simp only[List.length_cons,List.length_map,List.length_take]at*;omega
theorem bSw {bs:List Lt} {i:Nat}:(tE bs i).length<=i:=by
 unfold tE
 have:=List.length_filter_le oA (bs.take i)
 simp only[List.length_map,List.length_take]at*;omega
theorem bSx (r:Rl) (hl:r.body.length<=1000000) (hn:(dM (sS r)).length<=1000000) (hb:(dM (uR r)).length<=1000000):ACall prog 83 [bH r] (fun v=>v=bl (D9 r)):=by
 have v1: ∀le fu,ACall prog 82 [.list le fu ((uR r).map aO)] (fun v=>v= .own 1 ((iI (uR r)).map aI)):=fun le fu=>aC2 _ le fu hb
 have v2: ∀le fu,ACall prog 82 [.list le fu ((sS r).map aO)] (fun v=>v= .own 1 ((iI (sS r)).map aI)):=fun le fu=>aC2 _ le fu hn
 have e1:sS r=tD r.head r.body r.body.length:=by unfold sS tD;rw[List.take_length]
 have e2:uR r=tE r.body r.body.length:=by unfold uR tE;rw[List.take_length]
 have hlN:(iI (sS r)).length<=1000000:=Nat.le_trans (aC1 _) hn
 unfold D9
 rw[e1]at v2 hlN ⊢
 rw[e2]at v1 ⊢
 obtain⟨h,bs⟩:=r
 dsimp only at*
 generalize hR:(List.all _ _)=R
 clear hn hb e1 e2
 refine aQ func83 call83 rfl (by simp[ntmps83]) ?_;simp only[ntmps83,results83]
 repeat' (first|(refine aA fun _ _=>?_)|refine zHg ?_|simp(disch:=omega) [go_sem])
 refine bL [14,15] [12,901] (fun y:Nat×List Tm×List Tm=> [(16,nt .i64 y.1),(3,.ref 12 0 y.2.1.length),(4,.ref 901 0 y.2.2.length)]) (fun y:Nat×List Tm×List Tm=> [(12,⟨true,false,false,2,y.2.1.map aO,0⟩),(901,⟨true,false,false,2,y.2.2.map aO,0⟩)]) (fun y:Nat×List Tm×List Tm=>bs.length - y.1) (fun y:Nat×List Tm×List Tm=>y.1<=bs.length/\y.2.1=tD h bs y.1/\y.2.2=tE bs y.1) ((0,[h],[])) (by refine Le.trans ?_ (Le.nil (i:=4) (T:=901) (es:=2) rfl);exact(Le.sub4 rfl (by simp[go_sem,List.map_nil]))) ⟨?_⟩ ?_
 ·exact⟨Nat.zero_le _,by simp[tD],by simp[tE]⟩
 intro⟨i,A,B⟩ ⟨hi,hA,hB⟩ AA hAA;simp only[kL,Nat.reduceBEq,Nat.reduceEqDiff]
 dsimp only at*
 by_cases hlt:i<bs.length
 ·have n1:=bSt (h:=h) hlt
  have n2:=bSu hlt
  rw[<-hA]at n1
  rw[<-hB]at n2
  have l1:A.length<=i+1:=by rw[hA];exact bSv
  have l2:B.length<=i:=by rw[hB];exact bSw
  clear v1 v2 hA hB
  generalize hbi:bs[i]=b at*
  obtain⟨ng,a⟩:=b
  unfold oA at n1 n2
  dsimp only at*
  cases ng
  ·by_cases hd:a.name=lX
   ·rw[decide_eq_true hd]at n1 n2
    obtain⟨an,aas⟩:=a
    simp only[iT]at hd
    subst hd
    simp only[Bool.not_true,Bool.and_false,Bool.false_eq_true,if_false,List.append_nil]at n1 n2
    repeat' (first|(refine aA fun _ _=>?_)|refine zHg ?_|(refine(hAA.next ((i+1,A++ [.mk lX aas],B)) (Le.sub4 rfl (by simp[go_sem])) (by(try dsimp only);omega) ?_))|simp(disch:=omega) [go_sem,hlt,hbi]|refine zAo ?_|fail)
    try any_goals omega
    all_goals exact⟨hlt,n1.symm,n2.symm⟩
   ·rw[decide_eq_false hd]at n1 n2
    simp only[Bool.not_false,Bool.and_true,if_true,List.append_nil]at n1 n2
    repeat' (first|(refine aA fun _ _=>?_)|refine zHg ?_|(refine(hAA.next ((i+1,A,B++ [a])) (Le.sub4 rfl (by simp[go_sem])) (by(try dsimp only);omega) ?_))|simp(disch:=omega) [go_sem,hlt,hbi,hd]|refine zAo ?_|fail)
    try any_goals omega
    all_goals exact⟨hlt,n1.symm,n2.symm⟩
  ·simp only[Bool.not_true,Bool.false_and,Bool.false_eq_true,if_false,List.append_nil]at n1 n2
   repeat' (first|(refine aA fun _ _=>?_)|refine zHg ?_|(refine(hAA.next ((i+1,A++ [a],B)) (Le.sub4 rfl (by simp[go_sem])) (by(try dsimp only);omega) ?_))|simp(disch:=omega) [go_sem,hlt,hbi]|refine zAo ?_|fail)
   try any_goals omega
   all_goals exact⟨hlt,n1.symm,n2.symm⟩
 ·obtain rfl:i=bs.length:=by omega
  rw[<-hA]at v2 hR hlN
  rw[<-hB]at v1 hR
  clear hA hB
  have hlenT:True:=trivial
  generalize iI A=V at*
  generalize iI B=W at*
  repeat' (first|(refine aA fun _ _=>?_)|refine zHg ?_|(refine aH ?hl (v1 true false) (by simp) ?_;(case hl=>(simp[go_sem,hlenT];done)))|(refine aH ?hl (v2 true false) (by simp) ?_;(case hl=>(simp[go_sem,hlenT];done)))|simp(disch:=omega) [go_sem,hlenT])
  refine bL [7,42,43] [] (fun j:Nat=> [(44,nt .i64 j)]) (fun j:Nat=> []) (fun j:Nat=>V.length - j) (fun j:Nat=>j<=V.length/\ ∀(k:Nat) (hk:k<V.length),k<j->fS W V[k]=true) (0) (Le.sub4 rfl (by simp[go_sem])) ⟨?_⟩ ?_
  ·exact⟨Nat.zero_le _,fun k _ hk=>absurd hk (Nat.not_lt_zero _)⟩
  intro j ⟨hj,hn⟩ AA hAA;simp only[kL,Nat.reduceBEq,Nat.reduceEqDiff]
  by_cases hjl:j<V.length
  ·have hc:=aCz W V[j] true false
   cases hq:fS W V[j]
   ·rw[hq]at hc
    have hu:R=false:=by
     rw[<-hR,List.all_eq_false]
     exact⟨_,List.getElem_mem hjl,by rw[hq];simp⟩
    subst hu
    repeat' (first|(refine aA fun _ _=>?_)|refine zHg ?_|(refine aM [] ?_;simp[go_sem,hjl,aI,hlenT])|(refine aH ?hl (hc) (by simp) ?_;(case hl=>(simp[go_sem,hjl,aI,hlenT];done)))|simp(disch:=omega) [go_sem,hjl,aI,hlenT])
   ·rw[hq]at hc
    repeat' (first|(refine aA fun _ _=>?_)|refine zHg ?_|(refine aH ?hl (hc) (by simp) ?_;(case hl=>(simp[go_sem,hjl,aI,hlenT];done)))|(refine(hAA.next (j+1) (Le.sub4 rfl (by simp[go_sem])) (by(try dsimp only);omega) ?_))|simp(disch:=omega) [go_sem,hjl,aI,hlenT])
    try any_goals omega
    exact⟨hjl,fun k hk hkj=>by rcases Nat.lt_or_eq_of_le (Nat.le_of_lt_succ hkj)with h|rfl;exact hn k hk h;exact hq⟩
  ·obtain rfl:j=V.length:=by omega
   have hu:R=true:=by
    rw[<-hR,List.all_eq_true]
    intro x hx
    obtain⟨k,hk,rfl⟩:=List.mem_iff_getElem.1 hx
    exact hn k hk hk
   subst hu
   repeat' (first|(refine aA fun _ _=>?_)|refine zHg ?_|(refine aM [] ?_;simp[go_sem])|simp(disch:=omega) [go_sem])
theorem aOu: ∀{l:List Tm} {i:Nat} (hi:i<l.length),(∀(k:Nat) (hk:k<l.length),k<i->iJ false l[k]=0)->iJ false l[i]≠0->uQ l=iJ false l[i]
 |t::r,0,_,_,h=>by
  have h':iJ false t≠0:=h
  rw[uQ,if_pos h'];rfl
 |t::r,i+1,hi,hn,h=>by
  have h0:=hn 0 (by simp) (by omega)
  rw[uQ,if_neg (by simpa using h0)]
  exact aOu (i:=i) (by simpa using hi) (fun k hk hki=>hn (k+1) (by simpa using hk) (by omega)) h
theorem aOv: ∀{l:List Tm},(∀(k:Nat) (hk:k<l.length),iJ false l[k]=0)->uQ l=0
 | [],_=>rfl
 |t::r,hn=>by
  have h0:=hn 0 (by simp)
  rw[uQ,if_neg (by simpa using h0)]
  exact aOv fun k hk=>hn (k+1) (by simpa using hk)
theorem bSy {h:Tm} {bs:List Lt} {i:Nat} (hi:i<(cU ⟨h,bs⟩).length) (h0:i≠0): ∃hi':i - 1<(bs.map Lt.atom).length,(cU ⟨h,bs⟩)[i]=(bs.map Lt.atom)[i - 1]:=by
 cases i with
 |zero=>exact absurd rfl h0
 |succ i=>
  simp only[cU,List.length_cons]at hi
  exact⟨by simpa using hi,rfl⟩
theorem bSz [KwG] (r:Rl) (hl:r.body.length<=1000000) (hh:r.head.size<=100) (hz: ∀b∈r.body,b.atom.size<=100):ACall prog 42 [bH r] (fun v=>v=nt .i64 (lC r)):=by
 by_cases h8:8<r.body.length
 ·have h8':(8:Int)<r.body.length:=by omega
  unfold lC
  rw[if_pos h8]
  refine aQ func42 call42 rfl (by simp[ntmps42]) ?_;simp only[ntmps42,results42]
  repeat' (first|(refine aA fun _ _=>?_)|refine zHg ?_|(refine aM [] ?_;simp[go_sem,h8'])|simp(disch:=omega) [go_sem,h8'])
 have h8': ¬(8:Int)<r.body.length:=by omega
 have a1:=aOt r hl
 have hlv: ∀l:List Tm,(∀t∈l,t.size<=100)->(dM l).length<=l.length*100:=by
  intro l
  induction l with
  |nil=>intro _;simp[dM]
  |cons t q ihq=>
   intro h
   have e:dM (t::q)=lB t++dM q:=rfl
   have h1:=bSs t
   have h2:=h t (by simp)
   have h3:=ihq fun u hu=>h u (by simp[hu])
   rw[e,List.length_append,List.length_cons];omega
 have hsz: ∀t∈cU r,t.size<=100:=fun t ht=>by
  simp only[cU,List.mem_cons,List.mem_map]at ht
  rcases ht with rfl|⟨b,hb,rfl⟩
  ·exact hh
  ·exact hz b hb
 have hvl: ∀l:List Tm,(∀t∈l,t∈cU r)->l.length<=100->(dM l).length<=1000000:=fun l h1 h2=>by
  have:=hlv l fun t ht=>hsz t (h1 t ht)
  omega
 have hal:(cU r).length=r.body.length+1:=by simp[cU]
 have s1:=bSx r hl (hvl _ (fun t ht=>by
  simp only[sS,List.mem_cons,List.mem_map,List.mem_filter]at ht
  simp only[cU,List.mem_cons,List.mem_map]
  rcases ht with e|⟨b,hb,e⟩
  ·exact .inl e
  ·exact .inr ⟨b,hb.1,e⟩) (by have:=List.length_filter_le (fun b=> !oA b) r.body;simp only[sS,List.length_cons,List.length_map];omega))
  (hvl _ (fun t ht=>by
   simp only[uR,List.mem_map,List.mem_filter]at ht
   simp only[cU,List.mem_cons,List.mem_map]
   obtain⟨b,hb,e⟩:=ht
   exact .inr ⟨b,hb.1,e⟩) (by have:=List.length_filter_le oA r.body;simp only[uR,List.length_map];omega))
 have v1:=aC2 (cU r) true false (hvl _ (fun _ h=>h) (by omega))
 have hvv:(iI (cU r)).length<=1000000:=Nat.le_trans (aC1 _) (hvl _ (fun _ h=>h) (by omega))
 have hA: ∀(i:Nat) (hi:i<(cU r).length) (hd:Bool),ACall prog 81 [eT (cU r)[i],bl hd] (fun v=>v=nt .i64 (iJ hd (cU r)[i])):=fun i hi hd=>bSr _ hd (Nat.le_trans (hsz _ (List.getElem_mem hi)) (by decide))
 have n1:=N8 (r.head.args.headD yL).name
 have hat: ∀{i:Nat} (hi:i<(cU r).length),(∀(k:Nat) (hk:k<(cU r).length),k<i->iJ (decide (k=0)) (cU r)[k]=0)->iJ (decide (i=0)) (cU r)[i]≠0->lC r=iJ (decide (i=0)) (cU r)[i]:=fun {i} hi hn hne=>by
  unfold lC
  rw[if_neg h8]
  by_cases h0:i=0
  ·subst h0
   rw[if_pos (by simpa[cU]using hne)]
   simp[cU]
  ·have h00:=hn 0 (by omega) (by omega)
   rw[if_neg (by simpa[cU]using h00)]
   obtain⟨hi',e⟩:=bSy (h:=r.head) (bs:=r.body) hi h0
   have e:(cU r)[i]=(r.body.map Lt.atom)[i - 1]:=e
   rw[decide_eq_false h0]at hne ⊢
   rw[e]at hne ⊢
   have:=aOu hi' (fun k hk hki=>by
    have:=hn (k+1) (by simpa[cU]using hk) (by omega)
    simpa[cU]using this) hne
   rw[if_pos (by rw[this];exact hne),this]
 have hrest:(∀(k:Nat) (hk:k<(cU r).length),iJ (decide (k=0)) (cU r)[k]=0)->lC r=if 5<(iI (cU r)).length then 11 else if D9 r=false then 7 else if wN r=true then 8 else 0:=fun hn=>by
  unfold lC
  rw[if_neg h8]
  have h00:=hn 0 (by omega)
  rw[if_neg (by simpa[cU]using h00)]
  rw[if_neg]
  ·rfl
  ·rw[Ne,Decidable.not_not]
   exact aOv fun k hk=>by
    have:=hn (k+1) (by simpa[cU]using hk)
    simpa[cU]using this
 have hrole:(∀(k:Nat) (hk:k<(cU r).length),iJ (decide (k=0)) (cU r)[k]=0)->r.head.name=sP->r.head.args.length=1:=fun hn he=>by
  have h0:=hn 0 (by omega)
  have h0:iJ true r.head=0:=by simpa[cU]using h0
  unfold iJ at h0
  split at h0
  ·cases h0
  ·rw[he]at h0
   have hk:wM sP=some ⟨sP,1,true,true⟩:=by kernel_rfl
   rw[hk]at h0
   unfold Q7 at h0
   dsimp only at h0
   split at h0
   ·cases h0
   ·rename_i hc
    exact Decidable.byContradiction fun hne=>hc (.inr hne)
 generalize hR:lC r=R at*
 obtain⟨h,bs⟩:=r
 dsimp only at*
 clear hvl hsz hlv hh hz
 generalize cU ⟨h,bs⟩=L at*
 generalize D9 ⟨h,bs⟩=sf at*
 generalize iI L=V at*
 have hlenT:True:=trivial
 refine aQ func42 call42 rfl (by simp[ntmps42]) ?_;simp only[ntmps42,results42]
 repeat' (first|(refine aA fun _ _=>?_)|refine zHg ?_|refine aH rfl (a1) (by simp) ?_|simp(disch:=omega) [go_sem,h8'])
 refine bL [1,3,14,15] [] (fun i:Nat=> [(16,nt .i64 i)]) (fun i:Nat=> []) (fun i:Nat=>L.length - i) (fun i:Nat=>i<=L.length/\ ∀(k:Nat) (hk:k<L.length),k<i->iJ (decide (k=0)) L[k]=0) (0) (Le.sub4 rfl (by simp[go_sem])) ⟨?_⟩ ?_
 ·exact⟨Nat.zero_le _,fun k _ hk=>absurd hk (Nat.not_lt_zero _)⟩
 intro i ⟨hi,hn⟩ AA hAA;simp only[kL,Nat.reduceBEq,Nat.reduceEqDiff]
 by_cases hlt:i<L.length
 ·have hu:=hA i hlt (decide (i=0))
  by_cases he:iJ (decide (i=0)) L[i]=0
  ·rw[he]at hu
   by_cases h0:i=0
   ·subst h0
    simp only[decide_true]at hu
    repeat' (first|(refine aA fun _ _=>?_)|refine zHg ?_|refine aH rfl (hu) (by simp) ?_|(refine(hAA.next (0+1) (Le.sub4 rfl (by simp[go_sem])) (by(try dsimp only);omega) ?_))|simp(disch:=omega) [go_sem,hlt])
    try any_goals omega
    all_goals exact⟨hlt,fun k hk hki=>by cases(show k=0 by omega);exact he⟩
   ·rw[decide_eq_false h0]at hu
    have h0': ¬(i:Int)=0:=by omega
    repeat' (first|(refine aA fun _ _=>?_)|refine zHg ?_|refine aH rfl (hu) (by simp) ?_|(refine(hAA.next (i+1) (Le.sub4 rfl (by simp[go_sem])) (by(try dsimp only);omega) ?_))|simp(disch:=omega) [go_sem,hlt,h0,h0'])
    try any_goals omega
    all_goals exact⟨hlt,fun k hk hki=>by rcases Nat.lt_or_eq_of_le (Nat.le_of_lt_succ hki)with h|rfl;exact hn k hk h;exact he⟩
  ·have:=hat hlt hn he
   rw[<-this]at hu he
   by_cases h0:i=0
   ·subst h0
    simp only[decide_true]at hu
    clear hA hat hrest hrole
    repeat' (first|(refine aA fun _ _=>?_)|refine zHg ?_|(refine aM [] ?_;simp[go_sem,hlt,he])|refine aH rfl (hu) (by simp) ?_|simp(disch:=omega) [go_sem,hlt,he])
   ·rw[decide_eq_false h0]at hu
    have h0': ¬(i:Int)=0:=by omega
    clear hA hat hrest hrole
    repeat' (first|(refine aA fun _ _=>?_)|refine zHg ?_|(refine aM [] ?_;simp[go_sem,hlt,he,h0,h0'])|refine aH rfl (hu) (by simp) ?_|simp(disch:=omega) [go_sem,hlt,he,h0,h0'])
 ·obtain rfl:i=L.length:=by omega
  have hr1:=hrest fun k hk=>hn k hk hk
  have hr2:=hrole fun k hk=>hn k hk hk
  clear hA hat hrest hrole hn
  by_cases h5:5<V.length
  ·rw[if_pos h5]at hr1
   have h5':(5:Int)<V.length:=by omega
   subst hr1
   repeat' (first|(refine aA fun _ _=>?_)|refine zHg ?_|(refine aM [] ?_;simp[go_sem,h5',hlenT])|(refine aH ?hl (v1) (by simp) ?_;(case hl=>(simp[go_sem,h5',hlenT];done)))|simp(disch:=omega) [go_sem,h5',hlenT])
  ·rw[if_neg h5]at hr1
   have h5': ¬(5:Int)<V.length:=by omega
   cases sf
   ·rw[if_pos rfl]at hr1
    subst hr1
    repeat' (first|(refine aA fun _ _=>?_)|refine zHg ?_|(refine aM [] ?_;simp[go_sem,h5',hlenT])|refine aH rfl (s1) (by simp) ?_|(refine aH ?hl (v1) (by simp) ?_;(case hl=>(simp[go_sem,h5',hlenT];done)))|simp(disch:=omega) [go_sem,h5',hlenT])
   ·rw[if_neg (by simp)]at hr1
    by_cases hro:h.name=sP
    ·have hl1:=hr2 hro
     obtain⟨hs,has⟩:=h
     simp only[bX,iT]at*
     subst hro
     rcases has with _|⟨x,_|⟨y,q⟩⟩
     ·simp at hl1
     ·obtain⟨xs,xas⟩:=x
      simp only[List.headD_cons,bX,iT]at n1
      by_cases hb0:bs.length=0
      ·have hb0': ¬(0:Int)<bs.length:=by omega
       by_cases hx0:xas.length=0
       ·have hx0': ¬(0:Int)<xas.length:=by omega
        cases hnm:lS xs
        ·rw[if_pos (by simp[wN,bX,iT,hnm])]at hr1
         rw[hnm]at n1
         subst hr1
         repeat' (first|(refine aA fun _ _=>?_)|refine zHg ?_|(refine aM [] ?_;simp[go_sem,h5',hb0',hx0',hx0,hb0,hlenT])|refine aH rfl (n1) (by simp) ?_|(refine aH ?hl (v1) (by simp) ?_;(case hl=>(simp[go_sem,h5',hb0',hx0',hx0,hb0,hlenT];done)))|(refine aH ?hl (s1) (by simp) ?_;(case hl=>(simp[go_sem,h5',hb0',hx0',hx0,hb0,hlenT];done)))|simp(disch:=omega) [go_sem,h5',hb0',hx0',hx0,hb0,hlenT])
        ·rw[if_neg (by simp[wN,bX,iT,hnm,hx0,hb0])]at hr1
         rw[hnm]at n1
         subst hr1
         repeat' (first|(refine aA fun _ _=>?_)|refine zHg ?_|(refine aM [] ?_;simp[go_sem,h5',hb0',hx0',hx0,hb0,hlenT])|refine aH rfl (n1) (by simp) ?_|(refine aH ?hl (v1) (by simp) ?_;(case hl=>(simp[go_sem,h5',hb0',hx0',hx0,hb0,hlenT];done)))|(refine aH ?hl (s1) (by simp) ?_;(case hl=>(simp[go_sem,h5',hb0',hx0',hx0,hb0,hlenT];done)))|simp(disch:=omega) [go_sem,h5',hb0',hx0',hx0,hb0,hlenT])
       ·have hx0':(0:Int)<xas.length:=by omega
        have hne: ¬xas= []:=fun e=>hx0 (by rw[e];rfl)
        rw[if_pos (by simp[wN,bX,iT,hne])]at hr1
        subst hr1
        repeat' (first|(refine aA fun _ _=>?_)|refine zHg ?_|(refine zgd ?_ ?_<;>(intro h;first|(exfalso;omega)|(simp only[h,zT])))|(refine aM [] ?_;simp[go_sem,h5',hb0',hx0',hb0,hlenT])|(refine aH ?hl (v1) (by simp) ?_;(case hl=>(simp[go_sem,h5',hb0',hx0',hb0,hlenT];done)))|(refine aH ?hl (s1) (by simp) ?_;(case hl=>(simp[go_sem,h5',hb0',hx0',hb0,hlenT];done)))|simp(disch:=omega) [go_sem,h5',hb0',hx0',hb0,hlenT])
      ·have hb0':(0:Int)<bs.length:=by omega
       have hne: ¬bs= []:=fun e=>hb0 (by rw[e];rfl)
       rw[if_pos (by simp[wN,bX,iT,hne])]at hr1
       subst hr1
       repeat' (first|(refine aA fun _ _=>?_)|refine zHg ?_|(refine zgd ?_ ?_<;>(intro h;first|(exfalso;omega)|(simp only[h,zT])))|(refine aM [] ?_;simp[go_sem,h5',hb0',hlenT])|(refine aH ?hl (v1) (by simp) ?_;(case hl=>(simp[go_sem,h5',hb0',hlenT];done)))|(refine aH ?hl (s1) (by simp) ?_;(case hl=>(simp[go_sem,h5',hb0',hlenT];done)))|simp(disch:=omega) [go_sem,h5',hb0',hlenT])
     ·simp at hl1
    ·rw[if_neg (by simp[wN,hro])]at hr1
     subst hr1
     repeat' (first|(refine aA fun _ _=>?_)|refine zHg ?_|(refine aM [] ?_;simp[go_sem,h5',hro,hlenT])|refine aH rfl (s1) (by simp) ?_|(refine aH ?hl (v1) (by simp) ?_;(case hl=>(simp[go_sem,h5',hro,hlenT];done)))|simp(disch:=omega) [go_sem,h5',hro,hlenT])
theorem bS0: ∀t:Tm,t.size<=1000000->ACall prog 87 [eT t] (fun r=>r=eT t):=by
 refine fL fun t ih hsz=>?_
 obtain⟨s,ts⟩:=t
 simp only[bX]at ih
 rw[eU,bX]at hsz
 have hlen:=qZ ts
 refine ACall.loose (x:= .agg [.sc (.string s),.list false (decide (ts.length=0)) (ts.map aO)]) rfl ?_
 refine aQ func87 call87 rfl (by simp[ntmps87]) ?_;simp only[ntmps87,results87]
 repeat' (first|(refine aA fun _ _=>?_)|refine zHg ?_|simp(disch:=omega) [go_sem])
 refine bL [2,3,10,11] [3,900] (fun i:Nat=> [(12,nt .i64 i)]) (fun i:Nat=>(3,⟨false,false,false,2,[.agg [.sc (.string s),if i=0 then .list false true []else .ref 900 0 i]],0⟩)::(if i=0 then[]else[(900,⟨true,false,false,2,(ts.take i).map aO,0⟩)])) (fun i:Nat=>ts.length - i) (fun i:Nat=>i<=ts.length) (0) (Le.sub4 rfl (by simp[go_sem])) ⟨?_⟩ ?_
 ·exact Nat.zero_le _
 intro i hi AA hAA;simp only[kL,Nat.reduceBEq,Nat.reduceEqDiff]
 have hln:(ts.take i).length=i:=by rw[List.length_take];omega
 by_cases hlt:i<ts.length
 ·have hu:=ih _ (List.getElem_mem hlt) (by have:=yA hlt;omega)
  have hnx:=eZ hlt
  by_cases h0:i=0
  ·subst h0
   repeat' (first|(refine aA fun _ _=>?_)|refine zHg ?_|refine dP rfl (hu) rfl (by simp) ?_|(refine(hAA.next (0+1) (Le.renSub [(21,900)] [(900,21)] (by simp[go_sem,hnx]) (by simp[go_sem,hnx]) (Le.sub4 rfl (by simp[go_sem,hnx]))) (by(try dsimp only);omega) ?_))|simp(disch:=omega) [go_sem,hlt]|refine zDr 4 aS ?_|fail)
   try any_goals omega
   exact⟨hlt⟩
  ·generalize ts.take i=A at*
   repeat' (first|(refine aA fun _ _=>?_)|refine zHg ?_|refine dP rfl (hu) rfl (by simp) ?_|(refine(hAA.next (i+1) (Le.sub4 rfl (by simp[go_sem,hnx,hln])) (by(try dsimp only);omega) ?_))|simp(disch:=omega) [go_sem,hlt,h0,hln]|refine zAo ?_|refine zDr 4 aS ?_|fail)
   try any_goals omega
   exact⟨hlt⟩
 ·obtain rfl:i=ts.length:=by omega
  rw[List.take_length]
  by_cases h0:ts.length=0
  ·obtain rfl:=List.eq_nil_of_length_eq_zero h0
   repeat' (first|(refine aA fun _ _=>?_)|refine zHg ?_|(refine aM [] ?_;simp[go_sem])|simp(disch:=omega) [go_sem])
  ·repeat' (first|(refine aA fun _ _=>?_)|refine zHg ?_|(refine aM [] ?_;simp[go_sem,h0])|simp(disch:=omega) [go_sem,h0])
theorem bS1 (x u:Tm):ACall prog 86 [eT x,.iptr true [eT u] 0 0] (fun r=>r=bl (decide (dJ x u=0))):=by
 have hc:=aCd x u
 generalize dJ x u=c at*
 refine aQ func86 call86 rfl (by simp[ntmps86]) ?_;simp only[ntmps86,results86]
 repeat' (first|(refine aA fun _ _=>?_)|refine zHg ?_|(refine aM [] ?_;simp[go_sem])|refine aH rfl (hc) (by simp) ?_|simp(disch:=omega) [go_sem])
theorem bS2 {n:ByteArray} {ts:List Tm}:yO (.mk n ts)=(decide (n=aDg)&&decide (ts.length=0)):=rfl
theorem bS3 {n:ByteArray} {has:List Tm} {bs:List Lt}:E1 ⟨.mk n has,bs⟩=(decide (n=sP)&&(decide (has.length=1)&&decide (bs.length=0))):=rfl
theorem bS4 (t:Tm):ACall prog 89 [eT t] (fun r=>r=bl (yO t)):=by
 obtain⟨n,ts⟩:=t
 rw[bS2]
 by_cases h1:n=aDg
 ·subst h1
  by_cases h0:ts.length=0
  ·rw[decide_eq_true rfl,decide_eq_true h0]
   refine aQ func89 call89 rfl (by simp[ntmps89]) ?_;simp only[ntmps89,results89]
   repeat' (first|(refine aA fun _ _=>?_)|refine zHg ?_|(refine aM [] ?_;simp[go_sem,h0])|simp(disch:=omega) [go_sem,h0])
  ·rw[decide_eq_true rfl,decide_eq_false h0]
   refine aQ func89 call89 rfl (by simp[ntmps89]) ?_;simp only[ntmps89,results89]
   repeat' (first|(refine aA fun _ _=>?_)|refine zHg ?_|(refine aM [] ?_;simp[go_sem,h0])|simp(disch:=omega) [go_sem,h0])
 ·rw[decide_eq_false h1,Bool.false_and]
  refine aQ func89 call89 rfl (by simp[ntmps89]) ?_;simp only[ntmps89,results89]
  repeat' (first|(refine aA fun _ _=>?_)|refine zHg ?_|(refine aM [] ?_;simp[go_sem,h1])|simp(disch:=omega) [go_sem,h1])
def rN (l:List Rl) (i:Nat):List Tm:=(((l.take i).filter E1).map fun r=>r.head.args.headD yL).foldl yN []
theorem aOw {l:List Rl} {i:Nat} (hi:i<l.length):rN l (i+1)=if E1 l[i]=true then yN (rN l i) (l[i].head.args.headD yL)else rN l i:=by
 unfold rN
 rw[eZ hi,List.filter_append,List.map_append,List.foldl_append]
 simp only[List.filter_cons,List.filter_nil]
 cases E1 l[i]<;>simp
theorem bS5 {a:List Tm} {t:Tm}:(yN a t).length<=a.length+1:=by
 unfold yN;split
 ·omega
 ·simp
theorem aOx {l:List Rl}: ∀{i:Nat},i<=l.length->(rN l i).length<=i
 |0,_=>by simp[rN]
 |i+1,h=>by
  rw[aOw (by omega)]
  have:=aOx (l:=l) (i:=i) (by omega)
  split
  ·exact Nat.le_trans bS5 (by omega)
  ·omega
theorem bS6 (l:List Rl):rN l l.length=oB l:=by unfold rN oB;rw[List.take_length]
theorem aOy (l:List Rl) (le fu:Bool) (hl:l.length<=1000000) (hz: ∀r∈l,r.head.size<=1000000):ACall prog 44 [.list le fu (l.map bH)] (fun v=>v= .own 2 ((oB l).map aO)):=by
 rw[<-bS6]
 refine aQ func44 call44 rfl (by simp[ntmps44]) ?_;simp only[ntmps44,results44]
 repeat' (first|(refine aA fun _ _=>?_)|refine zHg ?_|simp(disch:=omega) [go_sem])
 refine bL [7,8] [900] (fun y:Nat×List Tm=> [(9,nt .i64 y.1),(3,.ref 900 0 y.2.length)]) (fun y:Nat×List Tm=> [(900,⟨true,false,false,2,y.2.map aO,0⟩)]) (fun y:Nat×List Tm=>l.length - y.1) (fun y:Nat×List Tm=>y.1<=l.length/\y.2=rN l y.1) ((0,[])) (by refine Le.trans ?_ (Le.nil (i:=3) (T:=900) (es:=2) rfl);exact(Le.sub4 rfl (by simp[go_sem,List.map_nil]))) ⟨?_⟩ ?_
 ·exact⟨Nat.zero_le _,by simp[rN]⟩
 intro⟨i,A⟩ ⟨hi,hA⟩ AA hAA;simp only[kL,Nat.reduceBEq,Nat.reduceEqDiff]
 dsimp only at*
 by_cases hlt:i<l.length
 ·have hn:=aOw hlt
  have hln:A.length<=i:=by rw[hA];exact aOx hi
  rw[<-hA]at hn
  have hzr:=hz _ (List.getElem_mem hlt)
  clear hA hz
  have hlenT:True:=trivial
  generalize hbi:l[i]=r at*
  obtain⟨⟨n,has⟩,bs⟩:=r
  rw[bS3]at hn
  simp only[bX]at hn
  by_cases h1:n=sP
  ·subst h1
   by_cases h2:has.length=1
   ·rcases has with _|⟨x,_|⟨y,q⟩⟩
    ·simp at h2
    ·by_cases h3:bs.length=0
     ·have h3': ¬(0:Int)<bs.length:=by omega
      rw[decide_eq_true rfl,decide_eq_true h2,decide_eq_true h3]at hn
      simp only[Bool.and_self,if_true,List.headD_cons]at hn
      have hx:x.size<=1000000:=by
       have:=B6 (l:= [x]) (t:=x) (by simp)
       rw[eU,bX]at hzr
       omega
      have hcl:=bS0 x hx
      have hc:=bSk A true false 86 x (fun u=>decide (dJ u x=0)) (fun u _=>by rw[oS];exact bS1 u x)
      unfold yN at hn
      cases hq:A.any fun u=>decide (dJ u x=0)
      ·rw[hq]at hn hc
       simp only[Bool.false_eq_true,if_false]at hn
       repeat' (first|(refine aA fun _ _=>?_)|refine zHg ?_|refine aH rfl (hcl) (by simp) ?_|(refine aH ?hl (hc) (by simp) ?_;(case hl=>(simp[go_sem,hlt,hbi,h3,h3',hlenT];done)))|(refine(hAA.next ((i+1,A++ [x])) (Le.sub4 rfl (by simp[go_sem])) (by(try dsimp only);omega) ?_))|simp(disch:=omega) [go_sem,hlt,hbi,h3,h3',hlenT]|refine zAo ?_|fail)
       try any_goals omega
       all_goals exact⟨hlt,hn.symm⟩
      ·rw[hq]at hn hc
       simp only[if_true]at hn
       repeat' (first|(refine aA fun _ _=>?_)|refine zHg ?_|(refine aH ?hl (hc) (by simp) ?_;(case hl=>(simp[go_sem,hlt,hbi,h3,h3',hlenT];done)))|(refine(hAA.next ((i+1,A)) (Le.sub4 rfl (by simp[go_sem])) (by(try dsimp only);omega) ?_))|simp(disch:=omega) [go_sem,hlt,hbi,h3,h3',hlenT])
       try any_goals omega
       all_goals exact⟨hlt,hn.symm⟩
     ·have h3':(0:Int)<bs.length:=by omega
      rw[decide_eq_false h3,Bool.and_false,Bool.and_false,if_neg (by simp)]at hn
      repeat' (first|(refine aA fun _ _=>?_)|refine zHg ?_|(refine zqd ?_ ?_<;>(intro h;first|(exfalso;omega)|(simp only[h,zT])))|(refine(hAA.next ((i+1,A)) (Le.sub4 rfl (by simp[go_sem])) (by(try dsimp only);omega) ?_))|simp(disch:=omega) [go_sem,hlt,hbi,h3'])
      try any_goals omega
      all_goals exact⟨hlt,hn.symm⟩
    ·simp at h2
   ·have h2': ¬(has.length:Int)=1:=by omega
    rw[decide_eq_false h2,Bool.false_and,Bool.and_false,if_neg (by simp)]at hn
    repeat' (first|(refine aA fun _ _=>?_)|refine zHg ?_|(refine(hAA.next ((i+1,A)) (Le.sub4 rfl (by simp[go_sem])) (by(try dsimp only);omega) ?_))|simp(disch:=omega) [go_sem,hlt,hbi,h2'])
    try any_goals omega
    all_goals exact⟨hlt,hn.symm⟩
  ·rw[decide_eq_false h1,Bool.false_and,if_neg (by simp)]at hn
   repeat' (first|(refine aA fun _ _=>?_)|refine zHg ?_|(refine(hAA.next ((i+1,A)) (Le.sub4 rfl (by simp[go_sem])) (by(try dsimp only);omega) ?_))|simp(disch:=omega) [go_sem,hlt,hbi,h1])
   try any_goals omega
   all_goals exact⟨hlt,hn.symm⟩
 ·obtain rfl:i=l.length:=by omega
  subst hA
  repeat' (first|(refine aA fun _ _=>?_)|refine zHg ?_|(refine aM [] ?_;simp[go_sem])|simp(disch:=omega) [go_sem])
theorem bS7 (l:List Rl) (le fu:Bool) (hl:l.length<=1000000) (hz: ∀r∈l,r.head.size<=1000000):ACall prog 45 [.list le fu (l.map bH)] (fun v=>v=nt .i64 (E2 l)):=by
 have h1:=aOy l le fu hl hz
 have h2:=aOr (oB l) true false 89 yO (fun t _=>by rw[oS];exact bS4 t)
 have e:fG yO (oB l)=E2 l:=rfl
 rw[e]at h2
 generalize E2 l=c at*
 generalize oB l=R at*
 have hlenT:True:=trivial
 refine aQ func45 call45 rfl (by simp[ntmps45]) ?_;simp only[ntmps45,results45]
 repeat' (first|(refine aA fun _ _=>?_)|refine zHg ?_|(refine aM [] ?_;simp[go_sem,hlenT])|refine aH rfl (h1) (by simp) ?_|(refine aH ?hl (h2) (by simp) ?_;(case hl=>(simp[go_sem,hlenT];done)))|simp(disch:=omega) [go_sem,hlenT])
abbrev kM {α:Type} (e:α->AV) (p:ByteArray×α):AV:= .tup [.sc (.string p.1),e p.2]
theorem yS (a b:ByteArray):iF (.string a) (.string b)=some (decide (a=b)):=rfl
theorem S8 {α:Type} {e:α->AV} {s:ByteArray}: ∀{l:List (ByteArray×α)} {j i:Nat} (hj:j<l.length),l[j].1=s->(∀(k:Nat) (hk:k<l.length),k<j-> ¬l[k].1=s)->cI (.string s) (l.map (kM e)) i=some (some (i+j,e l[j].2))
 |p::l,0,i,_,h,_=>by
  have h:p.1=s:=h
  rw[List.map_cons,cI,yS,decide_eq_true h.symm]
  rfl
 |p::l,j+1,i,hj,h,hn=>by
  have h0: ¬p.1=s:=hn 0 (by simp) (by omega)
  rw[List.map_cons,cI,yS,decide_eq_false (fun e=>h0 e.symm)]
  have:=S8 (e:=e) (l:=l) (j:=j) (i:=i+1) (by simpa using hj) h (fun k hk hkj=>hn (k+1) (by simpa using hk) (by omega))
  simp only[this]
  simp only[List.getElem_cons_succ,Option.some.injEq,Prod.mk.injEq,and_true]
  omega
theorem S9 {α:Type} {e:α->AV} {s:ByteArray}: ∀{l:List (ByteArray×α)} {i:Nat},(∀p∈l,¬p.1=s)->cI (.string s) (l.map (kM e)) i=some none
 | [],_,_=>rfl
 |p::l,i,h=>by
  rw[List.map_cons,cI,yS,decide_eq_false (fun e=>h p (by simp) e.symm)]
  exact S9 fun q hq=>h q (by simp[hq])
theorem aEc {α:Type} (l:List (ByteArray×α)) (s:ByteArray):(∀p∈l,¬p.1=s)\/ ∃(j:Nat) (hj:j<l.length),l[j].1=s/\ ∀(k:Nat) (hk:k<l.length),k<j-> ¬l[k].1=s:=by
 induction l with
 |nil=>exact .inl (by simp)
 |cons p l ih=>
  by_cases h:p.1=s
  ·exact .inr ⟨0,by simp,h,fun k _ hk=>by omega⟩
  ·rcases ih with h1|⟨j,hj,h1,h2⟩
   ·refine .inl fun q hq=>?_
    rcases List.mem_cons.1 hq with rfl|hq
    ·exact h
    ·exact h1 q hq
   ·refine .inr ⟨j+1,by simpa using hj,h1,fun k hk hkj=>?_⟩
    cases k with
    |zero=>exact h
    |succ k=>exact h2 k (by simpa using hk) (by omega)
theorem aOz {α:Type} {e:α->AV} {s:ByteArray} {l:List (ByteArray×α)} (h: ∀p∈l,¬p.1=s) (v:AV):fC (.string s) v (l.map (kM e))=some (l.map (kM e)++ [.tup [.sc (.string s),v]]):=by
 unfold fC
 rw[S9 h]
theorem aO0 {α:Type} {e:α->AV} {s:ByteArray} {l:List (ByteArray×α)} {j:Nat} (hj:j<l.length) (h:l[j].1=s) (hn: ∀(k:Nat) (hk:k<l.length),k<j-> ¬l[k].1=s) (v:α):fC (.string s) (e v) (l.map (kM e))=some ((l.set j (s,v)).map (kM e)):=by
 unfold fC
 rw[S8 hj h hn]
 simp only[Nat.zero_add,List.map_set]
abbrev iK (n:Nat):AV:=nt .i64 n
abbrev dH (l:List (ByteArray×Nat)):AObj:=⟨true,false,false,0,l.map (kM iK),1⟩
def T0 (asc:List (ByteArray×Nat)) (met:List Tm):Prop:=(∀t∈met,(t.name,t.args.length)∈asc)/\(∀p∈asc,∃t∈met,t.name=p.1/\t.args.length=p.2)/\asc.length<=met.length
theorem aEd {met:List Tm} {t:Tm}:yM met t=true↔ ∀u∈met,u.name=t.name->u.args.length=t.args.length:=by
 unfold yM
 rw[List.all_eq_true]
 refine forall_congr' fun u=>forall_congr' fun _=>?_
 by_cases h:u.name=t.name<;>simp[h]
def arU (asc:List (ByteArray×Nat)):Prop:= ∀p∈asc,∀q∈asc,p.1=q.1->p.2=q.2
def yT:Option Nat->Int
 |some i=>i
 |none=> -1
theorem bS8 (l:List Rl) (le fu:Bool) (hl:l.length<=1000000) (hb: ∀r∈l,r.body.length<=8):ACall prog 43 [.list le fu (l.map bH)] (fun v=>v=nt .i64 (yT (sU [] l 0))):=by
 have hcA: ∀(i:Nat) (hi:i<l.length),ACall prog 80 [bH l[i]] (fun v=>v= .own 2 ((cU l[i]).map aO)):=fun i hi=>aOt _ (Nat.le_trans (hb _ (List.getElem_mem hi)) (by decide))
 generalize hR:sU [] l 0=R
 refine aQ func43 call43 rfl (by simp[ntmps43]) ?_;simp only[ntmps43,results43]
 repeat' (first|(refine aA fun _ _=>?_)|refine zHg ?_|simp(disch:=omega) [go_sem])
 refine bL [3,11,12] [10] (fun y:Nat×List (ByteArray×Nat)×List Tm=> [(13,nt .i64 y.1)]) (fun y:Nat×List (ByteArray×Nat)×List Tm=> [(10,dH y.2.1)]) (fun y:Nat×List (ByteArray×Nat)×List Tm=>l.length - y.1) (fun y:Nat×List (ByteArray×Nat)×List Tm=>y.1<=l.length/\T0 y.2.1 y.2.2/\arU y.2.1/\y.2.2.length<=9*y.1/\sU y.2.2 (l.drop y.1) y.1=R) ((0,[],[])) (Le.sub4 rfl (by simp[go_sem,dH,List.map_nil])) ⟨?_⟩ ?_
 ·exact⟨Nat.zero_le _,⟨by simp,by simp,Nat.le_refl _⟩,fun p hp=>by simp at hp,Nat.le_refl _,hR⟩
 intro⟨i,asc,met⟩ ⟨hi,har,hau,hml,hd⟩ AA hAA;simp only[kL,Nat.reduceBEq,Nat.reduceEqDiff]
 dsimp only at*
 clear hR
 by_cases hlt:i<l.length
 ·have hcr:=hcA i hlt
  have hb8:=hb _ (List.getElem_mem hlt)
  rw[List.drop_eq_getElem_cons hlt,sU]at hd
  have hal:(cU l[i]).length=l[i].body.length+1:=by simp[cU]
  generalize hbi:l[i]=r at*
  generalize hD:sU (met++cU r) (l.drop (i+1)) (i+1)=D at hd
  generalize cU r=at_ at*
  clear hcA hb
  have hmet0:met.length<=9000000:=by omega
  repeat' (first|(refine aA fun _ _=>?_)|refine zHg ?_|refine aH rfl (hcr) (by simp) ?_|simp(disch:=omega) [go_sem,hlt,hbi,dH])
  refine bL [3,4,11,12,13,19,20] [10,5] (fun z:Nat×List (ByteArray×Nat)=> [(21,nt .i64 z.1)]) (fun z:Nat×List (ByteArray×Nat)=> [(10,dH z.2)]) (fun z:Nat×List (ByteArray×Nat)=>at_.length - z.1) (fun z:Nat×List (ByteArray×Nat)=>z.1<=at_.length/\T0 z.2 (met++at_.take z.1)/\arU z.2/\(if E0 (met++at_.take z.1) (at_.drop z.1)=true then D else some i)=R) ((0,asc)) (Le.sub4 rfl (by simp[go_sem,dH])) ⟨?_⟩ ?_
  ·refine⟨Nat.zero_le _,by simpa using har,hau,by simpa using hd⟩
  clear hd har hau
  intro z hin AB hAB;simp only[kL,Nat.reduceBEq,Nat.reduceEqDiff]
  obtain⟨k,as2⟩:=z
  obtain⟨hk,har,hau,hd⟩:=hin
  dsimp only at*
  by_cases hkl:k<at_.length
  ·rw[List.drop_eq_getElem_cons hkl,E0]at hd
   have htk:=eZ hkl
   have hasl:as2.length<=9000100:=by
    have:=har.2.2
    simp only[List.length_append,List.length_take]at this
    omega
   generalize hbk:at_[k]=t at*
   obtain⟨s,ts⟩:=t
   have hmr:as2.length<=140737488355327:=by omega
   have hmr0:as2.length<=140737488355328:=by omega
   rcases aEc as2 s with hno|⟨j,hj,hjs,hjn⟩
   ·have hm:=S9 (e:=iK) (i:=0) hno
    have hp:fC (.string s) (.sc (.int .i64 (ts.length:Int))) (as2.map (kM iK))=some (as2.map (kM iK)++ [.tup [.sc (.string s),.sc (.int .i64 (ts.length:Int))]]):=aOz (e:=iK) hno (iK ts.length)
    have hao:yM (met++at_.take k) (.mk s ts)=true:=aEd.2 fun u hu hun=>by
     have:=har.1 u hu
     exact absurd hun (hno _ this)
    rw[hao,Bool.true_and,List.append_assoc,<-htk]at hd
    have hr2:T0 (as2++ [(s,ts.length)]) (met++at_.take (k+1)):=by
     rw[htk,<-List.append_assoc]
     refine⟨fun u hu=>?_,fun p hp=>?_,by simp only[List.length_append,List.length_cons,List.length_nil]at*;have:=har.2.2;simp only[List.length_append]at this;omega⟩
     ·rcases List.mem_append.1 hu with hu|hu
      ·exact List.mem_append_left _ (har.1 u hu)
      ·simp at hu;subst hu;simp[iT,bX]
     ·rcases List.mem_append.1 hp with hp|hp
      ·obtain⟨u,hu,e⟩:=har.2.1 p hp
       exact⟨u,List.mem_append_left _ hu,e⟩
      ·simp at hp;subst hp;exact⟨.mk s ts,by simp,rfl,rfl⟩
    have hu2:arU (as2++ [(s,ts.length)]):=fun p hp q hq e=>by
     rcases List.mem_append.1 hp with hp|hp<;>rcases List.mem_append.1 hq with hq|hq
     ·exact hau p hp q hq e
     ·simp at hq;subst hq;exact absurd e (hno p hp)
     ·simp at hp;subst hp;exact absurd e.symm (hno q hq)
     ·simp at hp hq;rw[hp,hq]
    clear har hau
    repeat' (first|(refine aA fun _ _=>?_)|refine zHg ?_|(refine(hAB.next ((k+1,as2++ [(s,ts.length)])) (Le.sub4 rfl (by simp[go_sem,dH,List.map_append,List.map_cons,List.map_nil])) (by(try dsimp only);omega) ?_))|simp(disch:=omega) [go_sem,hkl,hbk,hm,hp,hmr,dH])
    try any_goals omega
    all_goals exact⟨hkl,hr2,hu2,hd⟩
   ·have hm:=S8 (e:=iK) (i:=0) hj hjs hjn
    rw[Nat.zero_add]at hm
    have hjm:as2[j]∈as2:=List.getElem_mem hj
    by_cases hq:as2[j].2=ts.length
    ·have hset:as2.set j (s,ts.length)=as2:=by
      rw[<-hq,<-hjs]
      exact List.set_getElem_self hj
     have hp:fC (.string s) (.sc (.int .i64 (ts.length:Int))) (as2.map (kM iK))=some ((as2.set j (s,ts.length)).map (kM iK)):=aO0 (e:=iK) hj hjs hjn ts.length
     rw[hset]at hp
     have hao:yM (met++at_.take k) (.mk s ts)=true:=aEd.2 fun u hu hun=>by
      have h1:=har.1 u hu
      have:=hau _ h1 _ hjm (by rw[hjs];exact hun)
      rw[bX,<-hq];exact this
     rw[hao,Bool.true_and,List.append_assoc,<-htk]at hd
     have hr2:T0 as2 (met++at_.take (k+1)):=by
      rw[htk,<-List.append_assoc]
      refine⟨fun u hu=>?_,fun p hp=>?_,by have:=har.2.2;simp only[List.length_append,List.length_cons,List.length_nil]at*;omega⟩
      ·rcases List.mem_append.1 hu with hu|hu
       ·exact har.1 u hu
       ·simp only[List.mem_singleton]at hu
        subst hu
        rw[iT,bX,<-hjs,<-hq];exact hjm
      ·obtain⟨u,hu,e⟩:=har.2.1 p hp
       exact⟨u,List.mem_append_left _ hu,e⟩
     clear har
     rw[hq]at hm
     repeat' (first|(refine aA fun _ _=>?_)|refine zHg ?_|(refine(hAB.next ((k+1,as2)) (Le.sub4 rfl (by simp[go_sem,dH])) (by(try dsimp only);omega) ?_))|simp(disch:=omega) [go_sem,hkl,hbk,hm,hp,hmr0,dH])
     try any_goals omega
     all_goals exact⟨hkl,hr2,hau,hd⟩
    ·have hao:yM (met++at_.take k) (.mk s ts)=false:=by
      rw[Bool.eq_false_iff]
      intro h
      obtain⟨u,hu,e1,e2⟩:=har.2.1 _ hjm
      have:=aEd.1 h u hu (by rw[e1,hjs,iT])
      exact hq (by rw[<-e2,this,bX])
     rw[hao,Bool.false_and,if_neg (by simp)]at hd
     subst hd
     unfold yT
     have hq': ¬(as2[j].2:Int)=ts.length:=by omega
     clear har hau
     generalize as2[j].2=n at*
     repeat' (first|(refine aA fun _ _=>?_)|refine zHg ?_|(refine aM [] ?_;simp[go_sem,hkl,hbk,hm,hq',dH])|simp(disch:=omega) [go_sem,hkl,hbk,hm,hq',dH])
  ·obtain rfl:k=at_.length:=by omega
   rw[List.take_length,List.drop_length,E0,if_pos rfl]at hd
   rw[List.take_length]at har
   repeat' (first|(refine aA fun _ _=>?_)|refine zHg ?_|(refine(hAA.next ((i+1,as2,met++at_)) (Le.sub4 rfl (by simp[go_sem,dH])) (by(try dsimp only);omega) ?_))|simp(disch:=omega) [go_sem,dH])
   try any_goals omega
   all_goals exact⟨hlt,har,hau,by simp only[List.length_append];omega,by rw[hD];exact hd⟩
 ·obtain rfl:i=l.length:=by omega
  rw[List.drop_length,sU]at hd
  subst hd
  repeat' (first|(refine aA fun _ _=>?_)|refine zHg ?_|(refine aM [] ?_;simp[go_sem,dH,yT])|simp(disch:=omega) [go_sem,dH,yT])
theorem aO1 {α:Type} [DecidableEq α] {a b:List α} (ha:a.Nodup) (hb:b.Nodup) (h: ∀x,x∈a↔x∈b):a.Perm b:=by
 rw[List.perm_iff_count]
 intro x
 have h1:=List.nodup_iff_count.1 ha x
 have h2:=List.nodup_iff_count.1 hb x
 have h3:=List.count_pos_iff (a:=x) (l:=a)
 have h4:=List.count_pos_iff (a:=x) (l:=b)
 have h5:=h x
 by_cases hx:x∈a
 ·have:=h3.2 hx;have:=h4.2 (h5.1 hx);omega
 ·have: ¬0<a.count x:=fun e=>hx (h3.1 e)
  have: ¬0<b.count x:=fun e=>hx (h5.2 (h4.1 e))
  omega
theorem aO2 {is:List Nat} {n i:Nat} (hn:is.Nodup) (hl: ∀j∈is,j<n) (hi:i<n) (hni:i∉is):is.length<n:=by
 have h:is.Perm ((List.range n).filter (· ∈is)):=aO1 hn (List.Nodup.sublist (List.filter_sublist) List.nodup_range) fun x=>by simp;exact fun hx=>hl x hx
 rw[h.length_eq]
 have:=List.length_filter_lt_length_iff_exists (p:=(· ∈is)) (l:=List.range n)|>.2 ⟨i,by simpa using hi,by simpa using hni⟩
 simpa using this
theorem aO3 {α:Type} {ks:List α} {f:Nat->α} {is:List Nat} (hf: ∀(i:Nat) (hi:i<ks.length),f i=ks[i]) (hn:is.Nodup) (hl: ∀j∈is,j<ks.length) (ha: ∀i,i<ks.length->i∈is):(is.map f).Perm ks:=by
 have h:is.Perm (List.range ks.length):=aO1 hn List.nodup_range fun x=>by simp;exact⟨hl x,ha x⟩
 refine(h.map f).trans (.of_eq ?_)
 refine List.ext_getElem (by simp) fun i h1 h2=>?_
 rw[List.getElem_map,List.getElem_range]
 exact hf i h2
abbrev kN (hd:LH) (l:List ByteArray):aF:= [(2000,eA true (hd.st .ready none) [.ptr 1000 0 0]),(1000,⟨false,false,true,1,[.ref 1001 0 l.length],0⟩),(1001,⟨true,false,true,1,l.map aI,0⟩)]
abbrev fH (hd:LH) (l:List ByteArray):aF:= [(2000,eA true (hd.st .ready none) [.ptr 1000 0 0]),(1000,⟨false,false,true,1,[.ref 1002 0 l.length],0⟩),(1002,⟨true,false,false,1,l.map aI,0⟩)]
abbrev dN (w:ByteArray->Value) (ks:List ByteArray):AObj:=⟨true,false,true,0,ks.map (qY Value.string fun k=> .sc (w k)),1⟩
abbrev tF (w:ByteArray->Value) (ks:List ByteArray) (bs:List Nat) (c:Nat):AObj:=⟨true,false,true,0,lO (ks.map (qY Value.string fun k=> .sc (w k))) bs c,1⟩
theorem bS9 (ks:List ByteArray) (w:ByteArray->Value) (hb:ks.length<=1000000) (hd:LH) (hY: ∀(l:List ByteArray) (x:ByteArray),l.length<1000000->zU prog [.yl 2000,aI x] (kN hd l) (fun r o'=>r=bl true/\o'=fH hd (l++ [x]))):
 MCall prog 181 [.yl 2000,.ptr 1003 0 0] (kN hd []++ [(1003,⟨false,false,true,1,[.mp 1004],0⟩),(1004,dN w ks)])
  (fun r o'=>r= .tup []/\ ∃l:List ByteArray,l.Perm ks/\ ∃(bs:List Nat) (c:Nat),o'=fH hd l++ [(1003,⟨false,false,true,1,[.mp 1004],0⟩),(1004,tF w ks bs c)]):=by
 refine dC func181 call181 rfl (by simp[ntmps181]) ?_;simp only[ntmps181,results181]
 repeat' (first|(refine aA fun _ _=>?_)|refine zHg ?_|simp(disch:=omega) [go_sem])
 refine aJk (L:=1004) rfl rfl (by decide+kernel) (by decide) (by simp) fun bs c hbl hbn hbc=>?_
 rw[List.length_map]at hbl
 repeat' (first|(refine aA fun _ _=>?_)|refine zHg ?_|simp(disch:=omega) [go_sem])
 refine bL [0,5] [2000,1000,1001,5,1004] (fun z:List Nat×List ByteArray=> []) (fun z:List Nat×List ByteArray=> [(2000,eA true (hd.st .ready none) [.ptr 1000 0 0]),(1000,⟨false,false,true,1,[.ref 1001 0 z.2.length],0⟩),(1001,⟨true,false,false,1,z.2.map aI,0⟩),(5,gN 1004 c false bs z.1),(1004,tF w ks bs c)]) (fun z:List Nat×List ByteArray=>ks.length - z.1.length) (fun z:List Nat×List ByteArray=>z.1.Nodup/\(∀i∈z.1,i<ks.length)/\z.2=z.1.map (ks.getD · default)) (([],[])) (by refine Le.trans ?_ (Le.unpin 1001 rfl);exact(Le.sub4 rfl (by simp[go_sem,kN,uH,List.map_nil]))) ⟨?_⟩ ?_
 ·exact⟨List.nodup_nil,by simp,rfl⟩
 intro⟨is,l⟩ ⟨hin,hil,hlk⟩ AA hAA;simp only[kL,Nat.reduceBEq,Nat.reduceEqDiff]
 dsimp only at*
 have hll:l.length=is.length:=by rw[hlk,List.length_map]
 repeat' (first|(refine aA fun _ _=>?_)|refine zHg ?_|simp(disch:=omega) [go_sem])
 refine aJn (L:=1004) rfl rfl rfl (by simp) hbl hbn hbc hil (fun hall=>?_) (fun i hi hni=>?_)
 ·have hp:l.Perm ks:=hlk▸aO3 (fun i hi=>by simp[List.getD_eq_getElem?_getD,List.getElem?_eq_getElem hi]) hin hil hall
  repeat' (first|(refine aA fun _ _=>?_)|refine zHg ?_|simp(disch:=omega) [go_sem])
  refine nS ⟨14,[],fH hd l++ [(1003,⟨false,false,true,1,[.mp 1004],0⟩),(1004,tF w ks bs c)]⟩ [] (Le.renSub [(1001,1002),(1002,1001)] [(1002,1001),(1001,1002)] (by simp[go_sem,fH]) (by simp[go_sem,fH]) (Le.sub4 rfl (by simp[go_sem,fH]))) (by simp[go_sem,fH]) ⟨rfl,l,hp,bs,c,rfl⟩
 ·have hlx:is.length<ks.length:=aO2 hin hil hi hni
  have hla:(is++ [i]).length=is.length+1:=by simp
  have hy:=hY l ks[i] (by omega)
  have hkx:ks.getD i default=ks[i]:=by simp[List.getD_eq_getElem?_getD,List.getElem?_eq_getElem hi]
  generalize hx:ks[i]=x at*
  repeat' (first|(refine aA fun _ _=>?_)|refine zHg ?_|simp(disch:=omega) [go_sem,aI,oG])
  refine aJo (L:=1004) (i:=i) rfl rfl rfl (by simp) hbl hi ?_
  rw[hx]
  repeat' (first|(refine aA fun _ _=>?_)|refine zHg ?_|simp(disch:=omega) [go_sem,aI,oG])
  refine aJa [] [] 10000 _ _ (Fits.mk' (by simp[go_sem,kN,fH,aI]) (by simp[go_sem,kN,fH,aI])) (by simp[go_sem,kN,fH,aI]) (by simp[go_sem,kN,fH,aI]) (hy) (by simp[go_sem,kN,fH,aI]) (by simp[go_sem,kN,fH,aI]) ?_
  repeat' (first|(refine aA fun _ _=>?_)|refine zHg ?_|(refine(hAA.next ((is++ [i],l++ [x])) (Le.renSub [(11002,1001),(1001,11002)] [(1001,11002),(11002,1001)] (by simp[go_sem,fH,aI,gN,List.map_append,List.map_cons,List.map_nil,List.length_append,List.length_cons,List.length_nil]) (by simp[go_sem,fH,aI,gN,List.map_append,List.map_cons,List.map_nil,List.length_append,List.length_cons,List.length_nil]) (Le.sub4 rfl (by simp[go_sem,fH,aI,gN,List.map_append,List.map_cons,List.map_nil,List.length_append,List.length_cons,List.length_nil]))) (by(try dsimp only);omega) ?_))|simp(disch:=omega) [go_sem,fH,aI,oG])
  try any_goals omega
  exact⟨List.nodup_append.2 ⟨hin,by simp,fun a ha b hb e=>hni (by rw[<-List.mem_singleton.1 hb,<-e];exact ha)⟩,fun j hj=>by rcases List.mem_append.1 hj with h|h;exact hil j h;simp at h;omega,by rw[hlk,List.map_append,List.map_cons,List.map_nil,hkx]⟩
end Go.Proofs.YtbgckcdddlmiaaaGreatDoor
