import Derived.Test.YtbgckcdddlmiaaaGreatDoorS7
set_option linter.unusedSectionVars false
set_option linter.unusedSimpArgs false
set_option linter.unusedVariables false
open Go.Proofs.Tryz
namespace Go.Proofs.YtbgckcdddlmiaaaGreatDoor
open Go.Ab
variable [Glob prog]
set_option maxRecDepth 100000
set_option maxHeartbeats 16000000
theorem bNk (m:Mu) (C:List ByteArray) (p j:Nat) (hKd:m.index.tdiv C.length=(p:Int)) (hpm:(p:Int)<=9223372036854775807) (hJ:m.index.tmod C.length=(j:Int)) (hj:j<C.length) (r:Rl) (hz:SzM r):
 MCall prog 60 [bX r,.clo 71 [.ptr 1000 0 0,.ptr 1001 0 0,.ptr 1002 0 0]] (bK (-1) m C)
  (fun v o'=>v= .agg [.sc (.string r.head.name),.list false false ((dR p C[j] 0 r.head.args).map aI),if r.body.length=0 then .list false true []else .ref 900 0 r.body.length]/\
   o'=(4,⟨false,false,false,3,[.agg [.sc (.string r.head.name),.list false false ((dR p C[j] 0 r.head.args).map aI),if r.body.length=0 then .list false true []else .ref 900 0 r.body.length]],0⟩)::(1000,bC (-1+(dS r).length))::(1001,bE m)::(1002,bF C)::(if r.body.length=0 then[]else[(900,⟨true,false,false,3,(gQ p C[j] (aW r.head.args).length r.body).map bP,0⟩)])):=by
 have hsz:=rS hz
 have hle:=G3 (h:=r.head) (bs:=r.body) hz
 obtain⟨h,bs⟩:=r
 obtain⟨hz1,hz2,hz3⟩:=hz
 dsimp only at*
 have hnx:=fun i (hi:i<bs.length)=>X4 (h:=h) hi
 have hn0:=X2 h bs
 have hna:=X3 h bs
 have hv:=aHu m C p j hKd hpm hJ hj
 have h1:=hv _ h.args false false (-1) 0 (Nat.lt_succ_self _) (by omega) (by decide) (by omega)
 generalize hL:gQ p C[j] (aW h.args).length bs=L at*
 have hLl:L.length=bs.length:=by rw[<-hL,yC]
 have ih2: ∀(i:Nat) (hi:i<bs.length),∃us,MCall prog 102 [.list false false (bs[i].atom.args.map aI),.clo 71 [.ptr 1000 0 0,.ptr 1001 0 0,.ptr 1002 0 0]] (bK (-1+(gI h bs i).length) m C) (fun r o'=>r= .list false false (us.map aI)/\o'=bK (-1+(gI h bs i).length+(aW bs[i].atom.args).length) m C)/\L.drop i=⟨bs[i].neg,.mk bs[i].atom.name us⟩::L.drop (i+1):=fun i hi=>⟨_,hv _ _ false false _ (gI h bs i).length (Nat.lt_succ_self _) (Nat.le_trans (hz3 _ (List.getElem_mem hi)) (by decide)) (by omega) (by have:=hz3 _ (List.getElem_mem hi);have:=hle i (by omega);omega),by
  have h':i<L.length:=by omega
  rw[List.drop_eq_getElem_cons h']
  congr 1
  have e:=aHk (K:=p) (c:=C[j]) (k:=(aW h.args).length) hi
  have e2:L[i]?=some ⟨bs[i].neg,.mk bs[i].atom.name (dR p C[j] ((aW h.args).length+(cZ (bs.take i)).length) bs[i].atom.args)⟩:=by
   have e3:gQ p C[j] (aW h.args).length (bs.take (i+1))++gQ p C[j] ((aW h.args).length+(cZ (bs.take (i+1))).length) (bs.drop (i+1))=L:=by
    rw[<-hL,<-V9,List.take_append_drop]
   rw[<-e3,e,List.append_assoc]
   have hl:(gQ p C[j] (aW h.args).length (bs.take i)).length=i:=by rw[yC,List.length_take];omega
   rw[List.getElem?_append_right (by omega),hl,Nat.sub_self];rfl
  rw[List.getElem?_eq_getElem h']at e2
  have e4:(gI h bs i).length=(aW h.args).length+(cZ (bs.take i)).length:=by unfold gI;rw[List.length_append]
  rw[e4]
  exact Option.some.inj e2⟩
 clear hv hL
 generalize dR p C[j] 0 h.args=H at*
 refine eW func60 call60 rfl (by simp[ntmps60]) ?_;simp only[ntmps60,results60]
 skip
 repeat' (first|((fail_if_success (refine rK ?_));refine jF (fun K hK=>?_))|refine zHg ?_|simp(disch:=omega) [go_sem,bK,bC,bE,bF])
 refine aEe ⟨44,[(1,.clo 71 [.ptr 1000 0 0,.ptr 1001 0 0,.ptr 1002 0 0]),(2,.ptr 2 0 0),(4,.ptr 4 0 0),(5,.ptr 5 0 0)],(5,⟨false,false,false,3,[.agg [.sc (.string h.name),.list false false (H.map aI),.list false true []]],0⟩)::(4,⟨false,false,false,3,[.agg [.sc (.string ⟨#[]⟩),.list false true [],.list false true []]],0⟩)::(2,⟨false,true,false,3,[bX ⟨h,bs⟩],0⟩)::(1000,bC (-1+(gI h bs 0).length))::(1001,bE m)::(1002,bF C):: []⟩ (fun K hK=>?_) ?_
 ·(try refine jF (fun K hK=>?_));refine rI (s0:=⟨44,[(1,.clo 71 [.ptr 1000 0 0,.ptr 1001 0 0,.ptr 1002 0 0]),(2,.ptr 2 0 0),(4,.ptr 4 0 0)],(2,⟨false,true,false,3,[bX ⟨h,bs⟩],0⟩)::(4,⟨false,false,false,3,[.agg [.sc (.string ⟨#[]⟩),.list false true [],.list false true []]],0⟩)::bK (-1) m C⟩) (by refine Le.trans ?_ (Le.frzP 2 rfl (by intro h;cases h));exact(Le.sub4 rfl (by simp[go_sem,bK,bC,bE,bF]))) ?_
  repeat' (first|(refine aC fun _ _=>?_)|refine zHg ?_|(with_reducible refine dF ?_;first|(exact dC)|(refine zSkip ?_)|(refine dD rfl ?_ ?_))|(with_reducible refine dE ?_;first|(refine zDone ?_)|(refine zQu 0 rfl rfl rfl rfl ?_)|(refine zQu 1 rfl rfl rfl rfl ?_)|(refine zQu 2 rfl rfl rfl rfl ?_)|(refine zQu 3 rfl rfl rfl rfl ?_)|(refine zQu 4 rfl rfl rfl rfl ?_)|(refine zQu 5 rfl rfl rfl rfl ?_)|(refine zQu 6 rfl rfl rfl rfl ?_)|(refine zQu 7 rfl rfl rfl rfl ?_)|(refine zQu 8 rfl rfl rfl rfl ?_)|(refine zQu 9 rfl rfl rfl rfl ?_)|(refine zQu 10 rfl rfl rfl rfl ?_)|(refine zQu 16 rfl rfl rfl rfl ?_)|(refine zAll ?_;show cO _ _ _ _ _ _ _))|with_reducible refine dH ?_|simp(disch:=omega) [go_sem,bK,bC,bE,bF]|refine zAny aQ ?_|fail)
  all_goals refine bH [] [] 10000 _ _ (Fits.mk' (by simp[go_sem,bK,bC,bE,bF]) (by simp[go_sem,bK,bC,bE,bF])) (by simp[go_sem,bK,bC,bE,bF]) (by simp[go_sem,bK,bC,bE,bF]) (h1) (by simp[go_sem,bK,bC,bE,bF]) (by simp[go_sem,bK,bC,bE,bF]) ?_
  all_goals repeat' (first|(refine aC fun _ _=>?_)|refine zHg ?_|(with_reducible refine dF ?_;first|(exact dC)|(refine zSkip ?_)|(refine dD rfl ?_ ?_))|(with_reducible refine dE ?_;first|(refine zDone ?_)|(refine zQu 0 rfl rfl rfl rfl ?_)|(refine zQu 1 rfl rfl rfl rfl ?_)|(refine zQu 2 rfl rfl rfl rfl ?_)|(refine zQu 3 rfl rfl rfl rfl ?_)|(refine zQu 4 rfl rfl rfl rfl ?_)|(refine zQu 5 rfl rfl rfl rfl ?_)|(refine zQu 6 rfl rfl rfl rfl ?_)|(refine zQu 7 rfl rfl rfl rfl ?_)|(refine zQu 8 rfl rfl rfl rfl ?_)|(refine zQu 9 rfl rfl rfl rfl ?_)|(refine zQu 10 rfl rfl rfl rfl ?_)|(refine zQu 16 rfl rfl rfl rfl ?_)|(refine zAll ?_;show cO _ _ _ _ _ _ _))|with_reducible refine dH ?_|refine(hK _ (Le.sub4 rfl (by simp[go_sem,hn0,bC,bE,bF])))|simp(disch:=omega) [go_sem,bK,bC,bE,bF])
 repeat' (first|(refine aC fun _ _=>?_)|refine zHg ?_|simp(disch:=omega) [go_sem,bC,bE,bF])
 refine bS [1,4,5,19,20] [5,900,1000,2] (fun y:Nat×List Lt=> [(21,nt .i64 y.1)]) (fun y:Nat×List Lt=>(5,⟨false,false,false,3,[.agg [.sc (.string h.name),.list false false (H.map aI),if y.2.length=0 then .list false true []else .ref 900 0 y.2.length]],0⟩)::(1000,bC (-1+(gI h bs y.1).length))::(if y.2.length=0 then[]else[(900,⟨true,false,false,3,y.2.map bP,0⟩)])) (fun y:Nat×List Lt=>bs.length - y.1) (fun y:Nat×List Lt=>y.1<=bs.length/\y.2.length=y.1/\y.2++L.drop y.1=L) ((0,[])) (Le.sub4 rfl (by simp[go_sem,bC,bE,bF])) ⟨?_⟩ ?_
 ·exact⟨Nat.zero_le _,rfl,rfl⟩
 intro⟨i,a⟩ ⟨hi,ha,hinv⟩ AA hAA;simp only[kL,Nat.reduceBEq,Nat.reduceEqDiff]
 dsimp only at*
 by_cases hlt:i<bs.length
 ·obtain⟨us,hu,hd⟩:=ih2 i hlt
  have hcn:=hnx i hlt
  rw[hd]at hinv
  clear ih2 hnx hn0 hna hle hsz h1 hd
  generalize gI h bs i=S at*
  generalize hbi:bs[i]=b at*
  obtain⟨q,⟨s,ts⟩⟩:=b
  dsimp only[cK,nY]at*
  generalize aW ts=V at*
  by_cases h0:i=0
  ·subst h0
   obtain rfl:=List.eq_nil_of_length_eq_zero ha
   repeat' (first|((fail_if_success (refine rK ?_));refine jF (fun K hK=>?_))|refine zHg ?_|simp(disch:=omega) [go_sem,hlt,hbi,bC,bE,bF])
   (try refine jF (fun K hK=>?_));refine rI (s0:=⟨44,[(1,.clo 71 [.ptr 1000 0 0,.ptr 1001 0 0,.ptr 1002 0 0]),(4,.ptr 4 0 0),(5,.ptr 5 0 0),(7,.ptr 7 0 0),(19,.list false false (bs.map bP)),(20,nt .i64 bs.length),(21,nt .i64 0)],(5,⟨false,false,false,3,[.agg [.sc (.string h.name),.list false false (H.map aI),.list false true []]],0⟩)::(7,⟨false,true,false,3,[bP ⟨q,.mk s ts⟩],0⟩)::(1000,bC (-1+S.length))::(1001,bE m)::(1002,bF C)::(4,⟨false,false,false,3,[.agg [.sc (.string ⟨#[]⟩),.list false true [],.list false true []]],0⟩):: []⟩) (by refine Le.trans ?_ (Le.frzP 7 rfl (by intro h;cases h));exact(Le.sub4 rfl (by simp[go_sem,bC,bE,bF]))) ?_
   repeat' (first|(refine aC fun _ _=>?_)|refine zHg ?_|(with_reducible refine dF ?_;first|(exact dC)|(refine zSkip ?_)|(refine dD rfl ?_ ?_))|(with_reducible refine dE ?_;first|(refine zDone ?_)|(refine zQu 0 rfl rfl rfl rfl ?_)|(refine zQu 1 rfl rfl rfl rfl ?_)|(refine zQu 2 rfl rfl rfl rfl ?_)|(refine zQu 3 rfl rfl rfl rfl ?_)|(refine zQu 4 rfl rfl rfl rfl ?_)|(refine zQu 5 rfl rfl rfl rfl ?_)|(refine zQu 6 rfl rfl rfl rfl ?_)|(refine zQu 7 rfl rfl rfl rfl ?_)|(refine zQu 8 rfl rfl rfl rfl ?_)|(refine zQu 9 rfl rfl rfl rfl ?_)|(refine zQu 10 rfl rfl rfl rfl ?_)|(refine zQu 16 rfl rfl rfl rfl ?_)|(refine zAll ?_;show cO _ _ _ _ _ _ _))|with_reducible refine dH ?_|simp(disch:=omega) [go_sem,hlt,hbi,bC,bE,bF]|refine zAny aQ ?_|fail)
   all_goals refine bH [] [] 10000 _ _ (Fits.mk' (by simp[go_sem,bK,bC,bE,bF]) (by simp[go_sem,bK,bC,bE,bF])) (by simp[go_sem,bK,bC,bE,bF]) (by simp[go_sem,bK,bC,bE,bF]) (hu) (by simp[go_sem,bK,bC,bE,bF]) (by simp[go_sem,bK,bC,bE,bF]) ?_
   all_goals repeat' (first|(refine aC fun _ _=>?_)|refine zHg ?_|(with_reducible refine dF ?_;first|(exact dC)|(refine zSkip ?_)|(refine dD rfl ?_ ?_))|(with_reducible refine dE ?_;first|(refine zDone ?_)|(refine zQu 0 rfl rfl rfl rfl ?_)|(refine zQu 1 rfl rfl rfl rfl ?_)|(refine zQu 2 rfl rfl rfl rfl ?_)|(refine zQu 3 rfl rfl rfl rfl ?_)|(refine zQu 4 rfl rfl rfl rfl ?_)|(refine zQu 5 rfl rfl rfl rfl ?_)|(refine zQu 6 rfl rfl rfl rfl ?_)|(refine zQu 7 rfl rfl rfl rfl ?_)|(refine zQu 8 rfl rfl rfl rfl ?_)|(refine zQu 9 rfl rfl rfl rfl ?_)|(refine zQu 10 rfl rfl rfl rfl ?_)|(refine zQu 16 rfl rfl rfl rfl ?_)|(refine zAll ?_;show cO _ _ _ _ _ _ _))|with_reducible refine dH ?_|(refine(hAA.next ((0+1,[⟨q,.mk s us⟩])) (Le.renSub [(40,900)] [(900,40)] (by simp[go_sem,hcn,Int.add_assoc,bC,bE,bF]) (by simp[go_sem,hcn,Int.add_assoc,bC,bE,bF]) (Le.sub4 rfl (by simp[go_sem,hcn,Int.add_assoc,bC,bE,bF]))) (by(try dsimp only);omega) ?_))|simp(disch:=omega) [go_sem,hlt,hbi,bC,bE,bF])
   try any_goals omega
   all_goals exact⟨hlt,rfl,hinv⟩
  ·repeat' (first|((fail_if_success (refine rK ?_));refine jF (fun K hK=>?_))|refine zHg ?_|simp(disch:=omega) [go_sem,hlt,hbi,h0,ha,bC,bE,bF])
   (try refine jF (fun K hK=>?_));refine rI (s0:=⟨44,[(1,.clo 71 [.ptr 1000 0 0,.ptr 1001 0 0,.ptr 1002 0 0]),(4,.ptr 4 0 0),(5,.ptr 5 0 0),(7,.ptr 7 0 0),(19,.list false false (bs.map bP)),(20,nt .i64 bs.length),(21,nt .i64 i)],(5,⟨false,false,false,3,[.agg [.sc (.string h.name),.list false false (H.map aI),.ref 900 0 a.length]],0⟩)::(7,⟨false,true,false,3,[bP ⟨q,.mk s ts⟩],0⟩)::(1000,bC (-1+S.length))::(1001,bE m)::(1002,bF C)::(4,⟨false,false,false,3,[.agg [.sc (.string ⟨#[]⟩),.list false true [],.list false true []]],0⟩):: [(900,⟨true,false,false,3,a.map bP,0⟩)]⟩) (by refine Le.trans ?_ (Le.frzP 7 rfl (by intro h;cases h));exact(Le.sub4 rfl (by simp[go_sem,bC,bE,bF,ha]))) ?_
   repeat' (first|(refine aC fun _ _=>?_)|refine zHg ?_|(with_reducible refine dF ?_;first|(exact dC)|(refine zSkip ?_)|(refine dD rfl ?_ ?_))|(with_reducible refine dE ?_;first|(refine zDone ?_)|(refine zQu 0 rfl rfl rfl rfl ?_)|(refine zQu 1 rfl rfl rfl rfl ?_)|(refine zQu 2 rfl rfl rfl rfl ?_)|(refine zQu 3 rfl rfl rfl rfl ?_)|(refine zQu 4 rfl rfl rfl rfl ?_)|(refine zQu 5 rfl rfl rfl rfl ?_)|(refine zQu 6 rfl rfl rfl rfl ?_)|(refine zQu 7 rfl rfl rfl rfl ?_)|(refine zQu 8 rfl rfl rfl rfl ?_)|(refine zQu 9 rfl rfl rfl rfl ?_)|(refine zQu 10 rfl rfl rfl rfl ?_)|(refine zQu 16 rfl rfl rfl rfl ?_)|(refine zAll ?_;show cO _ _ _ _ _ _ _))|with_reducible refine dH ?_|simp(disch:=omega) [go_sem,hlt,hbi,h0,ha,bC,bE,bF]|refine zAny aQ ?_|fail)
   all_goals refine bH [] [] 10000 _ _ (Fits.mk' (by simp[go_sem,bK,bC,bE,bF]) (by simp[go_sem,bK,bC,bE,bF])) (by simp[go_sem,bK,bC,bE,bF]) (by simp[go_sem,bK,bC,bE,bF]) (hu) (by simp[go_sem,bK,bC,bE,bF]) (by simp[go_sem,bK,bC,bE,bF]) ?_
   all_goals repeat' (first|(refine aC fun _ _=>?_)|refine zHg ?_|(with_reducible refine dF ?_;first|(exact dC)|(refine zSkip ?_)|(refine dD rfl ?_ ?_))|(with_reducible refine dE ?_;first|(refine zDone ?_)|(refine zQu 0 rfl rfl rfl rfl ?_)|(refine zQu 1 rfl rfl rfl rfl ?_)|(refine zQu 2 rfl rfl rfl rfl ?_)|(refine zQu 3 rfl rfl rfl rfl ?_)|(refine zQu 4 rfl rfl rfl rfl ?_)|(refine zQu 5 rfl rfl rfl rfl ?_)|(refine zQu 6 rfl rfl rfl rfl ?_)|(refine zQu 7 rfl rfl rfl rfl ?_)|(refine zQu 8 rfl rfl rfl rfl ?_)|(refine zQu 9 rfl rfl rfl rfl ?_)|(refine zQu 10 rfl rfl rfl rfl ?_)|(refine zQu 16 rfl rfl rfl rfl ?_)|(refine zAll ?_;show cO _ _ _ _ _ _ _))|with_reducible refine dH ?_|(refine(hAA.next ((i+1,a++ [⟨q,.mk s us⟩])) (Le.sub4 rfl (by simp[go_sem,hcn,ha,Int.add_assoc,bC,bE,bF])) (by(try dsimp only);omega) ?_))|simp(disch:=omega) [go_sem,hlt,hbi,h0,ha,bC,bE,bF]|refine zAo ?_|fail)
   try any_goals omega
   all_goals exact⟨hlt,by simp[ha],by rw[List.append_assoc];exact hinv⟩
 ·obtain rfl:i=bs.length:=by omega
  rw[<-hLl,List.drop_length,List.append_nil]at hinv
  subst hinv
  rw[hna]
  clear ih2 hnx hn0 hna hle h1
  generalize dS ⟨h,bs⟩=S at*
  by_cases h0:bs.length=0
  ·obtain rfl:=List.eq_nil_of_length_eq_zero h0
   obtain rfl:=List.eq_nil_of_length_eq_zero hLl
   repeat' (first|(refine aC fun _ _=>?_)|refine zHg ?_|simp(disch:=omega) [go_sem,bC,bE,bF])
   refine cV ⟨44,[(4,.ptr 4 0 0)],(4,⟨false,false,false,3,[.agg [.sc (.string h.name),.list false false (H.map aI),.list false true []]],0⟩)::(1000,bC (-1+S.length))::(1001,bE m)::(1002,bF C):: []⟩ [.agg [.sc (.string h.name),.list false false (H.map aI),.list false true []]] (Le.renSub [] [] (by simp[go_sem,bC,bE,bF]) (by simp[go_sem,bC,bE,bF]) (Le.sub4 rfl (by simp[go_sem,bC,bE,bF]))) (by simp[go_sem,bC,bE,bF]) ⟨rfl,rfl⟩
  ·have h0': ¬bs= []:=fun h=>h0 (by rw[h];rfl)
   repeat' (first|(refine aC fun _ _=>?_)|refine zHg ?_|simp(disch:=omega) [go_sem,h0,h0',ha,bC,bE,bF])
   refine cV ⟨44,[(4,.ptr 4 0 0)],(4,⟨false,false,false,3,[.agg [.sc (.string h.name),.list false false (H.map aI),.ref 900 0 bs.length]],0⟩)::(1000,bC (-1+S.length))::(1001,bE m)::(1002,bF C):: [(900,⟨true,false,false,3,a.map bP,0⟩)]⟩ [.agg [.sc (.string h.name),.list false false (H.map aI),.ref 900 0 bs.length]] (Le.renSub [] [] (by simp[go_sem,bC,bE,bF]) (by simp[go_sem,bC,bE,bF]) (Le.sub4 rfl (by simp[go_sem,bC,bE,bF]))) (by simp[go_sem,bC,bE,bF]) ⟨rfl,rfl⟩
theorem bNl (m:Mu) (C:List ByteArray) (p j:Nat) (hk:m.kind=4) (hKd:m.index.tdiv C.length=(p:Int)) (hpm:(p:Int)<=9223372036854775807) (hJ:m.index.tmod C.length=(j:Int)) (hj:j<C.length) (r:Rl) (hz:SzM r):
 ACall prog 34 [bX r,dA m,.list false false (C.map bG)] (fun v=>v=bX (yD p C[j] r)):=by
 have key:=bNk m C p j hKd hpm hJ hj r hz
 have k2:MCall prog 60 [bX r,.clo 71 [.ptr 1000 0 0,.ptr 1001 0 0,.ptr 1002 0 0]] (bK (-1) m C) (fun v o'=>v=bX (yD p C[j] r)/\o'=bK (-1+(dS r).length) m C):=by
  by_cases h0:r.body.length=0
  ·obtain⟨h,bs⟩:=r
   obtain rfl:=List.eq_nil_of_length_eq_zero h0
   simp only[List.length_nil,if_true]at key
   exact key.loose (o1:=bK (-1+(dS ⟨h,[]⟩).length) m C) (by simp[go_sem]) (by simp[go_sem]) (by simp[go_sem])
  ·simp only[h0,if_false]at key
   have hrl:(gQ p C[j] (aW r.head.args).length r.body).length=r.body.length:=yC
   refine key.shared (s':=?_) (y:= .agg [.sc (.string r.head.name),.list false false ((dR p C[j] 0 r.head.args).map aI),.list false false ((gQ p C[j] (aW r.head.args).length r.body).map bP)]) (by simp[go_sem,bY,hrl];rfl) (by simp[go_sem]) (by simp[go_sem]) (by simp[go_sem])
 clear key
 generalize yD p C[j] r=R at*
 generalize(dS r).length=N at*
 refine aU func34 call34 rfl (by simp[ntmps34]) ?_;simp only[ntmps34,results34]
 repeat' (first|(refine aC fun _ _=>?_)|refine zHg ?_|simp(disch:=omega) [go_sem,hk])
 refine bH [(1000,7),(1001,4),(1002,5)] [(7,1000),(4,1001),(5,1002)] 10000 _ _ (Fits.mk' (by simp[go_sem,bK,bC,bE,bF,hk]) (by simp[go_sem,bK,bC,bE,bF,hk])) (by simp[go_sem,bK,bC,bE,bF,hk]) (by simp[go_sem,bK,bC,bE,bF,hk]) (k2) (by simp[go_sem,bK,bC,bE,bF,hk]) (by simp[go_sem,bK,bC,bE,bF,hk]) ?_
 repeat' (first|(refine aC fun _ _=>?_)|refine zHg ?_|(refine aN [] ?_;simp[go_sem,hk,bK,bC,bE,bF])|simp(disch:=omega) [go_sem,hk,bK,bC,bE,bF])
theorem bNm (m:Mu) (C:List ByteArray) (hk:m.kind=5) (hi:m.index=0) (r:Rl) (h2:2<=r.head.args.length) (hl:r.head.args.length<=1000000):
 ACall prog 34 [bX r,dA m,.list false false (C.map bG)] (fun v=>v=bX ⟨pF r.head,r.body⟩):=by
 have h1:=aHw r.head h2 hl
 generalize pF r.head=H at*
 refine aU func34 call34 rfl (by simp[ntmps34]) ?_;simp only[ntmps34,results34]
 repeat' (first|(refine aC fun _ _=>?_)|refine zHg ?_|(refine aN [] ?_;simp[go_sem,hk,hi])|refine aO rfl (h1) (by simp) ?_|simp(disch:=omega) [go_sem,hk,hi])
abbrev fQ (b:List Lt):AObj:=⟨true,false,true,3,b.map bP,0⟩
theorem bNn (m:Mu) (C:List ByteArray) (k:Nat) (hk:m.kind=3) (hi:m.index=(k:Int)) (r:Rl) (hkl:k<r.body.length) (hl:r.body.length<=1000000):
 MCall prog 34 [.agg [.sc (.string r.head.name),.list false false (r.head.args.map aI),.ref 1000 0 r.body.length],dA m,.list false false (C.map bG)] [(1000,fQ r.body)] (fun v o'=>v=bX ⟨r.head,iE qO k r.body⟩/\o'= []):=by
 obtain⟨h,bs⟩:=r
 dsimp only at*
 have hset:(bs.map bP).set k (.agg [.sc (.bool (!bs[k].neg)),.sc (.string bs[k].atom.name),.list false false (bs[k].atom.args.map aI)])=(iE qO k bs).map bP:=by
  apply List.ext_getElem?
  intro i
  unfold iE
  rw[List.getElem?_map,List.getElem?_modify,List.getElem?_set]
  by_cases hik:k=i
  ·subst hik
   simp[hkl,qO];rfl
  ·simp[hik]
 have hal:(iE qO k bs).length=bs.length:=aH1
 have key:MCall prog 34 [.agg [.sc (.string h.name),.list false false (h.args.map aI),.ref 1000 0 bs.length],dA m,.list false false (C.map bG)] [(1000,fQ bs)] (fun v o'=>v= .agg [.sc (.string h.name),.list false false (h.args.map aI),.ref 1000 0 bs.length]/\o'= [(6,⟨false,false,false,3,[.agg [.sc (.string h.name),.list false false (h.args.map aI),.ref 1000 0 bs.length]],0⟩),(1000,⟨true,false,false,3,(iE qO k bs).map bP,0⟩)]):=by
  generalize hbk:bs[k]=b at*
  generalize iE qO k bs=W at*
  have hkz:(k:Int)<bs.length:=by omega
  refine eW func34 call34 rfl (by simp[ntmps34]) ?_;simp only[ntmps34,results34]
  repeat' (first|(refine aC fun _ _=>?_)|refine zHg ?_|simp(disch:=omega) [go_sem,hk,hi,hkl,hbk,hset,hkz]|refine zDr 14 aQ ?_|fail)
  try any_goals omega
  refine cV ⟨68,[(6,.ptr 6 0 0)],[(6,⟨false,false,false,3,[.agg [.sc (.string h.name),.list false false (h.args.map aI),.ref 1000 0 bs.length]],0⟩),(1000,⟨true,false,false,3,W.map bP,0⟩)]⟩ [.agg [.sc (.string h.name),.list false false (h.args.map aI),.ref 1000 0 bs.length]] (by refine Le.trans ?_ (Le.unpin 1000 rfl);exact(Le.sub4 rfl (by simp[go_sem]))) (by simp[go_sem]) ⟨rfl,rfl⟩
 refine key.shared (s':=?_) (y:= .agg [.sc (.string h.name),.list false false (h.args.map aI),.list false false ((iE qO k bs).map bP)]) (by simp[go_sem,bY,fQ,hal];rfl) (by simp[go_sem]) (by simp[go_sem]) (by simp[go_sem])
theorem bNo (m:Mu) (C:List ByteArray) (k:Nat) (hk:m.kind=5) (hi:m.index=(k:Int)+1) (r:Rl) (hkl:k<r.body.length) (hl:r.body.length<=1000000) (h2:2<=r.body[k].atom.args.length) (hl2:r.body[k].atom.args.length<=1000000):
 MCall prog 34 [.agg [.sc (.string r.head.name),.list false false (r.head.args.map aI),.ref 1000 0 r.body.length],dA m,.list false false (C.map bG)] [(1000,fQ r.body)] (fun v o'=>v=bX ⟨r.head,iE qN k r.body⟩/\o'= []):=by
 obtain⟨h,bs⟩:=r
 dsimp only at*
 have hkl':k<bs.length:=hkl
 have h1:=aHw bs[k].atom h2 hl2
 have hset:(bs.map bP).set k (.agg [.sc (.bool bs[k].neg),.sc (.string (pF bs[k].atom).name),.list false false ((pF bs[k].atom).args.map aI)])=(iE qN k bs).map bP:=by
  apply List.ext_getElem?
  intro i
  unfold iE
  rw[List.getElem?_map,List.getElem?_modify,List.getElem?_set]
  by_cases hik:k=i
  ·subst hik
   simp[hkl,qN];rfl
  ·simp[hik]
 have hal:(iE qN k bs).length=bs.length:=aH1
 have key:MCall prog 34 [.agg [.sc (.string h.name),.list false false (h.args.map aI),.ref 1000 0 bs.length],dA m,.list false false (C.map bG)] [(1000,fQ bs)] (fun v o'=>v= .agg [.sc (.string h.name),.list false false (h.args.map aI),.ref 1000 0 bs.length]/\o'= [(6,⟨false,false,false,3,[.agg [.sc (.string h.name),.list false false (h.args.map aI),.ref 1000 0 bs.length]],0⟩),(1000,⟨true,false,false,3,(iE qN k bs).map bP,0⟩)]):=by
  generalize hbk:bs[k]=b at*
  generalize pF b.atom=Z at*
  generalize iE qN k bs=W at*
  have hkz:(k:Int)<bs.length:=by omega
  have hk1: ¬(k:Int)+1=0:=by omega
  refine eW func34 call34 rfl (by simp[ntmps34]) ?_;simp only[ntmps34,results34]
  repeat' (first|(refine aC fun _ _=>?_)|refine zHg ?_|refine bR rfl (h1) rfl (by simp) ?_|simp(disch:=omega) [go_sem,hk,hi,hkl',hbk,hset,hkz,hk1]|refine zDr 14 aQ ?_|fail)
  try any_goals omega
  refine cV ⟨68,[(6,.ptr 6 0 0)],[(6,⟨false,false,false,3,[.agg [.sc (.string h.name),.list false false (h.args.map aI),.ref 1000 0 bs.length]],0⟩),(1000,⟨true,false,false,3,W.map bP,0⟩)]⟩ [.agg [.sc (.string h.name),.list false false (h.args.map aI),.ref 1000 0 bs.length]] (by refine Le.trans ?_ (Le.unpin 1000 rfl);exact(Le.sub4 rfl (by simp[go_sem]))) (by simp[go_sem]) ⟨rfl,rfl⟩
 refine key.shared (s':=?_) (y:= .agg [.sc (.string h.name),.list false false (h.args.map aI),.list false false ((iE qN k bs).map bP)]) (by simp[go_sem,bY,fQ,hal];rfl) (by simp[go_sem]) (by simp[go_sem]) (by simp[go_sem])
abbrev zLt:AV:= .agg [.sc (.bool false),.sc (.string ⟨#[]⟩),.list false true []]
theorem bNp (X Y Z W:List AV) (n k m:Nat) (hX:X.length=n) (hk:k+1+m=n) (hn:n<=1000000) (hy:(X.drop (k+1)).take m=Y) (hz:X.take k++(Y++X.drop (k+m))=Z) (hw:Z.take (k+m)++ [zLt]=W) (hc: ∀y∈Y,y.cells.length=3) (hyl:Y.length=m) (hzl:Z.length=n):
 MCall prog 70 [.ref 1000 0 n,nt .i64 k,nt .i64 (k+1)] [(1000,⟨true,false,true,3,X,0⟩)]
  (fun r o'=>r= .ref 1002 0 (k+m)/\o'= [(1002,⟨true,false,false,3,W,0⟩)]):=by
 refine bE0 func70 call70 rfl (by simp[ntmps70]) rfl (by omega) fun c hcc=>?_
 simp only[ntmps70,results70]
 have e1: ¬(k:Int)=(k:Int)+1:=by omega
 have e2:n - (k+1)=m:=by omega
 have e3:n - (k+m)=1:=by omega
 have e4:k+1+m<=n:=by omega
 have e5:k+m<=n:=by omega
 have e6:k+m+1<=n:=by omega
 have e7:k+m<=c:=by omega
 have e8:((k:Int)+m).toNat=k+m:=by omega
 have e9: ∀z,P8 (k+m+1) z (some ⟨true,false,false,3,Z,0⟩)=z:=fun z=>aD3 (by show k+m+1<=Z.length;omega)
 have ea:Z.drop (k+m+1)= []:=List.drop_eq_nil_of_le (by omega)
 have hwl:W.length=k+m+1:=by rw[<-hw,List.length_append,List.length_take,List.length_singleton];omega
 skip
 repeat' (first|(refine aC fun _ _=>?_)|refine zHg ?_|simp(disch:=omega) [go_sem,e1,e2,e3,e4,e5,e6,e7,e8,e9,ea,hX,hy,hz,hw,hyl,hzl,hc]|refine zAo ?_|refine zDr 6 aQ ?_|fail)
 refine cV ⟨33,[(6,.ref 1002 0 (k+m))],[(1002,⟨true,false,false,3,W,0⟩)]⟩ [.ref 1002 0 (k+m)] (by refine Le.trans ?_ (Le.unrc 6 rfl rfl (by(try simp);omega));refine Le.trans ?_ (Le.move (i:=6) (T:=1000) (T':=1002) rfl (by show(0:Nat)≠1;decide) rfl rfl rfl);exact(Le.sub4 rfl (by simp[go_sem,hw]))) (by simp[go_sem,hw]) ⟨rfl,rfl⟩
theorem bNq (bs:List Lt) (k m:Nat) (hk:k+1+m=bs.length) (hn:bs.length<=1000000):
 MCall prog 70 [.ref 1000 0 bs.length,nt .i64 k,nt .i64 (k+1)] [(1000,fQ bs)]
  (fun r o'=>r= .ref 1002 0 (k+m)/\o'= [(1002,⟨true,false,false,3,(bs.eraseIdx k).map bP++ [zLt],0⟩)]):=by
 have hw:((bs.map bP).take k++((((bs.map bP).drop (k+1)).take m)++(bs.map bP).drop (k+m))).take (k+m)++ [zLt]=(bs.eraseIdx k).map bP++ [zLt]:=by
  congr 1
  have e1:((bs.map bP).drop (k+1)).take m=(bs.map bP).drop (k+1):=List.take_of_length_le (by(try simp);omega)
  rw[e1,<-List.append_assoc,List.take_append_of_le_length (by(try simp);omega),List.take_of_length_le (by(try simp);omega),<-List.map_take,<-List.map_drop,<-List.map_append,List.eraseIdx_eq_take_drop_succ]
 exact bNp (bs.map bP) _ _ _ bs.length k m (by simp) hk hn rfl rfl hw (fun y hy=>by
  have:=List.mem_of_mem_drop (List.mem_of_mem_take hy)
  obtain⟨b,_,rfl⟩:=List.mem_map.1 this
  rfl) (by(try simp);omega) (by(try simp);omega)
theorem bNr (m:Mu) (C:List ByteArray) (k:Nat) (hk:m.kind=2) (hi:m.index=(k:Int)) (r:Rl) (hkl:k<r.body.length) (hl:r.body.length<=1000000):
 MCall prog 34 [.agg [.sc (.string r.head.name),.list false false (r.head.args.map aI),.ref 1000 0 r.body.length],dA m,.list false false (C.map bG)] [(1000,fQ r.body)] (fun v o'=>v=bX ⟨r.head,r.body.eraseIdx k⟩/\o'= []):=by
 obtain⟨h,bs⟩:=r
 have hkl':k<bs.length:=hkl
 obtain⟨j,hj⟩: ∃j,k+1+j=bs.length:=⟨bs.length - (k+1),by omega⟩
 have hd:=bNq bs k j hj hl
 have hel:(bs.eraseIdx k).length=k+j:=by rw[List.length_eraseIdx,if_pos hkl'];omega
 dsimp only at*
 have hsg:(((bs.eraseIdx k).map bP)++ [zLt]).take (k+j)=(bs.eraseIdx k).map bP:=by
  rw[List.take_append_of_le_length (by(try simp);omega),List.take_of_length_le (by(try simp);omega)]
 generalize bs.eraseIdx k=E at*
 have key:MCall prog 34 [.agg [.sc (.string h.name),.list false false (h.args.map aI),.ref 1000 0 bs.length],dA m,.list false false (C.map bG)] [(1000,fQ bs)] (fun v o'=>v= .agg [.sc (.string h.name),.list false false (h.args.map aI),.ref 900 0 (k+j)]/\o'= [(6,⟨false,false,false,3,[.agg [.sc (.string h.name),.list false false (h.args.map aI),.ref 900 0 (k+j)]],0⟩),(900,⟨true,false,false,3,E.map bP++ [zLt],0⟩)]):=by
  clear hsg hel
  refine eW func34 call34 rfl (by simp[ntmps34]) ?_;simp only[ntmps34,results34]
  repeat' (first|(refine aC fun _ _=>?_)|refine zHg ?_|simp(disch:=omega) [go_sem,hk,hi,fQ])
  try any_goals omega
  refine bBk [1000] [] [] 10000 _ _ (Fits.mk' (by simp[go_sem,fQ]) (by simp[go_sem,fQ])) (by simp[go_sem,fQ]) (by simp[go_sem,fQ]) (hd) (by simp[go_sem,fQ]) (by simp[go_sem,fQ]) ?_
  repeat' (first|(refine aC fun _ _=>?_)|refine zHg ?_|simp(disch:=omega) [go_sem,hk,hi,fQ])
  refine cV ⟨68,[(6,.ptr 6 0 0)],[(6,⟨false,false,false,3,[.agg [.sc (.string h.name),.list false false (h.args.map aI),.ref 900 0 (k+j)]],0⟩),(900,⟨true,false,false,3,E.map bP++ [zLt],0⟩)]⟩ [.agg [.sc (.string h.name),.list false false (h.args.map aI),.ref 900 0 (k+j)]] (Le.renSub [(11002,900)] [(900,11002)] (by simp[go_sem]) (by simp[go_sem]) (Le.sub4 rfl (by simp[go_sem]))) (by simp[go_sem]) ⟨rfl,rfl⟩
 refine key.shared (s':=?_) (y:= .agg [.sc (.string h.name),.list false false (h.args.map aI),.list false false (E.map bP)]) (by simp[go_sem,hel,hsg];rfl) (by simp[go_sem]) (by simp[go_sem]) (by simp[go_sem])
def pJ (m:Mu):List Mu->Nat->Int
 | [],_=> -1
 |x::r,i=>if m=x then i else pJ m r (i+1)
theorem aI6 {m:Mu}: ∀{L:List Mu} {i:Nat},0<=pJ m L i↔m∈L
 | [],i=>by simp[pJ]
 |x::r,i=>by
  rw[pJ]
  by_cases h:m=x
  ·rw[if_pos h];simp[h]
  ·rw[if_neg h,aI6];simp[h]
theorem bNs (m x:Mu):m=x↔(m.kind=x.kind/\m.rule=x.rule/\m.index=x.index):=by
 cases m;cases x;simp
theorem bNt (L:List Mu) (le fu:Bool) (m:Mu):ACall prog 68 [.list le fu (L.map dA),dA m] (fun r=>r=nt .i64 (pJ m L 0)):=by
 refine ACall.bound (i:=0) rfl call68 fun hb=>?_
 rw[List.length_map]at hb
 have hb:L.length<=140737488355328:=hb
 generalize hV:pJ m L 0=V
 refine aU func68 call68 rfl (by simp[ntmps68]) ?_;simp only[ntmps68,results68]
 repeat' (first|(refine aC fun _ _=>?_)|refine zHg ?_|simp(disch:=omega) [go_sem])
 refine bS [0,3,7] [] (fun i:Nat=> [(8,nt .i64 i)]) (fun i:Nat=> []) (fun i:Nat=>L.length - i) (fun i:Nat=>i<=L.length/\pJ m (L.drop i) i=V) (0) (Le.sub4 rfl (by simp[go_sem])) ⟨?_⟩ ?_
 ·exact⟨Nat.zero_le _,hV⟩
 intro i ⟨hi,hG⟩ AA hAA;simp only[kL,Nat.reduceBEq,Nat.reduceEqDiff]
 clear hV
 by_cases hlt:i<L.length
 ·rw[List.drop_eq_getElem_cons hlt,pJ]at hG
  generalize hx:L[i]=x at*
  have he:=bNs m x
  by_cases hq:m=x
  ·rw[if_pos hq]at hG
   subst hG
   have he:=he.1 hq
   obtain⟨e1,e2,e3⟩:=he
   repeat' (first|(refine aC fun _ _=>?_)|refine zHg ?_|(refine aN [] ?_;simp[go_sem,hlt,hx,e1,e2,e3,dA])|simp(disch:=omega) [go_sem,hlt,hx,e1,e2,e3,dA]|refine zDr 6 aQ ?_|fail)
  ·rw[if_neg hq]at hG
   have he: ¬(m.kind=x.kind/\m.rule=x.rule/\m.index=x.index):=fun h=>hq (he.2 h)
   repeat' (first|(refine aC fun _ _=>?_)|refine zHg ?_|(refine(hAA.next (i+1) (Le.sub4 rfl (by simp[go_sem,dA])) (by(try dsimp only);omega) ?_))|simp(disch:=omega) [go_sem,hlt,hx,he,dA]|refine zDr 6 aQ ?_|fail)
   try any_goals omega
   all_goals exact⟨hlt,hG⟩
 ·obtain rfl:i=L.length:=by omega
  rw[List.drop_length,pJ]at hG
  subst hG
  repeat' (first|(refine aC fun _ _=>?_)|refine zHg ?_|(refine aN [] ?_;simp[go_sem])|simp(disch:=omega) [go_sem])
theorem bNu (L:List Mu) (le fu:Bool) (m:Mu):ACall prog 32 [.list le fu (L.map dA),dA m] (fun r=>r=bl (decide (m∈L))):=by
 have h:=bNt L le fu m
 have e:=aI6 (m:=m) (L:=L) (i:=0)
 generalize pJ m L 0=V at*
 by_cases hm:m∈L
 ·rw[decide_eq_true hm]
  have e:=e.2 hm
  refine aU func32 call32 rfl (by simp[ntmps32]) ?_;simp only[ntmps32,results32]
  repeat' (first|(refine aC fun _ _=>?_)|refine zHg ?_|(refine aN [] ?_;simp[go_sem,e])|refine aO rfl (h) (by simp) ?_|simp(disch:=omega) [go_sem,e])
 ·rw[decide_eq_false hm]
  have e: ¬0<=V:=fun h=>hm (e.1 h)
  refine aU func32 call32 rfl (by simp[ntmps32]) ?_;simp only[ntmps32,results32]
  repeat' (first|(refine aC fun _ _=>?_)|refine zHg ?_|(refine aN [] ?_;simp[go_sem,e])|refine aO rfl (h) (by simp) ?_|simp(disch:=omega) [go_sem,e])
def kW (l:List Rl) (m:Mu):Int:=if m.kind<1\/5<m.kind then 20 else if m∈kB l then 0 else 12
def rT (l:List Rl) (m:Mu):AV:=if kW l m=0 then .own 3 ((W4 l m).map bX)else .list false true []
theorem bNv {l:List Rl} {m:Mu}:kW l m=0↔m∈kB l:=by
 unfold kW
 have hk:m∈kB l->1<=m.kind/\m.kind<=5:=fun h=>by
  obtain⟨i,_,h⟩:=F8.1 h
  rcases W2.1 h with rfl|⟨k,h1,rfl|rfl⟩|⟨p,k,h1,h2,h3,rfl⟩|⟨k,h1,h2,rfl⟩<;>simp
 by_cases h1:m.kind<1\/5<m.kind
 ·rw[if_pos h1]
  exact⟨fun h=>absurd h (by decide),fun h=>by have:=hk h;omega⟩
 ·rw[if_neg h1]
  by_cases h2:m∈kB l
  ·rw[if_pos h2];simp[h2]
  ·rw[if_neg h2];simp[h2]
theorem aI7 (m:Mu) (C:List ByteArray) (l:List Rl): ∀n,(pG m C l n).length<=n
 |0=>by simp[pG]
 |n+1=>by
  rw[pG,List.length_append]
  have:=aI7 m C l n
  split
  ·split<;>simp<;>omega
  ·simp;omega
theorem bNw (i:Nat) (r:Rl) (C:List ByteArray) (m:Mu) (hz:SzM r) (hC:C.length<=17820) (h:m∈gH i r C) (hk:m.kind≠1):
 ACall prog 34 [bX r,dA m,.list false false (C.map bG)] (fun v=>v=bX (kT r m C))\/
 (¬r.body.length=0/\MCall prog 34 [.agg [.sc (.string r.head.name),.list false false (r.head.args.map aI),.ref 1000 0 r.body.length],dA m,.list false false (C.map bG)] [(1000,fQ r.body)] (fun v o'=>v=bX (kT r m C)/\o'= [])):=by
 have hbl:=hz.body
 rcases W2.1 h with rfl|⟨k,h1,rfl|rfl⟩|⟨p,k,h1,h2,h3,rfl⟩|⟨k,h1,h2,rfl⟩
 ·exact absurd rfl hk
 ·refine .inr ⟨by omega,?_⟩
  have e:kT r ⟨2,i,k⟩ C=⟨r.head,r.body.eraseIdx k⟩:=by unfold kT;rw[if_pos rfl];rfl
  rw[e]
  exact bNr ⟨2,i,k⟩ C k rfl rfl r h1 (by omega)
 ·refine .inr ⟨by omega,?_⟩
  have e:kT r ⟨3,i,k⟩ C=⟨r.head,iE qO k r.body⟩:=by unfold kT;rw[if_neg (by simp),if_pos rfl];rfl
  rw[e]
  exact bNn ⟨3,i,k⟩ C k rfl rfl r h1 (by omega)
 ·refine .inl ?_
  have hc:0<C.length:=by omega
  have hsl:=rS hz
  have e1:(p*C.length+k) / C.length=p:=by
   rw[Nat.mul_comm,Nat.mul_add_div hc,Nat.div_eq_of_lt h2,Nat.add_zero]
  have e2:(p*C.length+k) % C.length=k:=by
   rw[Nat.mul_comm,Nat.mul_add_mod,Nat.mod_eq_of_lt h2]
  have e:kT r ⟨4,i,(p*C.length+k:Nat)⟩ C=yD p C[k] r:=by
   unfold kT
   rw[if_neg (by simp),if_neg (by simp),if_pos rfl]
   dsimp only[Int.toNat_natCast]
   rw[e1,e2,kC h2]
  rw[e]
  refine bNl ⟨4,i,(p*C.length+k:Nat)⟩ C p k rfl ?_ (by omega) ?_ h2 r hz
  ·show Int.tdiv ((p*C.length+k:Nat):Int) (C.length:Int)=p
   rw[<-Int.ofNat_tdiv,e1]
  ·show Int.tmod ((p*C.length+k:Nat):Int) (C.length:Int)=k
   rw[<-Int.ofNat_tmod,e2]
 ·rw[yF]at h1
  cases k with
  |zero=>
   refine .inl ?_
   rw[bKi]at h2
   have e:kT r ⟨5,i,(0:Nat)⟩ C=⟨pF r.head,r.body⟩:=by
    unfold kT
    rw[if_neg (by simp),if_neg (by simp),if_neg (by simp),if_pos rfl,if_pos (show((0:Nat):Int)=0 from rfl)]
   rw[e]
   have:=hz.head
   have:=nF r.head.args
   exact bNm ⟨5,i,(0:Nat)⟩ C rfl rfl r (aH0 h2).1 (by omega)
  |succ k=>
   have hkl:k<r.body.length:=by omega
   rw[bKj hkl]at h2
   refine .inr ⟨by omega,?_⟩
   have e:kT r ⟨5,i,(k+1:Nat)⟩ C=⟨r.head,iE qN k r.body⟩:=by
    unfold kT
    rw[if_neg (by simp),if_neg (by simp),if_neg (by simp),if_pos rfl,if_neg (by(try simp);omega)];rfl
   rw[e]
   have:=hz.atom r.body[k] (List.getElem_mem hkl)
   have:=nF r.body[k].atom.args
   exact bNo ⟨5,i,(k+1:Nat)⟩ C k rfl (by simp) r hkl (by omega) (aH0 h2).1 (by omega)
theorem aI8 (l:List Rl) (le fu:Bool) (m:Mu) (hz: ∀r∈l,SzM r) (hl:l.length<=99):ACall prog 14 [.list le fu (l.map bX),dA m] (fun v=>v= .tup [rT l m,nt .i64 (kW l m)]):=by
 by_cases hk1:m.kind<1
 ·have e:kW l m=20:=by unfold kW;rw[if_pos (.inl hk1)]
  unfold rT
  rw[e,if_neg (by decide)]
  refine aU func14 call14 rfl (by simp[ntmps14]) ?_;simp only[ntmps14,results14]
  repeat' (first|(refine aC fun _ _=>?_)|refine zHg ?_|(refine aN [] ?_;simp[go_sem,hk1])|simp(disch:=omega) [go_sem,hk1])
 ·by_cases hk2:5<m.kind
  ·have e:kW l m=20:=by unfold kW;rw[if_pos (.inr hk2)]
   unfold rT
   rw[e,if_neg (by decide)]
   refine aU func14 call14 rfl (by simp[ntmps14]) ?_;simp only[ntmps14,results14]
   repeat' (first|(refine aC fun _ _=>?_)|refine zHg ?_|(refine aN [] ?_;simp[go_sem,hk1,hk2])|simp(disch:=omega) [go_sem,hk1,hk2])
  ·have hc:=(X6 l le fu hz hl).frz
   have hcl:=X7 hz hl
   have hE:kW l m=if m∈kB l then 0 else 12:=by unfold kW;rw[if_neg (by omega)]
   by_cases hr1:m.rule<0
   ·have hn: ¬m∈kB l:=fun h=>by
     obtain⟨i,hi,h⟩:=F8.1 h
     have:=W3 h;omega
    rw[if_neg hn]at hE
    unfold rT
    rw[hE,if_neg (by decide)]
    generalize eA l=C at*
    refine aU func14 call14 rfl (by simp[ntmps14]) ?_;simp only[ntmps14,results14]
    repeat' (first|(refine aC fun _ _=>?_)|refine zHg ?_|(refine aN [] ?_;simp[go_sem,hk1,hk2,hr1])|refine aO rfl (hc) (by simp) ?_|simp(disch:=omega) [go_sem,hk1,hk2,hr1]|refine zDr 24 aQ ?_|fail)
   ·by_cases hr2:(l.length:Int)<=m.rule
    ·have hn: ¬m∈kB l:=fun h=>by
      obtain⟨i,hi,h⟩:=F8.1 h
      have:=W3 h;omega
     rw[if_neg hn]at hE
     unfold rT
     rw[hE,if_neg (by decide)]
     generalize eA l=C at*
     refine aU func14 call14 rfl (by simp[ntmps14]) ?_;simp only[ntmps14,results14]
     repeat' (first|(refine aC fun _ _=>?_)|refine zHg ?_|(refine aN [] ?_;simp[go_sem,hk1,hk2,hr1,hr2])|refine aO rfl (hc) (by simp) ?_|simp(disch:=omega) [go_sem,hk1,hk2,hr1,hr2]|refine zDr 24 aQ ?_|fail)
    ·obtain⟨i,hi⟩: ∃i:Nat,m.rule=(i:Int):=⟨m.rule.toNat,by omega⟩
     have hil:i<l.length:=by omega
     have hmem:m∈kB l↔m∈gH i l[i] (eA l):=by
      rw[F8]
      constructor
      ·rintro⟨i',h1,h2⟩
       have:=W3 h2
       obtain rfl:i'=i:=by omega
       rw[kC hil]at h2
       exact h2
      ·intro h
       exact⟨i,hil,by rw[kC hil];exact h⟩
     have hof:=(aIe i l[i] (eA l) (hz _ (List.getElem_mem hil)) (by omega) hcl).frz
     have hco:=bNu (gH i l[i] (eA l)) false false m
     by_cases hm:m∈gH i l[i] (eA l)
     ·have hE0:kW l m=0:=by rw[hE,if_pos (hmem.2 hm)]
      unfold rT
      rw[hE0,if_pos rfl]
      rw[decide_eq_true hm]at hco
      have hcls:=fun h=>bNw i l[i] (eA l) m (hz _ (List.getElem_mem hil)) hcl hm h
      have hget:l.getD i yR=l[i]:=kC hil
      unfold W4
      have hdl:=aI7 m (eA l) l
      have hnx: ∀n (h:n<l.length),pG m (eA l) l (n+1)=pG m (eA l) l n++(if m.rule=(n:Int)then(if m.kind=1 then[]else[kT l[n] m (eA l)])else[l[n]]):=fun n h=>by rw[pG,kC h]
      clear hE hmem hE0 hm
      generalize gH i l[i] (eA l)=O at*
      generalize eA l=C at*
      generalize hR:pG m C l l.length=R
      have hk3: ¬(5:Int)<m.kind:=hk2
      refine aU func14 call14 rfl (by simp[ntmps14]) ?_;simp only[ntmps14,results14]
      repeat' (first|(refine aC fun _ _=>?_)|refine zHg ?_|(refine zdd ?_ ?_<;>(intro h;first|(exfalso;omega)|(simp only[h,zT])))|refine aO rfl (hc) (by simp) ?_|refine bR rfl (hof) rfl (by simp) ?_|refine bR rfl (hco) rfl (by simp) ?_|simp(disch:=omega) [go_sem,hk1,hk2,hr1,hr2,hi,hil]|refine zDr 24 aQ ?_|fail)
      clear hc hof hco hcl hr1 hr2 hget hk3
      obtain⟨kd,ru,ix⟩:=m
      dsimp only at hi hk1 hk2 hcls hnx
      subst hi
      refine bS [3,6,44,45] [900,3] (fun y:Nat×List Rl=> [(46,nt .i64 y.1),(7,.ref 900 0 y.2.length)]) (fun y:Nat×List Rl=> [(900,⟨true,false,false,3,y.2.map bX,0⟩),(3,⟨false,true,false,3,[dA ⟨kd,(i:Int),ix⟩],0⟩)]) (fun y:Nat×List Rl=>l.length - y.1) (fun y:Nat×List Rl=>y.1<=l.length/\y.2=pG ⟨kd,(i:Int),ix⟩ C l y.1) ((0,[])) (by refine Le.trans ?_ (Le.frz 3 rfl (by show(0:Nat)≠1;decide));exact(by refine Le.trans ?_ (Le.nil (i:=7) (T:=900) (es:=3) rfl);exact(Le.sub4 rfl (by simp[go_sem,List.map_nil,List.length_nil])))) ⟨?_⟩ ?_
      ·exact⟨Nat.zero_le _,rfl⟩
      intro⟨j,A⟩ ⟨hj,hA⟩ AA hAA;simp only[kL,Nat.reduceBEq,Nat.reduceEqDiff]
      dsimp only at*
      have hAl:A.length<=j:=by rw[hA];exact hdl j
      by_cases hlt:j<l.length
      ·have hn:=hnx j hlt
       rw[<-hA]at hn
       have hzr:=hz _ (List.getElem_mem hlt)
       have hcp:=bKa l[j] hzr
       by_cases hji:j=i
       ·subst hji
        rw[if_pos rfl]at hn
        by_cases hk:kd=1
        ·rw[if_pos hk,List.append_nil]at hn
         repeat' (first|(refine aC fun _ _=>?_)|refine zHg ?_|(refine(hAA.next ((j+1,A)) (Le.sub4 rfl (by simp[go_sem,hk])) (by(try dsimp only);omega) ?_))|simp(disch:=omega) [go_sem,hlt,hk])
         try any_goals omega
         all_goals exact⟨hlt,hn.symm⟩
        ·rw[if_neg hk]at hn
         have hcp1:=bKb l[j] hzr
         have hcl:=hcls hk
         generalize kT l[j] ⟨kd,(j:Int),ix⟩ C=X at*
         generalize hrj:l[j]=r at*
         clear hcls hnx
         rcases hcl with h1|⟨h0,h2⟩
         ·repeat' (first|(refine aC fun _ _=>?_)|refine zHg ?_|(with_reducible refine dF ?_;first|(exact dC)|(refine zSkip ?_)|(refine dD rfl ?_ ?_))|(with_reducible refine dE ?_;first|(refine zDone ?_)|(refine zQu 0 rfl rfl rfl rfl ?_)|(refine zQu 1 rfl rfl rfl rfl ?_)|(refine zQu 3 rfl rfl rfl rfl ?_)|(refine zQu 4 rfl rfl rfl rfl ?_)|(refine zQu 8 rfl rfl rfl rfl ?_)|(refine zAll ?_;show cO _ _ _ _ _ _ _))|with_reducible refine dH ?_|refine aO rfl (hcp) (by simp) ?_|refine aO rfl (h1) (by simp) ?_|(refine(hAA.next ((j+1,A++ [X])) (Le.sub4 rfl (by simp[go_sem])) (by(try dsimp only);omega) ?_))|simp(disch:=omega) [go_sem,hlt,hrj,hk]|refine zAo ?_|refine zAny aQ ?_|fail)
          try any_goals omega
          all_goals exact⟨hlt,hn.symm⟩
         ·have hcp1:=hcp1 h0
          clear hcp
          skip
          repeat' (first|((fail_if_success (refine rK ?_));refine jF (fun K hK=>?_))|refine zHg ?_|simp(disch:=omega) [go_sem,hlt,hrj,hk])
          (try refine jF (fun K hK=>?_));refine rI (s0:=⟨75,[(3,.ptr 3 0 0),(6,.list false false (C.map bG)),(7,.ref 900 0 A.length),(9,.ptr 9 0 0),(44,.list le fu (l.map bX)),(45,nt .i64 l.length),(46,nt .i64 j)],(3,⟨false,true,false,3,[dA ⟨kd,(j:Int),ix⟩],0⟩)::(9,⟨false,true,false,3,[bX r],0⟩):: [(900,⟨true,false,false,3,A.map bX,0⟩)]⟩) (by refine Le.trans ?_ (Le.frzP 9 rfl (by intro h;cases h));exact(Le.sub4 rfl (by simp[go_sem]))) ?_
          repeat' (first|(refine aC fun _ _=>?_)|refine zHg ?_|(with_reducible refine dF ?_;first|(exact dC)|(refine zSkip ?_)|(refine dD rfl ?_ ?_))|(with_reducible refine dE ?_;first|(refine zDone ?_)|(refine zQu 0 rfl rfl rfl rfl ?_)|(refine zQu 1 rfl rfl rfl rfl ?_)|(refine zQu 3 rfl rfl rfl rfl ?_)|(refine zQu 4 rfl rfl rfl rfl ?_)|(refine zQu 8 rfl rfl rfl rfl ?_)|(refine zAll ?_;show cO _ _ _ _ _ _ _))|simp(disch:=omega) [go_sem,hlt,hrj,hk]|refine zAny aQ ?_|fail)
          all_goals refine bH [] [] 10000 _ _ (Fits.mk' (by simp[go_sem]) (by simp[go_sem])) (by simp[go_sem]) (by simp[go_sem]) (hcp1) (by simp[go_sem]) (by simp[go_sem]) ?_
          all_goals repeat' (first|(refine aC fun _ _=>?_)|refine zHg ?_|(with_reducible refine dF ?_;first|(exact dC)|(refine zSkip ?_)|(refine dD rfl ?_ ?_))|(with_reducible refine dE ?_;first|(refine zDone ?_)|(refine zQu 0 rfl rfl rfl rfl ?_)|(refine zQu 1 rfl rfl rfl rfl ?_)|(refine zQu 3 rfl rfl rfl rfl ?_)|(refine zQu 4 rfl rfl rfl rfl ?_)|(refine zQu 8 rfl rfl rfl rfl ?_)|(refine zAll ?_;show cO _ _ _ _ _ _ _))|with_reducible refine dH ?_|simp(disch:=omega) [go_sem,hlt,hrj,hk])
          all_goals refine bH [(1000,10900)] [(10900,1000)] 20000 _ _ (Fits.mk' (by simp[go_sem,fQ]) (by simp[go_sem,fQ])) (by simp[go_sem,fQ]) (by simp[go_sem,fQ]) (h2) (by simp[go_sem,fQ]) (by simp[go_sem,fQ]) ?_
          all_goals repeat' (first|(refine aC fun _ _=>?_)|refine zHg ?_|(with_reducible refine dF ?_;first|(exact dC)|(refine zSkip ?_)|(refine dD rfl ?_ ?_))|(with_reducible refine dE ?_;first|(refine zDone ?_)|(refine zQu 0 rfl rfl rfl rfl ?_)|(refine zQu 1 rfl rfl rfl rfl ?_)|(refine zQu 3 rfl rfl rfl rfl ?_)|(refine zQu 4 rfl rfl rfl rfl ?_)|(refine zQu 8 rfl rfl rfl rfl ?_)|(refine zAll ?_;show cO _ _ _ _ _ _ _))|with_reducible refine dH ?_|(refine(hAA.next ((j+1,A++ [X])) (Le.sub4 rfl (by simp[go_sem])) (by(try dsimp only);omega) ?_))|simp(disch:=omega) [go_sem,hlt,hrj,hk]|refine zAo ?_|fail)
          try any_goals omega
          all_goals exact⟨hlt,hn.symm⟩
       ·rw[if_neg (by omega)]at hn
        have hji2: ¬(j:Int)=(i:Int):=by omega
        generalize hrj:l[j]=r at*
        clear hcls hnx
        repeat' (first|(refine aC fun _ _=>?_)|refine zHg ?_|refine aO rfl (hcp) (by simp) ?_|(refine(hAA.next ((j+1,A++ [r])) (Le.sub4 rfl (by simp[go_sem])) (by(try dsimp only);omega) ?_))|simp(disch:=omega) [go_sem,hlt,hrj,hji,hji2]|refine zAo ?_|fail)
        try any_goals omega
        all_goals exact⟨hlt,hn.symm⟩
      ·obtain rfl:j=l.length:=by omega
       obtain rfl:=hA.trans hR
       repeat' (first|(refine aC fun _ _=>?_)|refine zHg ?_|(refine aN [] ?_;simp[go_sem])|simp(disch:=omega) [go_sem])
     ·have hE0:kW l m=12:=by rw[hE,if_neg (fun h=>hm (hmem.1 h))]
      unfold rT
      rw[hE0,if_neg (by decide)]
      rw[decide_eq_false hm]at hco
      clear hE hmem hE0 hm
      generalize gH i l[i] (eA l)=O at*
      generalize eA l=C at*
      refine aU func14 call14 rfl (by simp[ntmps14]) ?_;simp only[ntmps14,results14]
      repeat' (first|(refine aC fun _ _=>?_)|refine zHg ?_|(refine zdd ?_ ?_<;>(intro h;first|(exfalso;omega)|(simp only[h,zT])))|(refine aN [] ?_;simp[go_sem,hk1,hk2,hr1,hr2,hi,hil])|refine aO rfl (hc) (by simp) ?_|refine bR rfl (hof) rfl (by simp) ?_|refine bR rfl (hco) rfl (by simp) ?_|simp(disch:=omega) [go_sem,hk1,hk2,hr1,hr2,hi,hil]|refine zDr 24 aQ ?_|fail)
set_option maxHeartbeats 8000000
def tM (n:Nat):ByteArray:=⟨#[UInt8.ofNat (48+n)]⟩
theorem bNx (n:Nat) (h:n<=1):ACall prog 154 [nt .i64 n] (fun r=>r= .sc (.string (tM n))):=by
 have hc:n=0\/n=1:=by omega
 rcases hc with rfl|rfl
 all_goals refine aU func154 call154 rfl (by simp[ntmps154]) ?_;simp only[ntmps154,results154]
 all_goals repeat' (first|(refine aC fun _ _=>?_)|refine zHg ?_|(refine aN [] ?_;simp[go_sem])|simp(disch:=omega) [go_sem])
 all_goals kernel_rfl
theorem bNy (n:Nat) (h:n<=1):ACall prog 123 [nt .i64 n,nt .i64 10] (fun r=>r= .sc (.string (tM n))):=by
 have h1:=bNx n h
 have a1:(0:Int)<=n:=by omega
 have a2:(n:Int)<100:=by omega
 generalize tM n=q at*
 refine aU func123 call123 rfl (by simp[ntmps123]) ?_;simp only[ntmps123,results123]
 repeat' (first|(refine aC fun _ _=>?_)|refine zHg ?_|(refine aN [] ?_;simp[go_sem,a1,a2])|refine aO rfl (h1) (by simp) ?_|simp(disch:=omega) [go_sem,a1,a2])
theorem bNz (n:Nat) (h:n<=1):ACall prog 76 [nt .i64 n] (fun r=>r= .sc (.string (tM n))):=by
 have h1:=bNy n h
 generalize tM n=q at*
 refine aU func76 call76 rfl (by simp[ntmps76]) ?_;simp only[ntmps76,results76]
 repeat' (first|(refine aC fun _ _=>?_)|refine zHg ?_|(refine aN [] ?_;simp[go_sem])|refine aO rfl (h1) (by simp) ?_|simp(disch:=omega) [go_sem])
theorem aI9 (n:Nat) (h:n<=1):ACall prog 38 [nt .i64 n] (fun r=>r= .sc (.string (tM n))):=by
 have h1:=bNz n h
 generalize tM n=q at*
 refine aU func38 call38 rfl (by simp[ntmps38]) ?_;simp only[ntmps38,results38]
 repeat' (first|(refine aC fun _ _=>?_)|refine zHg ?_|(refine aN [] ?_;simp[go_sem])|refine aO rfl (h1) (by simp) ?_|simp(disch:=omega) [go_sem])
def H0:ByteArray:=⟨#[110,101,103,97,116,101,32,108,105,116,101,114,97,108,32,48,32,111,102,32,114,117,108,101,32,49]⟩
def fY:Nat->ByteArray
 |0=>⟨#[]⟩
 |1=>⟨#[110,101,103,97,116,101,32,108,105,116,101,114,97,108,32]⟩
 |2=>⟨#[110,101,103,97,116,101,32,108,105,116,101,114,97,108,32,48]⟩
 |3=>⟨#[110,101,103,97,116,101,32,108,105,116,101,114,97,108,32,48,32,111,102,32,114,117,108,101,32]⟩
 |_=>H0
theorem bN0 [PhG]:ACall prog 17 [dA ⟨3,1,0⟩] (fun r=>r= .sc (.string H0)):=by
 have h0:ACall prog 38 [nt .i64 0] (fun r=>r= .sc (.string ⟨#[48]⟩)):=(aI9 0 (by decide))
 have h1:ACall prog 38 [nt .i64 1] (fun r=>r= .sc (.string ⟨#[49]⟩)):=(aI9 1 (by decide))
 have e0:fY 0++⟨#[110,101,103,97,116,101,32,108,105,116,101,114,97,108,32]⟩=fY 1:=by kernel_rfl
 have e1:fY 1++⟨#[48]⟩=fY 2:=by kernel_rfl
 have e2:fY 2++⟨#[32,111,102,32,114,117,108,101,32]⟩=fY 3:=by kernel_rfl
 have e3:fY 3++⟨#[49]⟩=fY 4:=by kernel_rfl
 have ez:(⟨#[]⟩:ByteArray)=fY 0:=rfl
 have ef:fY 4=H0:=rfl
 have n0R:(⟨#[110,101,103,97,116,101,32,108,105,116,101,114,97,108,32]⟩:ByteArray)≠⟨#[82]⟩:=by decide
 have n1R:(⟨#[73]⟩:ByteArray)≠⟨#[82]⟩:=by decide
 have n2R:(⟨#[32,111,102,32,114,117,108,101,32]⟩:ByteArray)≠⟨#[82]⟩:=by decide
 have n0I:(⟨#[110,101,103,97,116,101,32,108,105,116,101,114,97,108,32]⟩:ByteArray)≠⟨#[73]⟩:=by decide
 have n2I:(⟨#[32,111,102,32,114,117,108,101,32]⟩:ByteArray)≠⟨#[73]⟩:=by decide
 have z0:(fY 0).size<=100:=by decide
 have z1:(fY 1).size<=100:=by decide
 have z2:(fY 2).size<=100:=by decide
 have z3:(fY 3).size<=100:=by decide
 refine aU func17 call17 rfl (by simp[ntmps17]) ?_;simp only[ntmps17,results17]
 repeat' (first|(refine aC fun _ _=>?_)|refine zHg ?_|simp(disch:=omega) [go_sem,tG])
 refine bS [1,17,18] [] (fun i:Nat=> [(19,nt .i64 i),(3,.sc (.string (fY i)))]) (fun i:Nat=> []) (fun i:Nat=>4 - i) (fun i:Nat=>i<=4) (0) (Le.sub4 rfl (by simp[go_sem,tG,ez])) ⟨?_⟩ ?_
 ·exact Nat.zero_le _
 intro i hi AA hAA;simp only[kL,Nat.reduceBEq,Nat.reduceEqDiff]
 have hc:i=0\/i=1\/i=2\/i=3\/i=4:=by omega
 clear hi
 rcases hc with rfl|rfl|rfl|rfl|rfl
 ·generalize hp0:fY 0=p0 at*
  generalize hq0:fY 1=q0 at*
  repeat' (first|(refine aC fun _ _=>?_)|refine zHg ?_|(refine(hAA.next (1) (Le.sub4 rfl (by simp[go_sem,hq0])) (by(try dsimp only);omega) ?_))|simp(disch:=omega) [go_sem,n0R,n1R,n2R,n0I,n2I,e0]|refine zAo ?_|fail)
  all_goals(first|omega|decide|skip)
  all_goals exact⟨by omega⟩
 ·generalize hp1:fY 1=p1 at*
  generalize hq1:fY 2=q1 at*
  repeat' (first|(refine aC fun _ _=>?_)|refine zHg ?_|refine aO rfl (h0) (by simp) ?_|(refine(hAA.next (2) (Le.sub4 rfl (by simp[go_sem,hq1])) (by(try dsimp only);omega) ?_))|simp(disch:=omega) [go_sem,n0R,n1R,n2R,n0I,n2I,e1]|refine zAo ?_|fail)
  all_goals(first|omega|decide|skip)
  all_goals exact⟨by omega⟩
 ·generalize hp2:fY 2=p2 at*
  generalize hq2:fY 3=q2 at*
  repeat' (first|(refine aC fun _ _=>?_)|refine zHg ?_|(refine(hAA.next (3) (Le.sub4 rfl (by simp[go_sem,hq2])) (by(try dsimp only);omega) ?_))|simp(disch:=omega) [go_sem,n0R,n1R,n2R,n0I,n2I,e2]|refine zAo ?_|fail)
  all_goals(first|omega|decide|skip)
  all_goals exact⟨by omega⟩
 ·generalize hp3:fY 3=p3 at*
  generalize hq3:fY 4=q3 at*
  repeat' (first|(refine aC fun _ _=>?_)|refine zHg ?_|refine aO rfl (h1) (by simp) ?_|(refine(hAA.next (4) (Le.sub4 rfl (by simp[go_sem,hq3])) (by(try dsimp only);omega) ?_))|simp(disch:=omega) [go_sem,n0R,n1R,n2R,n0I,n2I,e3]|refine zAo ?_|fail)
  all_goals(first|omega|decide|skip)
  all_goals exact⟨by omega⟩
 ·rw[ef]
  repeat' (first|(refine aC fun _ _=>?_)|refine zHg ?_|(refine aN [] ?_;simp[go_sem])|simp(disch:=omega) [go_sem])
set_option maxHeartbeats 16000000
theorem Y4: ∀r∈ [kV,lR],SzM r:=by
 intro r hr
 simp only[List.mem_cons,List.not_mem_nil,or_false]at hr
 rcases hr with rfl|rfl
 ·exact⟨by decide,by decide,by decide⟩
 ·exact⟨by decide,by decide,by decide⟩
theorem bN1 [PhG]:ACall prog 7 [] (fun r=>r=bl true):=by
 have h1:=(aHb cH (by decide))
 have h2:=(aHb cI (by decide))
 rw[bMb]at h1
 rw[bNi]at h2
 have h3:=(aIf [kV,lR] true false Y4 (by decide))
 rw[Y3]at h3
 have h4:=(aI8 [kV,lR] true false ⟨4,1,5⟩ Y4 (by decide))
 have h5:=(aI8 [kV,lR] true false ⟨4,1,0⟩ Y4 (by decide))
 have e4:kW [kV,lR] ⟨4,1,5⟩=0:=by rw[bNv,Y3];decide
 have e5:kW [kV,lR] ⟨4,1,0⟩=12:=by
  unfold kW
  rw[Y3,if_neg (by decide),if_neg (by decide)]
 unfold rT at h4 h5
 rw[e4,if_pos rfl,bNj]at h4
 rw[e5,if_neg (by decide)]at h5
 have h6:=(bId [pI,qP] [pI,qP] true false true false (by
  intro r hr
  simp only[List.mem_cons,List.not_mem_nil,or_false]at hr
  rcases hr with rfl|rfl<;>decide))
 rw[decide_eq_true rfl]at h6
 have h7:=bN0
 have hds:H0=⟨#[110,101,103,97,116,101,32,108,105,116,101,114,97,108,32,48,32,111,102,32,114,117,108,101,32,49]⟩:=rfl
 clear e4 e5
 unfold cH at h1
 unfold cI at h2
 simp only[List.map_cons,List.map_nil]at h1 h2 h3 h4 h5 h6
 generalize kV=x0 at*
 generalize lR=x1 at*
 generalize pI=y0 at*
 generalize qP=y1 at*
 refine aU func7 call7 rfl (by simp[ntmps7]) ?_;simp only[ntmps7,results7]
 repeat' (first|(refine aC fun _ _=>?_)|refine zHg ?_|(refine aN [] ?_;simp[go_sem,dA,hds])|refine aO rfl (h1) (by simp) ?_|refine aO rfl (h2) (by simp) ?_|refine aO rfl (h3) (by simp) ?_|refine aO rfl (h4) (by simp) ?_|refine aO rfl (h5) (by simp) ?_|refine aO rfl (h6) (by simp) ?_|refine aO rfl (h7) (by simp) ?_|simp(disch:=omega) [go_sem,dA,hds])
open Go.RowKit
theorem bN2 {m:Int} {l:List Rl} (h:qJ m l=true):(∀r∈l,SzM r)/\(l.length:Int)<=m:=by
 unfold qJ at h
 rw[Bool.and_eq_true,Bool.and_eq_true,List.all_eq_true,decide_eq_true_eq]at h
 refine⟨fun r hr=>?_,h.1⟩
 have h1:=h.2.1 r hr
 unfold pD at h1
 rw[Bool.and_eq_true,Bool.and_eq_true,decide_eq_true_eq,List.all_eq_true]at h1
 obtain⟨a1,a2,a3⟩:=h1
 refine⟨?_,by omega,fun b hb=>?_⟩
 ·have:=C9 (by decide) a1
  rw[fB]at this;omega
 ·have:=C9 (by decide) (a3 b hb)
  rw[fB]at this;omega
theorem bN3 (l:List Rl) (m:Int) (hm:0<=m/\m<=100) (h:(∀r∈l,F5 r)/\l.length<=cL):ACall prog 6 [.list false false (l.map bX),nt .i64 m] (fun r=>r=bl (qJ m l)):=
 (bJa (M:=reachBytes) (by decide) (by decide+kernel) l false m hm (fun r hr=>(h.1 r hr).1) h.2 (fun r hr=>(h.1 r hr).2))
theorem bN4 {S:List ByteArray} {p:Nat} (h:p<S.length):cS p 0 S=S[p]:=by
 unfold cS
 rw[if_pos ⟨by omega,by omega⟩,show((p:Int) - (0:Nat)).toNat=p by omega,kC h]
theorem bN5 (l:List Rl) (le fu:Bool) (i:Nat) (hil:i<l.length) (C:List ByteArray) (M:Nat) (hM:M<=1152921504606846976) (hz:SzM l[i]) (hn:vC M l[i]) (hi:i<=1000) (hC:C.length<=17820):
 ACall prog 25 [.list le fu (l.map bX),nt .i64 i,.list false false (C.map bG)] (fun v=>v= .own 3 ((gH i l[i] C).map dA)):=by
 have hp0:=aId (-1) ⟨#[]⟩ M hM l[i] hz hn
 rw[aHr (.inl rfl)]at hp0
 have hpp: ∀(p:Nat) (hp:p<(dS l[i]).length),ACall prog 58 [bX l[i],nt .i64 p,.sc (.string ⟨#[]⟩)] (fun v=>v= .tup [bX l[i],nt .i64 (dS l[i]).length,.sc (.string (dS l[i])[p])]):=fun p hp=>by
  have h:=aId p ⟨#[]⟩ M hM l[i] hz hn
  rw[aHr (.inl rfl),bN4 hp]at h
  exact h
 have ha:=(aH4 l[i] (by have:=hz.body;omega)).frz
 have hsl:=rS hz
 have hbl:=hz.body
 have hal:=yF l[i]
 unfold gH
 generalize dS l[i]=S at*
 generalize eZ l[i]=A at*
 generalize cS (-1) 0 S=w0 at*
 have hili:i<l.length:=hil
 generalize hri:l[i]=r at*
 obtain⟨h,bs⟩:=r
 dsimp only at*
 have hbd:=G6 i
 have hpl:=G8 i C S
 have hil:=G7 i
 have hsw:=G9 i A
 have hpC: ∀p,p<=S.length->p*C.length<=180*17820:=fun p hp=>Nat.mul_le_mul (by omega) hC
 generalize hR: [⟨1,i,0⟩]++mO i bs.length++iC i C S S.length++iD i A A.length=R
 refine aU func25 call25 rfl (by simp[ntmps25]) ?_;simp only[ntmps25,results25]
 repeat' (first|(refine aC fun _ _=>?_)|refine zHg ?_|simp(disch:=omega) [go_sem,hili,hri])
 refine bS [0,1,2,27] [900,21] (fun y:Nat×List Mu=> [(28,nt .i64 y.1),(7,.ref 900 0 y.2.length)]) (fun y:Nat×List Mu=> [(900,⟨true,false,false,3,y.2.map dA,0⟩)]) (fun y:Nat×List Mu=>bs.length - y.1) (fun y:Nat×List Mu=>y.1<=bs.length/\y.2= [⟨1,i,0⟩]++mO i y.1) ((0,[⟨1,i,0⟩])) (Le.renSub [(21,900)] [(900,21)] (by simp[go_sem]) (by simp[go_sem]) (Le.sub4 rfl (by simp[go_sem]))) ⟨?_⟩ ?_
 ·exact⟨Nat.zero_le _,rfl⟩
 intro⟨k,N0⟩ ⟨hk,hM0⟩ AA hAA;simp only[kL,Nat.reduceBEq,Nat.reduceEqDiff]
 dsimp only at*
 have hMl:N0.length=1+2*k:=by rw[hM0,List.length_append,hbd];rfl
 by_cases hlt:k<bs.length
 ·repeat' (first|(refine aC fun _ _=>?_)|refine zHg ?_|(refine(hAA.next ((k+1,N0++ [⟨2,i,k⟩,⟨3,i,k⟩])) (Le.sub4 rfl (by simp[go_sem])) (by(try dsimp only);omega) ?_))|simp(disch:=omega) [go_sem,hlt]|refine zAo ?_|fail)
  try any_goals omega
  all_goals exact⟨hlt,by rw[hM0,mO,List.append_assoc];first|done|rfl|simp⟩
 ·obtain rfl:k=bs.length:=by omega
  clear hlt hk
  repeat' (first|(refine aC fun _ _=>?_)|refine zHg ?_|refine aO rfl (hp0) (by simp) ?_|simp(disch:=omega) [go_sem,hili,hri])
  refine bS [0,1,2,50] [900,9] (fun y:Nat×List Mu=> [(51,nt .i64 y.1),(7,.ref 900 0 y.2.length)]) (fun y:Nat×List Mu=> [(900,⟨true,false,false,3,y.2.map dA,0⟩)]) (fun y:Nat×List Mu=>S.length - y.1) (fun y:Nat×List Mu=>y.1<=S.length/\y.2=N0++iC i C S y.1) ((0,N0)) (Le.sub4 rfl (by simp[go_sem])) ⟨?_⟩ ?_
  ·exact⟨Nat.zero_le _,by simp[iC]⟩
  intro⟨p,N⟩ ⟨hpi,hN⟩ AA hAA;simp only[kL,Nat.reduceBEq,Nat.reduceEqDiff]
  dsimp only at*
  have hNl:N.length<=1+2*bs.length+p*C.length:=by rw[hN,List.length_append];have:=hpl p;omega
  have hpc:=hpC p hpi
  by_cases hlt:p<S.length
  ·have hpc1:=hpC (p+1) hlt
   rw[Nat.add_mul,Nat.one_mul]at hpc1
   have hAB:=hAA
   have hpq:=hpp p hlt
   have hsp:S.getD p zs=S[p]:=kC hlt
   have hnx:iC i C S (p+1)=iC i C S p++iB i p C S[p] C.length:=by rw[iC,hsp]
   generalize hse:S[p]=s at*
   repeat' (first|(refine aC fun _ _=>?_)|refine zHg ?_|refine aO rfl (hpq) (by simp) ?_|simp(disch:=omega) [go_sem,hlt,hse,hili,hri,bG])
   refine bS [0,1,2,12,15,50,51,65] [900,13] (fun y:Nat×List Mu=> [(66,nt .i64 y.1),(7,.ref 900 0 y.2.length)]) (fun y:Nat×List Mu=> [(900,⟨true,false,false,3,y.2.map dA,0⟩)]) (fun y:Nat×List Mu=>C.length - y.1) (fun y:Nat×List Mu=>y.1<=C.length/\y.2=N++iB i p C s y.1) ((0,N)) (Le.sub4 rfl (by simp[go_sem])) ⟨?_⟩ ?_
   ·exact⟨Nat.zero_le _,by simp[iB]⟩
   intro⟨k,O⟩ ⟨hk,hO⟩ AA hAA;simp only[kL,Nat.reduceBEq,Nat.reduceEqDiff]
   dsimp only at*
   have hOl:O.length<=N.length+k:=by rw[hO,List.length_append];have:=hil p C s k;omega
   by_cases hkl:k<C.length
   ·have hck:C.getD k zs=C[k]:=kC hkl
    have hnk:iB i p C s (k+1)=iB i p C s k++(if C[k]=s then[]else[⟨4,i,(p*C.length+k:Nat)⟩]):=by rw[iB,hck]
    have hpz:(0:Int)<=(p:Int)*(C.length:Int):=by rw[<-Int.natCast_mul];omega
    have hpz2:(p:Int)*(C.length:Int)<=3207600:=by rw[<-Int.natCast_mul];omega
    by_cases hq:C[k]=s
    ·rw[if_pos hq,List.append_nil]at hnk
     repeat' (first|(refine aC fun _ _=>?_)|refine zHg ?_|(refine(hAA.next ((k+1,O)) (Le.sub4 rfl (by simp[go_sem])) (by(try dsimp only);omega) ?_))|simp(disch:=omega) [go_sem,hkl,hq,bG])
     try any_goals omega
     all_goals exact⟨hkl,by rw[hO,hnk];first|done|rfl|simp⟩
    ·rw[if_neg hq]at hnk
     repeat' (first|(refine aC fun _ _=>?_)|refine zHg ?_|(refine(hAA.next ((k+1,O++ [⟨4,i,(p*C.length+k:Nat)⟩])) (Le.sub4 rfl (by simp[go_sem])) (by(try dsimp only);omega) ?_))|simp(disch:=omega) [go_sem,hkl,hq,bG]|refine zAo ?_|fail)
     try any_goals omega
     all_goals exact⟨hkl,by rw[hO,hnk,List.append_assoc];first|done|rfl|simp⟩
   ·obtain rfl:k=C.length:=by omega
    repeat' (first|(refine aC fun _ _=>?_)|refine zHg ?_|(refine(hAB.next ((p+1,O)) (Le.sub4 rfl (by simp[go_sem])) (by(try dsimp only);omega) ?_))|simp(disch:=omega) [go_sem])
    try any_goals omega
    all_goals exact⟨hlt,by rw[hO,hN,hnx,List.append_assoc];first|done|rfl|simp⟩
  ·obtain rfl:p=S.length:=by omega
   clear hlt hpi
   repeat' (first|(refine aC fun _ _=>?_)|refine zHg ?_|refine aO rfl (ha) (by simp) ?_|simp(disch:=omega) [go_sem,hili,hri])
   refine bS [1,17,94] [900] (fun y:Nat×List Mu=> [(95,nt .i64 y.1),(7,.ref 900 0 y.2.length)]) (fun y:Nat×List Mu=> [(900,⟨true,false,false,3,y.2.map dA,0⟩)]) (fun y:Nat×List Mu=>A.length - y.1) (fun y:Nat×List Mu=>y.1<=A.length/\y.2=N++iD i A y.1) ((0,N)) (Le.sub4 rfl (by simp[go_sem])) ⟨?_⟩ ?_
   ·exact⟨Nat.zero_le _,by simp[iD]⟩
   intro⟨k,O⟩ ⟨hk,hO⟩ AA hAA;simp only[kL,Nat.reduceBEq,Nat.reduceEqDiff]
   dsimp only at*
   have hOl:O.length<=N.length+k:=by rw[hO,List.length_append];have:=hsw k;omega
   by_cases hkl:k<A.length
   ·have hsb:=bKv A[k]
    have hak:A.getD k zT=A[k]:=kC hkl
    have hnk:iD i A (k+1)=iD i A k++(if kA A[k]=true then[⟨5,i,k⟩]else[]):=by rw[iD,hak]
    generalize hae:A[k]=a at*
    cases hq:kA a
    ·rw[hq]at hsb hnk
     rw[if_neg (by decide),List.append_nil]at hnk
     repeat' (first|(refine aC fun _ _=>?_)|refine zHg ?_|refine aO rfl (hsb) (by simp) ?_|(refine(hAA.next ((k+1,O)) (Le.sub4 rfl (by simp[go_sem])) (by(try dsimp only);omega) ?_))|simp(disch:=omega) [go_sem,hkl,hae])
     try any_goals omega
     all_goals exact⟨hkl,by rw[hO,hnk];first|done|rfl|simp⟩
    ·rw[hq]at hsb hnk
     rw[if_pos rfl]at hnk
     repeat' (first|(refine aC fun _ _=>?_)|refine zHg ?_|refine aO rfl (hsb) (by simp) ?_|(refine(hAA.next ((k+1,O++ [⟨5,i,k⟩])) (Le.sub4 rfl (by simp[go_sem])) (by(try dsimp only);omega) ?_))|simp(disch:=omega) [go_sem,hkl,hae]|refine zAo ?_|fail)
     try any_goals omega
     all_goals exact⟨hkl,by rw[hO,hnk,List.append_assoc];first|done|rfl|simp⟩
   ·obtain rfl:k=A.length:=by omega
    have e:O=R:=by rw[<-hR,hO,hN,hM0]
    subst e
    repeat' (first|(refine aC fun _ _=>?_)|refine zHg ?_|(refine aN [] ?_;simp[go_sem])|simp(disch:=omega) [go_sem])
theorem bN6 (l:List Rl) (le fu:Bool) (M:Nat) (hM:M<=1152921504606846976) (hz: ∀r∈l,SzM r) (hn: ∀r∈l,vC M r) (hl:l.length<=99):ACall prog 10 [.list le fu (l.map bX)] (fun v=>v= .own 3 ((kB l).map dA)):=by
 have hc:=(aH8 l le fu hz hl).frz
 have hcl:=X7 hz hl
 have hal:=Y2 hz hcl
 unfold kB
 generalize eA l=C at*
 generalize hR:jA C l l.length=R
 refine aU func10 call10 rfl (by simp[ntmps10]) ?_;simp only[ntmps10,results10]
 repeat' (first|(refine aC fun _ _=>?_)|refine zHg ?_|refine aO rfl (hc) (by simp) ?_|simp(disch:=omega) [go_sem])
 refine bS [0,3,9] [900] (fun y:Nat×List Mu=> [(10,nt .i64 y.1),(4,.ref 900 0 y.2.length)]) (fun y:Nat×List Mu=> [(900,⟨true,false,false,3,y.2.map dA,0⟩)]) (fun y:Nat×List Mu=>l.length - y.1) (fun y:Nat×List Mu=>y.1<=l.length/\y.2=jA C l y.1) ((0,[])) (by refine Le.trans ?_ (Le.nil (i:=4) (T:=900) (es:=3) rfl);exact(Le.sub4 rfl (by simp[go_sem,List.map_nil,List.length_nil]))) ⟨?_⟩ ?_
 ·exact⟨Nat.zero_le _,rfl⟩
 intro⟨i,N⟩ ⟨hi,hN⟩ AA hAA;simp only[kL,Nat.reduceBEq,Nat.reduceEqDiff]
 dsimp only at*
 have hMl:=hal i hi
 rw[<-hN]at hMl
 by_cases hlt:i<l.length
 ·have ho:=bN5 l le fu i hlt C M hM (hz _ (List.getElem_mem hlt)) (hn _ (List.getElem_mem hlt)) (by omega) hcl
  have hol:=Y1 (i:=i) (hz l[i] (List.getElem_mem hlt)) hcl
  have hnx:jA C l (i+1)=jA C l i++gH i l[i] C:=by rw[jA,kC hlt]
  rw[<-hN]at hnx
  generalize gH i l[i] C=X at*
  repeat' (first|(refine aC fun _ _=>?_)|refine zHg ?_|refine aO rfl (ho) (by simp) ?_|(refine(hAA.next ((i+1,N++X)) (Le.sub4 rfl (by simp[go_sem])) (by(try dsimp only);omega) ?_))|simp(disch:=omega) [go_sem,hlt]|refine zAo ?_|fail)
  try any_goals omega
  all_goals exact⟨hlt,hnx.symm⟩
 ·obtain rfl:i=l.length:=by omega
  obtain rfl:=hN.trans hR
  repeat' (first|(refine aC fun _ _=>?_)|refine zHg ?_|(refine aN [] ?_;simp[go_sem])|simp(disch:=omega) [go_sem])
theorem bN7 (A:List Mu):ACall prog 8 [.list false false (A.map dA),.list false false (A.map dA)] (fun r=>r=bl true):=by
 refine ACall.bound (i:=0) rfl call8 fun hb=>?_
 rw[List.length_map]at hb
 have hb:A.length<=140737488355328:=hb
 refine aU func8 call8 rfl (by simp[ntmps8]) ?_;simp only[ntmps8,results8]
 repeat' (first|(refine aC fun _ _=>?_)|refine zHg ?_|simp(disch:=omega) [go_sem])
 refine bS [0,1,12] [] (fun i:Nat=> [(13,nt .i64 i)]) (fun i:Nat=> []) (fun i:Nat=>A.length - i) (fun i:Nat=>i<=A.length) (0) (Le.sub4 rfl (by simp[go_sem])) ⟨?_⟩ ?_
 ·exact Nat.zero_le _
 intro i hi AA hAA;simp only[kL,Nat.reduceBEq,Nat.reduceEqDiff]
 by_cases hlt:i<A.length
 ·generalize hx:A[i]=x at*
  repeat' (first|(refine aC fun _ _=>?_)|refine zHg ?_|(refine(hAA.next (i+1) (Le.sub4 rfl (by simp[go_sem])) (by(try dsimp only);omega) ?_))|simp(disch:=omega) [go_sem,hlt,hx,dA]|refine zDr 9 aQ ?_|fail)
  try any_goals omega
  all_goals exact⟨hlt⟩
 ·obtain rfl:i=A.length:=by omega
  repeat' (first|(refine aC fun _ _=>?_)|refine zHg ?_|(refine aN [] ?_;simp[go_sem])|simp(disch:=omega) [go_sem])
theorem bOe [PhG] (l:List Rl) (h:(∀r∈l,F5 r)/\l.length<=cL):ACall prog 3 [.list false false (l.map bX)] (fun r=>r=bl true):=by
 have haw:=bN1
 have hs:=bN3 l 40 (by decide) h
 cases hq:qJ 40 l
 ·rw[hq]at hs
  refine aU func3 call3 rfl (by simp[ntmps3]) ?_;simp only[ntmps3,results3]
  repeat' (first|(refine aC fun _ _=>?_)|refine zHg ?_|(refine aN [] ?_;simp[go_sem])|refine aO rfl (hs) (by simp) ?_|refine aO rfl (haw) (by simp) ?_|simp(disch:=omega) [go_sem])
 ·rw[hq]at hs
  obtain⟨hz,hl⟩:=bN2 hq
  have h1:=(aIf l false false hz (by omega)).frz
  have h2:=(bN6 l false false reachBytes (by decide+kernel) hz (fun r hr=>(h.1 r hr).1) (by omega)).frz
  have h3:=(X6 l false false hz (by omega)).frz
  have h4:=(aH8 l false false hz (by omega)).frz
  have h5:=bN7 (kB l)
  have h6:=bH0 (eA l) (eA l) false false false false
  rw[decide_eq_true rfl]at h6
  generalize kB l=A at*
  generalize eA l=C at*
  refine aU func3 call3 rfl (by simp[ntmps3]) ?_;simp only[ntmps3,results3]
  repeat' (first|(refine aC fun _ _=>?_)|refine zHg ?_|(refine aN [] ?_;simp[go_sem])|refine aO rfl (hs) (by simp) ?_|refine aO rfl (h1) (by simp) ?_|refine aO rfl (h2) (by simp) ?_|refine aO rfl (h3) (by simp) ?_|refine aO rfl (h4) (by simp) ?_|refine aO rfl (h5) (by simp) ?_|refine aO rfl (h6) (by simp) ?_|refine aO rfl (haw) (by simp) ?_|simp(disch:=omega) [go_sem])
section
variable {H : Type} {enc : TypeId × Value -> H} {W : World}
end
end Go.Proofs.YtbgckcdddlmiaaaGreatDoor
