import Derived.Test.YtkbglbcphjmiiaaGreatDoorS6
import Derived.Test.YtkbglbcphjmiiaaGreatDoorS5
import Derived.Test.YtkbglbcphjmiiaaGreatDoorS3
import Derived.Test.YtkbglbcphjmiiaaGreatDoorA12
set_option linter.unusedSimpArgs false
set_option linter.unusedVariables false
namespace Go.Proofs.YtkbglbcphjmiiaaGreatDoor
open Go.Ab
set_option maxRecDepth 100000
set_option maxHeartbeats 8000000
theorem loose1_ref {L lo n:Nat}:Ab.loose1 (.ref L lo n)= .ref L lo n:=rfl
attribute [go_sem] loose1_ref
theorem inRule_key (s:List Bd) (fu:Bool) (hs:AscB s) (hz: ∀b∈s,b.t.size≤1000000) (r:Rl) (hr:r.head.size≤1000000) (hb: ∀b∈r.body,b.atom.size≤1000000) (hl:r.body.length≤1000000):
 MCall Tryz.prog 79 [eRl r,.clo 80 [.ptr 1000 0 0]] [(1000,⟨false,false,true,1,[.list false fu (s.map eBd)],0⟩)]
  (fun v o'=>v= .agg [.sc (.string (apT s r.head).name),.list false false ((apT s r.head).args.map eTm),if r.body.length=0 then .list false true []else .ref 900 0 r.body.length]∧
   o'=(4,⟨false,false,false,3,[.agg [.sc (.string (apT s r.head).name),.list false false ((apT s r.head).args.map eTm),if r.body.length=0 then .list false true []else .ref 900 0 r.body.length]],0⟩)::(1000,⟨false,false,true,1,[.list false fu (s.map eBd)],0⟩)::(if r.body.length=0 then[]else[(900,⟨true,false,false,3,(r.body.map (apB s)).map eLt,0⟩)])):=by
 obtain⟨h,bs⟩:=r
 dsimp only at*
 have h1:=replaced_ok s false fu hs hz h hr
 generalize apT s h=H at*
 generalize hL:bs.map (apB s)=L at*
 have hLl:L.length=bs.length:=by rw[←hL,List.length_map]
 have ih2: ∀(i:Nat) (hi:i<bs.length),∃x,ACall Tryz.prog 122 [eT bs[i].atom,.clo 80 [.iptr true [.list false fu (s.map eBd)] 0 0]] (fun r=>r=eT x)∧L.drop i=⟨bs[i].neg,x⟩::L.drop (i+1):=fun i hi=>⟨_,replaced_ok s false fu hs hz bs[i].atom (hb _ (List.getElem_mem hi)),by
  have h':i<L.length:=by omega
  rw[List.drop_eq_getElem_cons h']
  congr 1
  subst hL
  rw[List.getElem_map];rfl⟩
 clear hL hb hs hz
 refine mcall_of_awpL Tryz.func79 Tryz.call79 rfl (by simp[Tryz.ntmps79]) ?_;simp only[Tryz.ntmps79,Tryz.results79]
 repeat' (first|(refine awK fun _ _=>?_)|refine zHg ?_|refine stepK_is rfl (h1) (by simp) ?_|(fail_if_success with_reducible refine Owe.mk ?_);(simp(disch:=omega) [go_sem]))
 refine awp_for [1,4,5,14,15] [5,900,7,1000] (fun y:Nat×List Lt=> [(16,nt .i64 y.1)]) (fun y:Nat×List Lt=>(5,⟨false,false,false,3,[.agg [.sc (.string H.name),.list false false (H.args.map eTm),if y.2.length=0 then .list false true []else .ref 900 0 y.2.length]],0⟩)::(1000,⟨false,false,true,1,[.list false fu (s.map eBd)],0⟩)::(if y.2.length=0 then[]else[(900,⟨true,false,false,3,y.2.map eLt,0⟩)])) (fun y:Nat×List Lt=>bs.length - y.1) (fun y:Nat×List Lt=>y.1≤bs.length∧y.2.length=y.1∧y.2++L.drop y.1=L) ((0,[])) (Le.sub4 rfl (by simp[go_sem])) ⟨?_⟩ ?_
 ·exact⟨Nat.zero_le _,rfl,rfl⟩
 intro⟨i,a⟩ ⟨hi,ha,hinv⟩ AA hAA;simp only[kL,Nat.reduceBEq,Nat.reduceEqDiff,if_true,if_false,List.cons_append,List.nil_append,List.append_nil]
 dsimp only at*
 by_cases hlt:i<bs.length
 ·obtain⟨x,hu,hd⟩:=ih2 i hlt
  rw[hd]at hinv
  clear ih2 hd
  by_cases h0:i=0
  ·subst h0
   obtain rfl:=List.eq_nil_of_length_eq_zero ha
   repeat' (first|(refine awK fun _ _=>?_)|refine zHg ?_|refine dstepK_is rfl (hu) rfl (by simp) ?_|refine(hAA.next ((0+1,[⟨bs[0].neg,x⟩])) (Le.renSub [(30,900)] [(900,30)] (by simp[go_sem]) (by simp[go_sem]) (Le.sub4 rfl (by simp[go_sem]))) (by(try dsimp only);omega) ?_)|(fail_if_success with_reducible refine Owe.mk ?_);(simp(disch:=omega) [go_sem,hlt])|refine zDr 9 mix ?_)
   all_goals(first|omega|skip)
   all_goals exact⟨hlt,rfl,hinv⟩
  ·repeat' (first|(refine awK fun _ _=>?_)|refine zHg ?_|refine dstepK_is rfl (hu) rfl (by simp) ?_|refine(hAA.next ((i+1,a++ [⟨bs[i].neg,x⟩])) (Le.sub4 rfl (by simp[go_sem,ha])) (by(try dsimp only);omega) ?_)|(fail_if_success with_reducible refine Owe.mk ?_);(simp(disch:=omega) [go_sem,hlt,h0,ha])|refine zAo ?_|refine zDr 9 mix ?_)
   all_goals(first|omega|skip)
   all_goals exact⟨hlt,by simp[ha],by rw[List.append_assoc];exact hinv⟩
 ·obtain rfl:i=bs.length:=by omega
  rw[←hLl,List.drop_length,List.append_nil]at hinv
  subst hinv
  clear ih2
  by_cases h0:bs.length=0
  ·obtain rfl:=List.eq_nil_of_length_eq_zero (hLl.trans h0)
   repeat' (first|(refine awK fun _ _=>?_)|refine zHg ?_|(fail_if_success with_reducible refine Owe.mk ?_);(simp(disch:=omega) [go_sem,h0]))
   refine endL_ret ⟨34,[(4,.ptr 4 0 0)],(4,⟨false,false,false,3,[.agg [.sc (.string H.name),.list false false (H.args.map eTm),.list false true []]],0⟩):: [(1000,⟨false,false,true,1,[.list false fu (s.map eBd)],0⟩)]⟩ [.agg [.sc (.string H.name),.list false false (H.args.map eTm),.list false true []]] (Le.renSub [] [] (by simp[go_sem]) (by simp[go_sem]) (Le.sub4 rfl (by simp[go_sem]))) (by simp[go_sem]) ⟨rfl,rfl⟩
  ·repeat' (first|(refine awK fun _ _=>?_)|refine zHg ?_|(fail_if_success with_reducible refine Owe.mk ?_);(simp(disch:=omega) [go_sem,h0,ha]))
   refine endL_ret ⟨34,[(4,.ptr 4 0 0)],(4,⟨false,false,false,3,[.agg [.sc (.string H.name),.list false false (H.args.map eTm),.ref 900 0 bs.length]],0⟩)::(1000,⟨false,false,true,1,[.list false fu (s.map eBd)],0⟩):: [(900,⟨true,false,false,3,a.map eLt,0⟩)]⟩ [.agg [.sc (.string H.name),.list false false (H.args.map eTm),.ref 900 0 bs.length]] (Le.renSub [] [] (by simp[go_sem]) (by simp[go_sem]) (Le.sub4 rfl (by simp[go_sem]))) (by simp[go_sem]) ⟨rfl,rfl⟩
theorem ApplyRule0_ok (s:List Bd) (fu:Bool) (hs:AscB s) (hz: ∀b∈s,b.t.size≤1000000) (h:Tm) (hr:h.size≤1000000):
 ACall Tryz.prog 40 [.list false fu (s.map eBd),eRl ⟨h,[]⟩] (fun v=>v=eRl ⟨apT s h,[]⟩):=by
 have key:=inRule_key s fu hs hz ⟨h,[]⟩ hr (by simp) (by simp)
 simp only[List.length_nil,if_true]at key
 have k2:=key.loose (o1:= [(1000,⟨false,false,true,1,[.list false fu (s.map eBd)],0⟩)]) (by simp[go_sem]) (by simp[go_sem]) (by simp[go_sem])
 clear key
 generalize apT s h=H at*
 simp only[go_sem]at k2
 refine acall_of_awp Tryz.func40 Tryz.call40 rfl (by simp[Tryz.ntmps40]) ?_;simp only[Tryz.ntmps40,Tryz.results40]
 repeat' (first|(refine awK fun _ _=>?_)|refine zHg ?_|(fail_if_success with_reducible refine Owe.mk ?_);(simp(disch:=omega) [go_sem]))
 refine stepK_fis [(1000,2)] [(2,1000)] 10000 _ _ (Fits.mk' (by simp[go_sem]) (by simp[go_sem])) (by simp[go_sem]) (by simp[go_sem]) (k2) (by simp[go_sem]) (by simp[go_sem]) ?_
 repeat' (first|refine zHg ?_|refine end_ret [] ?_;simp[go_sem]|(fail_if_success with_reducible refine Owe.mk ?_);(simp(disch:=omega) [go_sem]))
theorem ApplyRule1_ok (s:List Bd) (fu:Bool) (hs:AscB s) (hz: ∀b∈s,b.t.size≤1000000) (r:Rl) (hr:r.head.size≤1000000) (hb: ∀b∈r.body,b.atom.size≤1000000) (hl:r.body.length≤1000000) (h0: ¬r.body.length=0):
 MCall Tryz.prog 40 [.list false fu (s.map eBd),eRl r] [] (fun v o'=>v= .agg [.sc (.string (apT s r.head).name),.list false false ((apT s r.head).args.map eTm),.ref 900 0 r.body.length]∧
  o'= [(900,⟨true,false,false,3,(r.body.map (apB s)).map eLt,0⟩)]):=by
 have key:=inRule_key s fu hs hz r hr hb hl
 simp only[h0,if_false]at key
 have k2:=key.loose (o1:=(1000,⟨false,false,true,1,[.list false fu (s.map eBd)],0⟩):: [(900,⟨true,false,false,3,(r.body.map (apB s)).map eLt,0⟩)]) (by simp[go_sem]) (by simp[go_sem]) (by simp[go_sem])
 clear key
 generalize apT s r.head=H at*
 have hll:(r.body.map (apB s)).length=r.body.length:=List.length_map _
 generalize r.body.map (apB s)=L at*
 simp only[go_sem]at k2
 have k3:=MCall.loose (o1:= [(900,⟨true,false,false,3,L.map eLt,0⟩)]) (f:=40) (P:=Tryz.prog) (args:= [.list false fu (s.map eBd),eRl r]) (o:= []) (x:= .agg [.sc (.string H.name),.list false false (H.args.map eTm),.ref 900 0 r.body.length]) (o2:=(4,⟨false,false,false,3,[.agg [.sc (.string H.name),.list false false (H.args.map eTm),.ref 900 0 r.body.length]],0⟩):: [(900,⟨true,false,false,3,L.map eLt,0⟩)]) (by
  refine mcall_of_awpL Tryz.func40 Tryz.call40 rfl (by simp[Tryz.ntmps40]) ?_;simp only[Tryz.ntmps40,Tryz.results40]
  repeat' (first|(refine awK fun _ _=>?_)|refine zHg ?_|(fail_if_success with_reducible refine Owe.mk ?_);(simp(disch:=omega) [go_sem]))
  refine stepK_fis [(1000,2)] [(2,1000)] 10000 _ _ (Fits.mk' (by simp[go_sem]) (by simp[go_sem])) (by simp[go_sem]) (by simp[go_sem]) (k2) (by simp[go_sem]) (by simp[go_sem]) ?_
  repeat' (first|refine zHg ?_|(fail_if_success with_reducible refine Owe.mk ?_);(simp(disch:=omega) [go_sem]))
  refine endL_ret ⟨8,[(4,.ptr 4 0 0)],(4,⟨false,false,false,3,[.agg [.sc (.string H.name),.list false false (H.args.map eTm),.ref 900 0 r.body.length]],0⟩):: [(900,⟨true,false,false,3,L.map eLt,0⟩)]⟩ [.agg [.sc (.string H.name),.list false false (H.args.map eTm),.ref 900 0 r.body.length]] (Le.renSub [(10900,900)] [(900,10900)] (by simp[go_sem]) (by simp[go_sem]) (Le.sub4 rfl (by simp[go_sem]))) (by simp[go_sem]) ⟨rfl,rfl⟩) (by simp[go_sem]) (by simp[go_sem]) (by simp[go_sem])
 simp only[go_sem]at k3
 exact k3
set_option maxHeartbeats 4000000
theorem set_eLt {l:List Lt} {i:Nat} {x:Lt}:(l.map eLt).set i (.agg [.sc (.bool x.neg),.sc (.string x.atom.name),.list false false (x.atom.args.map eTm)])=(l.set i x).map eLt:=by
 rw[List.map_set];rfl
theorem set_eRl {l:List Rl} {i:Nat} {x:Rl}:(l.map eRl).set i (.agg [.sc (.string x.head.name),.list false false (x.head.args.map eTm),.list false false (x.body.map eLt)])=(l.set i x).map eRl:=by
 rw[List.map_set]
theorem set_eStr {l:List ByteArray} {i:Nat} {x:ByteArray}:(l.map eStr).set i (.sc (.string x))=(l.set i x).map eStr:=by
 rw[List.map_set];rfl
theorem Tot.pre {α:Type} {c:α→α→Int} (h:Tot c):Pre c:=⟨fun _ _ _ a b=>h.le_tr a b,fun x y k=>by rw[h.neg x y];omega⟩
theorem insL_ok (f:FuncId) (cf:Lt→Lt→Int) (hp:Pre cf) (kd:Nat) (l:List Lt) (hl:l.length≤140737488355328) (hc: ∀x∈l,∀y∈l,ACall Tryz.prog f [eLt x,eLt y] (fun r=>r=nt .i64 (cf x y))) (a b:Nat) (hab:a≤b) (hb:b≤l.length):
 MCall Tryz.prog 151 [.ref 1000 0 l.length,nt .i64 a,nt .i64 b,.clo f []] [(1000,rowO eLt 3 kd l)] (fun r o'=> ∃l',(Keep l l' a b∧SrtOn cf l' a b)∧r= .tup []∧o'= [(1000,rowO eLt 3 kd l')]):=by
 refine mcall_of_awpL Tryz.func151 Tryz.call151 rfl (by simp[Tryz.ntmps151]) ?_;simp only[Tryz.ntmps151,Tryz.results151]
 repeat' (first|(refine awK fun _ _=>?_)|refine zHg ?_|(fail_if_success with_reducible refine Owe.mk ?_);(simp(disch:=omega) [go_sem]))
 refine awp_for [0,1,2,3] [1000] (fun x:Nat×List Lt=> [(8,nt .i64 x.1)]) (fun x:Nat×List Lt=> [(1000,rowO eLt 3 kd x.2)]) (fun x:Nat×List Lt=>b - x.1) (fun x:Nat×List Lt=>a+1≤x.1∧(x.1≤b∨x.1=a+1)∧Keep l x.2 a b∧SrtOn cf x.2 a x.1) ((a+1,l)) (Le.sub4 rfl (by simp[go_sem])) ⟨?_⟩ ?_
 ·exact⟨Nat.le_refl _,.inr rfl,Keep.refl _ _ _,SrtOn.short (by omega)⟩
 intro⟨i,l1⟩ ⟨hi,hi2,hk,hs⟩ AA hAA;simp only[kL,Nat.reduceBEq,Nat.reduceEqDiff,if_true,if_false,List.cons_append,List.nil_append,List.append_nil]
 dsimp only at*
 have hlen:=hk.len
 by_cases hib:i<b
 ·have hAB:=hAA
  repeat' (first|(refine awK fun _ _=>?_)|refine zHg ?_|refine zqd ?_ ?_<;>(intro h;first|(exfalso;omega)|(simp only[h,zT]))|(fail_if_success with_reducible refine Owe.mk ?_);(simp(disch:=omega) [go_sem]))
  refine awp_for [0,1,2,3,8] [1000] (fun x:Nat×List Lt=> [(9,nt .i64 x.1)]) (fun x:Nat×List Lt=> [(1000,rowO eLt 3 kd x.2)]) (fun x:Nat×List Lt=>x.1) (fun x:Nat×List Lt=>a≤x.1∧x.1≤i∧Keep l x.2 a b∧Sink cf x.2 a i x.1) ((i,l1)) (Le.sub4 rfl (by simp[go_sem])) ⟨?_⟩ ?_
  ·exact⟨by omega,Nat.le_refl _,hk,Sink.start hs⟩
  intro⟨j,l2⟩ ⟨hj,hj2,hk2,hsk⟩ AA hAA;simp only[kL,Nat.reduceBEq,Nat.reduceEqDiff,if_true,if_false,List.cons_append,List.nil_append,List.append_nil]
  dsimp only at*
  have hlen2:=hk2.len
  by_cases hja:a<j
  ·obtain⟨j,rfl⟩: ∃j',j=j'+1:=⟨j - 1,by omega⟩
   have h1:j+1<l2.length:=by omega
   have h0:j<l2.length:=by omega
   have hu:=hc l2[j+1] (hk2.mem.1 (List.getElem_mem h1)) l2[j] (hk2.mem.1 (List.getElem_mem h0))
   have hsw:=(swp_eq h1 h0).symm
   by_cases hq:cf l2[j+1] l2[j]<0
   ·repeat' (first|(refine awK fun _ _=>?_)|refine zHg ?_|(first|refine zqd ?_ ?_|refine zdd ?_ ?_)<;>(intro h;first|(exfalso;omega)|(simp only[h,zT]))|refine dstepK_is rfl (hu) rfl (by simp) ?_|refine(hAA.next ((j,swp l2 (j+1) j)) (Le.sub4 rfl (by simp[go_sem,set_eLt,hsw,-List.map_set])) (by(try dsimp only);omega) ?_)|(fail_if_success with_reducible refine Owe.mk ?_);(simp(disch:=omega) [go_sem,h0,h1])|refine zAo ?_|refine zDr 15 mix ?_)
    exact⟨⟨by omega,by omega,hk2.trans (swp_keep ⟨by omega,by omega⟩ ⟨by omega,by omega⟩),hsk.step (by omega) h1 (by omega) (List.getElem?_eq_getElem h1) (List.getElem?_eq_getElem h0) hq⟩⟩
   ·repeat' (first|(refine awK fun _ _=>?_)|refine zHg ?_|(first|refine zqd ?_ ?_|refine zdd ?_ ?_)<;>(intro h;first|(exfalso;omega)|(simp only[h,zT]))|refine dstepK_is rfl (hu) rfl (by simp) ?_|refine(hAB.next ((i+1,l2)) (Le.sub4 rfl (by simp[go_sem])) (by(try dsimp only);omega) ?_)|(fail_if_success with_reducible refine Owe.mk ?_);(simp(disch:=omega) [go_sem,h0,h1])|refine zAo ?_|refine zDr 15 mix ?_)
    exact⟨⟨by omega,by omega,hk2,hsk.stop hp (by omega) (.inr fun x y hx hy=>by
     rw[List.getElem?_eq_getElem h1]at hx
     rw[Nat.add_sub_cancel,List.getElem?_eq_getElem h0]at hy
     cases hx;cases hy;exact hq)⟩⟩
  ·repeat' (first|(refine awK fun _ _=>?_)|refine zHg ?_|refine zdd ?_ ?_<;>(intro h;first|(exfalso;omega)|(simp only[h,zT]))|refine(hAB.next ((i+1,l2)) (Le.sub4 rfl (by simp[go_sem])) (by(try dsimp only);omega) ?_)|(fail_if_success with_reducible refine Owe.mk ?_);(simp(disch:=omega) [go_sem])|refine zDr 15 mix ?_)
   exact⟨⟨by omega,by omega,hk2,hsk.stop hp (by omega) (.inl (by omega))⟩⟩
 ·repeat' (first|(refine awK fun _ _=>?_)|refine zHg ?_|refine zqd ?_ ?_<;>(intro h;first|(exfalso;omega)|(simp only[h,zT]))|(fail_if_success with_reducible refine Owe.mk ?_);(simp(disch:=omega) [go_sem]))
  refine endL_normal ⟨53,[],[(1000,rowO eLt 3 kd l1)]⟩ [] (Le.renSub [] [] (by simp[go_sem]) (by simp[go_sem]) (Le.sub4 rfl (by simp[go_sem]))) (by simp[go_sem]) ⟨l1,⟨hk,hs.sub (Nat.le_refl _) (by omega)⟩,rfl,rfl⟩
theorem insR_ok (f:FuncId) (cf:Rl→Rl→Int) (hp:Pre cf) (kd:Nat) (l:List Rl) (hl:l.length≤140737488355328) (hc: ∀x∈l,∀y∈l,ACall Tryz.prog f [eRl x,eRl y] (fun r=>r=nt .i64 (cf x y))) (a b:Nat) (hab:a≤b) (hb:b≤l.length):
 MCall Tryz.prog 133 [.ref 1000 0 l.length,nt .i64 a,nt .i64 b,.clo f []] [(1000,rowO eRl 3 kd l)] (fun r o'=> ∃l',(Keep l l' a b∧SrtOn cf l' a b)∧r= .tup []∧o'= [(1000,rowO eRl 3 kd l')]):=by
 refine mcall_of_awpL Tryz.func133 Tryz.call133 rfl (by simp[Tryz.ntmps133]) ?_;simp only[Tryz.ntmps133,Tryz.results133]
 repeat' (first|(refine awK fun _ _=>?_)|refine zHg ?_|(fail_if_success with_reducible refine Owe.mk ?_);(simp(disch:=omega) [go_sem]))
 refine awp_for [0,1,2,3] [1000] (fun x:Nat×List Rl=> [(8,nt .i64 x.1)]) (fun x:Nat×List Rl=> [(1000,rowO eRl 3 kd x.2)]) (fun x:Nat×List Rl=>b - x.1) (fun x:Nat×List Rl=>a+1≤x.1∧(x.1≤b∨x.1=a+1)∧Keep l x.2 a b∧SrtOn cf x.2 a x.1) ((a+1,l)) (Le.sub4 rfl (by simp[go_sem])) ⟨?_⟩ ?_
 ·exact⟨Nat.le_refl _,.inr rfl,Keep.refl _ _ _,SrtOn.short (by omega)⟩
 intro⟨i,l1⟩ ⟨hi,hi2,hk,hs⟩ AA hAA;simp only[kL,Nat.reduceBEq,Nat.reduceEqDiff,if_true,if_false,List.cons_append,List.nil_append,List.append_nil]
 dsimp only at*
 have hlen:=hk.len
 by_cases hib:i<b
 ·have hAB:=hAA
  repeat' (first|(refine awK fun _ _=>?_)|refine zHg ?_|refine zqd ?_ ?_<;>(intro h;first|(exfalso;omega)|(simp only[h,zT]))|(fail_if_success with_reducible refine Owe.mk ?_);(simp(disch:=omega) [go_sem]))
  refine awp_for [0,1,2,3,8] [1000] (fun x:Nat×List Rl=> [(9,nt .i64 x.1)]) (fun x:Nat×List Rl=> [(1000,rowO eRl 3 kd x.2)]) (fun x:Nat×List Rl=>x.1) (fun x:Nat×List Rl=>a≤x.1∧x.1≤i∧Keep l x.2 a b∧Sink cf x.2 a i x.1) ((i,l1)) (Le.sub4 rfl (by simp[go_sem])) ⟨?_⟩ ?_
  ·exact⟨by omega,Nat.le_refl _,hk,Sink.start hs⟩
  intro⟨j,l2⟩ ⟨hj,hj2,hk2,hsk⟩ AA hAA;simp only[kL,Nat.reduceBEq,Nat.reduceEqDiff,if_true,if_false,List.cons_append,List.nil_append,List.append_nil]
  dsimp only at*
  have hlen2:=hk2.len
  by_cases hja:a<j
  ·obtain⟨j,rfl⟩: ∃j',j=j'+1:=⟨j - 1,by omega⟩
   have h1:j+1<l2.length:=by omega
   have h0:j<l2.length:=by omega
   have hu:=hc l2[j+1] (hk2.mem.1 (List.getElem_mem h1)) l2[j] (hk2.mem.1 (List.getElem_mem h0))
   have hsw:=(swp_eq h1 h0).symm
   by_cases hq:cf l2[j+1] l2[j]<0
   ·repeat' (first|(refine awK fun _ _=>?_)|refine zHg ?_|(first|refine zqd ?_ ?_|refine zdd ?_ ?_)<;>(intro h;first|(exfalso;omega)|(simp only[h,zT]))|refine dstepK_is rfl (hu) rfl (by simp) ?_|refine(hAA.next ((j,swp l2 (j+1) j)) (Le.sub4 rfl (by simp[go_sem,set_eRl,hsw,-List.map_set])) (by(try dsimp only);omega) ?_)|(fail_if_success with_reducible refine Owe.mk ?_);(simp(disch:=omega) [go_sem,h0,h1])|refine zAo ?_|refine zDr 15 mix ?_)
    exact⟨⟨by omega,by omega,hk2.trans (swp_keep ⟨by omega,by omega⟩ ⟨by omega,by omega⟩),hsk.step (by omega) h1 (by omega) (List.getElem?_eq_getElem h1) (List.getElem?_eq_getElem h0) hq⟩⟩
   ·repeat' (first|(refine awK fun _ _=>?_)|refine zHg ?_|(first|refine zqd ?_ ?_|refine zdd ?_ ?_)<;>(intro h;first|(exfalso;omega)|(simp only[h,zT]))|refine dstepK_is rfl (hu) rfl (by simp) ?_|refine(hAB.next ((i+1,l2)) (Le.sub4 rfl (by simp[go_sem])) (by(try dsimp only);omega) ?_)|(fail_if_success with_reducible refine Owe.mk ?_);(simp(disch:=omega) [go_sem,h0,h1])|refine zAo ?_|refine zDr 15 mix ?_)
    exact⟨⟨by omega,by omega,hk2,hsk.stop hp (by omega) (.inr fun x y hx hy=>by
     rw[List.getElem?_eq_getElem h1]at hx
     rw[Nat.add_sub_cancel,List.getElem?_eq_getElem h0]at hy
     cases hx;cases hy;exact hq)⟩⟩
  ·repeat' (first|(refine awK fun _ _=>?_)|refine zHg ?_|refine zdd ?_ ?_<;>(intro h;first|(exfalso;omega)|(simp only[h,zT]))|refine(hAB.next ((i+1,l2)) (Le.sub4 rfl (by simp[go_sem])) (by(try dsimp only);omega) ?_)|(fail_if_success with_reducible refine Owe.mk ?_);(simp(disch:=omega) [go_sem])|refine zDr 15 mix ?_)
   exact⟨⟨by omega,by omega,hk2,hsk.stop hp (by omega) (.inl (by omega))⟩⟩
 ·repeat' (first|(refine awK fun _ _=>?_)|refine zHg ?_|refine zqd ?_ ?_<;>(intro h;first|(exfalso;omega)|(simp only[h,zT]))|(fail_if_success with_reducible refine Owe.mk ?_);(simp(disch:=omega) [go_sem]))
  refine endL_normal ⟨53,[],[(1000,rowO eRl 3 kd l1)]⟩ [] (Le.renSub [] [] (by simp[go_sem]) (by simp[go_sem]) (Le.sub4 rfl (by simp[go_sem]))) (by simp[go_sem]) ⟨l1,⟨hk,hs.sub (Nat.le_refl _) (by omega)⟩,rfl,rfl⟩
theorem pre_S:Pre strC:=⟨fun _ _ _ a b=>strC_trans a b,fun x y k=>by rw[strC_neg x y];omega⟩
theorem isNaN_ok (a:ByteArray):ACall Tryz.prog 149 [.sc (.string a)] (fun r=>r=bl false):=by
 refine acall_of_awp Tryz.func149 Tryz.call149 rfl (by simp[Tryz.ntmps149]) ?_;simp only[Tryz.ntmps149,Tryz.results149]
 repeat' (first|(refine awK fun _ _=>?_)|refine zHg ?_|refine end_ret [] ?_;simp[go_sem]|(fail_if_success with_reducible refine Owe.mk ?_);(simp(disch:=omega) [go_sem]))
theorem Less_ok (a b:ByteArray):ACall Tryz.prog 115 [.sc (.string a),.sc (.string b)] (fun r=>r=bl (decide (strC a b<0))):=by
 have h1:=isNaN_ok a
 have h2:=isNaN_ok b
 have hs:=less_strC a b
 generalize strC a b=c at*
 refine acall_of_awp Tryz.func115 Tryz.call115 rfl (by simp[Tryz.ntmps115]) ?_;simp only[Tryz.ntmps115,Tryz.results115]
 repeat' (first|(refine awK fun _ _=>?_)|refine zHg ?_|refine end_ret [] ?_;simp[go_sem,hs]|refine stepK_is rfl (h1) (by simp) ?_|(fail_if_success with_reducible refine Owe.mk ?_);(simp(disch:=omega) [go_sem,hs]))
theorem insS_ok (kd:Nat) (l:List ByteArray) (hl:l.length≤140737488355328) (a b:Nat) (hab:a≤b) (hb:b≤l.length):
 MCall Tryz.prog 109 [.ref 1000 0 l.length,nt .i64 a,nt .i64 b] [(1000,rowO eStr 1 kd l)] (fun r o'=> ∃l',(Keep l l' a b∧SrtOn strC l' a b)∧r= .tup []∧o'= [(1000,rowO eStr 1 kd l')]):=by
 refine mcall_of_awpL Tryz.func109 Tryz.call109 rfl (by simp[Tryz.ntmps109]) ?_;simp only[Tryz.ntmps109,Tryz.results109]
 repeat' (first|(refine awK fun _ _=>?_)|refine zHg ?_|(fail_if_success with_reducible refine Owe.mk ?_);(simp(disch:=omega) [go_sem]))
 refine awp_for [0,1,2] [1000] (fun x:Nat×List ByteArray=> [(6,nt .i64 x.1)]) (fun x:Nat×List ByteArray=> [(1000,rowO eStr 1 kd x.2)]) (fun x:Nat×List ByteArray=>b - x.1) (fun x:Nat×List ByteArray=>a+1≤x.1∧(x.1≤b∨x.1=a+1)∧Keep l x.2 a b∧SrtOn strC x.2 a x.1) ((a+1,l)) (Le.sub4 rfl (by simp[go_sem])) ⟨?_⟩ ?_
 ·exact⟨Nat.le_refl _,.inr rfl,Keep.refl _ _ _,SrtOn.short (by omega)⟩
 intro⟨i,l1⟩ ⟨hi,hi2,hk,hs⟩ AA hAA;simp only[kL,Nat.reduceBEq,Nat.reduceEqDiff,if_true,if_false,List.cons_append,List.nil_append,List.append_nil]
 dsimp only at*
 have hlen:=hk.len
 by_cases hib:i<b
 ·have hAB:=hAA
  repeat' (first|(refine awK fun _ _=>?_)|refine zHg ?_|refine zqd ?_ ?_<;>(intro h;first|(exfalso;omega)|(simp only[h,zT]))|(fail_if_success with_reducible refine Owe.mk ?_);(simp(disch:=omega) [go_sem]))
  refine awp_for [0,1,2,6] [1000] (fun x:Nat×List ByteArray=> [(7,nt .i64 x.1)]) (fun x:Nat×List ByteArray=> [(1000,rowO eStr 1 kd x.2)]) (fun x:Nat×List ByteArray=>x.1) (fun x:Nat×List ByteArray=>a≤x.1∧x.1≤i∧Keep l x.2 a b∧Sink strC x.2 a i x.1) ((i,l1)) (Le.sub4 rfl (by simp[go_sem])) ⟨?_⟩ ?_
  ·exact⟨by omega,Nat.le_refl _,hk,Sink.start hs⟩
  intro⟨j,l2⟩ ⟨hj,hj2,hk2,hsk⟩ AA hAA;simp only[kL,Nat.reduceBEq,Nat.reduceEqDiff,if_true,if_false,List.cons_append,List.nil_append,List.append_nil]
  dsimp only at*
  have hlen2:=hk2.len
  by_cases hja:a<j
  ·obtain⟨j,rfl⟩: ∃j',j=j'+1:=⟨j - 1,by omega⟩
   have h1:j+1<l2.length:=by omega
   have h0:j<l2.length:=by omega
   have hu:=Less_ok l2[j+1] l2[j]
   have hsw:=(swp_eq h1 h0).symm
   by_cases hq:strC l2[j+1] l2[j]<0
   ·rw[decide_eq_true hq]at hu
    repeat' (first|(refine awK fun _ _=>?_)|refine zHg ?_|refine zdd ?_ ?_<;>(intro h;first|(exfalso;omega)|(simp only[h,zT]))|refine dstepK_is rfl (hu) rfl (by simp) ?_|refine(hAA.next ((j,swp l2 (j+1) j)) (Le.sub4 rfl (by simp[go_sem,set_eStr,hsw,-List.map_set])) (by(try dsimp only);omega) ?_)|(fail_if_success with_reducible refine Owe.mk ?_);(simp(disch:=omega) [go_sem,h0,h1,eStr])|refine zAo ?_|refine zDr 15 mix ?_)
    exact⟨⟨by omega,by omega,hk2.trans (swp_keep ⟨by omega,by omega⟩ ⟨by omega,by omega⟩),hsk.step (by omega) h1 (by omega) (List.getElem?_eq_getElem h1) (List.getElem?_eq_getElem h0) hq⟩⟩
   ·rw[decide_eq_false hq]at hu
    repeat' (first|(refine awK fun _ _=>?_)|refine zHg ?_|refine zdd ?_ ?_<;>(intro h;first|(exfalso;omega)|(simp only[h,zT]))|refine dstepK_is rfl (hu) rfl (by simp) ?_|refine(hAB.next ((i+1,l2)) (Le.sub4 rfl (by simp[go_sem])) (by(try dsimp only);omega) ?_)|(fail_if_success with_reducible refine Owe.mk ?_);(simp(disch:=omega) [go_sem,h0,h1,eStr])|refine zAo ?_|refine zDr 15 mix ?_)
    exact⟨⟨by omega,by omega,hk2,hsk.stop pre_S (by omega) (.inr fun x y hx hy=>by
     rw[List.getElem?_eq_getElem h1]at hx
     rw[Nat.add_sub_cancel,List.getElem?_eq_getElem h0]at hy
     cases hx;cases hy;exact hq)⟩⟩
  ·repeat' (first|(refine awK fun _ _=>?_)|refine zHg ?_|refine zdd ?_ ?_<;>(intro h;first|(exfalso;omega)|(simp only[h,zT]))|refine(hAB.next ((i+1,l2)) (Le.sub4 rfl (by simp[go_sem])) (by(try dsimp only);omega) ?_)|(fail_if_success with_reducible refine Owe.mk ?_);(simp(disch:=omega) [go_sem])|refine zDr 15 mix ?_)
   exact⟨⟨by omega,by omega,hk2,hsk.stop pre_S (by omega) (.inl (by omega))⟩⟩
 ·repeat' (first|(refine awK fun _ _=>?_)|refine zHg ?_|refine zqd ?_ ?_<;>(intro h;first|(exfalso;omega)|(simp only[h,zT]))|(fail_if_success with_reducible refine Owe.mk ?_);(simp(disch:=omega) [go_sem]))
  refine endL_normal ⟨49,[],[(1000,rowO eStr 1 kd l1)]⟩ [] (Le.renSub [] [] (by simp[go_sem]) (by simp[go_sem]) (Le.sub4 rfl (by simp[go_sem]))) (by simp[go_sem]) ⟨l1,⟨hk,hs.sub (Nat.le_refl _) (by omega)⟩,rfl,rfl⟩
def lenB:Nat→Nat
 |0=>0
 |1=>1
 |2=>2
 |3=>2
 |4=>3
 |5=>3
 |6=>3
 |7=>3
 |_=>4
theorem bitsLen64_ok (n:Nat) (h:n≤12):ACall Tryz.prog 119 [nt .u64 n] (fun r=>r=nt .i64 (lenB n)):=by
 have hc:n=0∨n=1∨n=2∨n=3∨n=4∨n=5∨n=6∨n=7∨n=8∨n=9∨n=10∨n=11∨n=12:=by omega
 rcases hc with rfl|rfl|rfl|rfl|rfl|rfl|rfl|rfl|rfl|rfl|rfl|rfl|rfl
 all_goals refine acall_of_awp Tryz.func119 Tryz.call119 rfl (by simp[Tryz.ntmps119]) ?_;simp only[Tryz.ntmps119,Tryz.results119]
 all_goals repeat' (first|(refine awK fun _ _=>?_)|refine zHg ?_|refine end_ret [] ?_;simp[go_sem,lenB]|(fail_if_success with_reducible refine Owe.mk ?_);(simp(disch:=omega) [go_sem,lenB]))
 all_goals kernel_rfl
theorem bitsLen_ok (n:Nat) (h:n≤12):ACall Tryz.prog 73 [nt .u64 n] (fun r=>r=nt .i64 (lenB n)):=by
 have h1:=bitsLen64_ok n h
 generalize lenB n=q at*
 refine acall_of_awp Tryz.func73 Tryz.call73 rfl (by simp[Tryz.ntmps73]) ?_;simp only[Tryz.ntmps73,Tryz.results73]
 repeat' (first|(refine awK fun _ _=>?_)|refine zHg ?_|refine end_ret [] ?_;simp[go_sem]|refine stepK_is rfl (h1) (by simp) ?_|(fail_if_success with_reducible refine Owe.mk ?_);(simp(disch:=omega) [go_sem]))
theorem pdqL_ok (f:FuncId) (cf:Lt→Lt→Int) (hp:Pre cf) (l:List Lt) (hl:l.length≤12) (hc: ∀x∈l,∀y∈l,ACall Tryz.prog f [eLt x,eLt y] (fun r=>r=nt .i64 (cf x y))) (q:Int):
 MCall Tryz.prog 121 [.ref 1000 0 l.length,nt .i64 (0:Nat),nt .i64 l.length,nt .i64 q,.clo f []] [(1000,rowO eLt 3 0 l)] (fun r o'=> ∃l',(l'.Perm l∧SrtOn cf l' 0 l.length)∧r= .tup []∧o'= [(1000,rowO eLt 3 0 l')]):=by
 have hi:=insL_ok f cf hp 0 l (by omega) hc 0 l.length (Nat.zero_le _) (Nat.le_refl _)
 have hl2:(l.length:Int)≤12:=by omega
 refine mcall_of_awpL Tryz.func121 Tryz.call121 rfl (by simp[Tryz.ntmps121]) ?_;simp only[Tryz.ntmps121,Tryz.results121]
 repeat' (first|(refine awK fun _ _=>?_)|refine zHg ?_|(fail_if_success with_reducible refine Owe.mk ?_);(simp(disch:=omega) [go_sem]))
 refine awp_for [0,4] [1000] (fun u:Nat=> [(1,nt .i64 (0:Nat)),(2,nt .i64 l.length),(3,nt .i64 q),(10,bl true),(11,bl true)]) (fun u:Nat=> [(1000,rowO eLt 3 0 l)]) (fun u:Nat=>0) (fun u:Nat=>u=0) (0) (Le.sub4 rfl (by simp[go_sem])) ⟨?_⟩ ?_
 ·rfl
 intro u hu AA hAA;simp only[kL,Nat.reduceBEq,Nat.reduceEqDiff,if_true,if_false,List.cons_append,List.nil_append,List.append_nil]
 repeat' (first|(refine awK fun _ _=>?_)|refine zHg ?_|(fail_if_success with_reducible refine Owe.mk ?_);(simp(disch:=omega) [go_sem,hl2]))
 refine stepK_fex [] [] 10000 _ _ (Fits.mk' (by simp[go_sem]) (by simp[go_sem])) (by simp[go_sem]) (by simp[go_sem]) (hi) (by simp[go_sem]) (by intros;simp[go_sem]) ?_;intro m hm
 repeat' (first|(fail_if_success with_reducible refine Owe.mk ?_);(simp(disch:=omega) [go_sem,hl2]))
 refine endL_ret ⟨148,[],[(1000,rowO eLt 3 0 m)]⟩ [] (Le.renSub [] [] (by simp[go_sem]) (by simp[go_sem]) (Le.sub4 rfl (by simp[go_sem]))) (by simp[go_sem]) ⟨m,⟨hm.1.perm,hm.2⟩,rfl,rfl⟩
theorem SortL_ok (f:FuncId) (cf:Lt→Lt→Int) (hp:Pre cf) (l:List Lt) (hl:l.length≤12) (hc: ∀x∈l,∀y∈l,ACall Tryz.prog f [eLt x,eLt y] (fun r=>r=nt .i64 (cf x y))):
 MCall Tryz.prog 76 [.ref 1000 0 l.length,.clo f []] [(1000,rowO eLt 3 0 l)] (fun r o'=> ∃l',(l'.Perm l∧SrtOn cf l' 0 l.length)∧r= .tup []∧o'= [(1000,rowO eLt 3 0 l')]):=by
 have hb:=bitsLen_ok l.length hl
 have hi:=pdqL_ok f cf hp l hl hc (lenB l.length)
 generalize lenB l.length=q at*
 refine mcall_of_awpL Tryz.func76 Tryz.call76 rfl (by simp[Tryz.ntmps76]) ?_;simp only[Tryz.ntmps76,Tryz.results76]
 repeat' (first|(refine awK fun _ _=>?_)|refine zHg ?_|refine stepK_is rfl (hb) (by simp) ?_|(fail_if_success with_reducible refine Owe.mk ?_);(simp(disch:=omega) [go_sem]))
 refine stepK_fex [] [] 10000 _ _ (Fits.mk' (by simp[go_sem]) (by simp[go_sem])) (by simp[go_sem]) (by simp[go_sem]) (hi) (by simp[go_sem]) (by intros;simp[go_sem]) ?_;intro m hm
 repeat' (first|(fail_if_success with_reducible refine Owe.mk ?_);(simp(disch:=omega) [go_sem]))
 refine endL_normal ⟨14,[],[(1000,rowO eLt 3 0 m)]⟩ [] (Le.renSub [] [] (by simp[go_sem]) (by simp[go_sem]) (Le.sub4 rfl (by simp[go_sem]))) (by simp[go_sem]) ⟨m,hm,rfl,rfl⟩
theorem pdqR_ok (f:FuncId) (cf:Rl→Rl→Int) (hp:Pre cf) (l:List Rl) (hl:l.length≤12) (hc: ∀x∈l,∀y∈l,ACall Tryz.prog f [eRl x,eRl y] (fun r=>r=nt .i64 (cf x y))) (q:Int):
 MCall Tryz.prog 95 [.ref 1000 0 l.length,nt .i64 (0:Nat),nt .i64 l.length,nt .i64 q,.clo f []] [(1000,rowO eRl 3 0 l)] (fun r o'=> ∃l',(l'.Perm l∧SrtOn cf l' 0 l.length)∧r= .tup []∧o'= [(1000,rowO eRl 3 0 l')]):=by
 have hi:=insR_ok f cf hp 0 l (by omega) hc 0 l.length (Nat.zero_le _) (Nat.le_refl _)
 have hl2:(l.length:Int)≤12:=by omega
 refine mcall_of_awpL Tryz.func95 Tryz.call95 rfl (by simp[Tryz.ntmps95]) ?_;simp only[Tryz.ntmps95,Tryz.results95]
 repeat' (first|(refine awK fun _ _=>?_)|refine zHg ?_|(fail_if_success with_reducible refine Owe.mk ?_);(simp(disch:=omega) [go_sem]))
 refine awp_for [0,4] [1000] (fun u:Nat=> [(1,nt .i64 (0:Nat)),(2,nt .i64 l.length),(3,nt .i64 q),(10,bl true),(11,bl true)]) (fun u:Nat=> [(1000,rowO eRl 3 0 l)]) (fun u:Nat=>0) (fun u:Nat=>u=0) (0) (Le.sub4 rfl (by simp[go_sem])) ⟨?_⟩ ?_
 ·rfl
 intro u hu AA hAA;simp only[kL,Nat.reduceBEq,Nat.reduceEqDiff,if_true,if_false,List.cons_append,List.nil_append,List.append_nil]
 repeat' (first|(refine awK fun _ _=>?_)|refine zHg ?_|(fail_if_success with_reducible refine Owe.mk ?_);(simp(disch:=omega) [go_sem,hl2]))
 refine stepK_fex [] [] 10000 _ _ (Fits.mk' (by simp[go_sem]) (by simp[go_sem])) (by simp[go_sem]) (by simp[go_sem]) (hi) (by simp[go_sem]) (by intros;simp[go_sem]) ?_;intro m hm
 repeat' (first|(fail_if_success with_reducible refine Owe.mk ?_);(simp(disch:=omega) [go_sem,hl2]))
 refine endL_ret ⟨148,[],[(1000,rowO eRl 3 0 m)]⟩ [] (Le.renSub [] [] (by simp[go_sem]) (by simp[go_sem]) (Le.sub4 rfl (by simp[go_sem]))) (by simp[go_sem]) ⟨m,⟨hm.1.perm,hm.2⟩,rfl,rfl⟩
theorem SortR_ok (f:FuncId) (cf:Rl→Rl→Int) (hp:Pre cf) (l:List Rl) (hl:l.length≤12) (hc: ∀x∈l,∀y∈l,ACall Tryz.prog f [eRl x,eRl y] (fun r=>r=nt .i64 (cf x y))):
 MCall Tryz.prog 51 [.ref 1000 0 l.length,.clo f []] [(1000,rowO eRl 3 0 l)] (fun r o'=> ∃l',(l'.Perm l∧SrtOn cf l' 0 l.length)∧r= .tup []∧o'= [(1000,rowO eRl 3 0 l')]):=by
 have hb:=bitsLen_ok l.length hl
 have hi:=pdqR_ok f cf hp l hl hc (lenB l.length)
 generalize lenB l.length=q at*
 refine mcall_of_awpL Tryz.func51 Tryz.call51 rfl (by simp[Tryz.ntmps51]) ?_;simp only[Tryz.ntmps51,Tryz.results51]
 repeat' (first|(refine awK fun _ _=>?_)|refine zHg ?_|refine stepK_is rfl (hb) (by simp) ?_|(fail_if_success with_reducible refine Owe.mk ?_);(simp(disch:=omega) [go_sem]))
 refine stepK_fex [] [] 10000 _ _ (Fits.mk' (by simp[go_sem]) (by simp[go_sem])) (by simp[go_sem]) (by simp[go_sem]) (hi) (by simp[go_sem]) (by intros;simp[go_sem]) ?_;intro m hm
 repeat' (first|(fail_if_success with_reducible refine Owe.mk ?_);(simp(disch:=omega) [go_sem]))
 refine endL_normal ⟨14,[],[(1000,rowO eRl 3 0 m)]⟩ [] (Le.renSub [] [] (by simp[go_sem]) (by simp[go_sem]) (Le.sub4 rfl (by simp[go_sem]))) (by simp[go_sem]) ⟨m,hm,rfl,rfl⟩
theorem pdqS_ok (l:List ByteArray) (hl:l.length≤12) (q:Int):
 MCall Tryz.prog 72 [.ref 1000 0 l.length,nt .i64 (0:Nat),nt .i64 l.length,nt .i64 q] [(1000,rowO eStr 1 0 l)] (fun r o'=> ∃l',(l'.Perm l∧SrtOn strC l' 0 l.length)∧r= .tup []∧o'= [(1000,rowO eStr 1 0 l')]):=by
 have hi:=insS_ok 0 l (by omega) 0 l.length (Nat.zero_le _) (Nat.le_refl _)
 have hl2:(l.length:Int)≤12:=by omega
 refine mcall_of_awpL Tryz.func72 Tryz.call72 rfl (by simp[Tryz.ntmps72]) ?_;simp only[Tryz.ntmps72,Tryz.results72]
 repeat' (first|(refine awK fun _ _=>?_)|refine zHg ?_|(fail_if_success with_reducible refine Owe.mk ?_);(simp(disch:=omega) [go_sem]))
 refine awp_for [0] [1000] (fun u:Nat=> [(1,nt .i64 (0:Nat)),(2,nt .i64 l.length),(3,nt .i64 q),(8,bl true),(9,bl true)]) (fun u:Nat=> [(1000,rowO eStr 1 0 l)]) (fun u:Nat=>0) (fun u:Nat=>u=0) (0) (Le.sub4 rfl (by simp[go_sem])) ⟨?_⟩ ?_
 ·rfl
 intro u hu AA hAA;simp only[kL,Nat.reduceBEq,Nat.reduceEqDiff,if_true,if_false,List.cons_append,List.nil_append,List.append_nil]
 repeat' (first|(refine awK fun _ _=>?_)|refine zHg ?_|(fail_if_success with_reducible refine Owe.mk ?_);(simp(disch:=omega) [go_sem,hl2]))
 refine stepK_fex [] [] 10000 _ _ (Fits.mk' (by simp[go_sem]) (by simp[go_sem])) (by simp[go_sem]) (by simp[go_sem]) (hi) (by simp[go_sem]) (by intros;simp[go_sem]) ?_;intro m hm
 repeat' (first|(fail_if_success with_reducible refine Owe.mk ?_);(simp(disch:=omega) [go_sem,hl2]))
 refine endL_ret ⟨134,[],[(1000,rowO eStr 1 0 m)]⟩ [] (Le.renSub [] [] (by simp[go_sem]) (by simp[go_sem]) (Le.sub4 rfl (by simp[go_sem]))) (by simp[go_sem]) ⟨m,⟨hm.1.perm,hm.2⟩,rfl,rfl⟩
theorem SortS_ok (l:List ByteArray) (hl:l.length≤12):
 MCall Tryz.prog 36 [.ref 1000 0 l.length] [(1000,rowO eStr 1 0 l)] (fun r o'=> ∃l',(l'.Perm l∧SrtOn strC l' 0 l.length)∧r= .tup []∧o'= [(1000,rowO eStr 1 0 l')]):=by
 have hb:=bitsLen_ok l.length hl
 have hi:=pdqS_ok l hl (lenB l.length)
 generalize lenB l.length=q at*
 refine mcall_of_awpL Tryz.func36 Tryz.call36 rfl (by simp[Tryz.ntmps36]) ?_;simp only[Tryz.ntmps36,Tryz.results36]
 repeat' (first|(refine awK fun _ _=>?_)|refine zHg ?_|refine stepK_is rfl (hb) (by simp) ?_|(fail_if_success with_reducible refine Owe.mk ?_);(simp(disch:=omega) [go_sem]))
 refine stepK_fex [] [] 10000 _ _ (Fits.mk' (by simp[go_sem]) (by simp[go_sem])) (by simp[go_sem]) (by simp[go_sem]) (hi) (by simp[go_sem]) (by intros;simp[go_sem]) ?_;intro m hm
 repeat' (first|(fail_if_success with_reducible refine Owe.mk ?_);(simp(disch:=omega) [go_sem]))
 refine endL_normal ⟨11,[],[(1000,rowO eStr 1 0 m)]⟩ [] (Le.renSub [] [] (by simp[go_sem]) (by simp[go_sem]) (Le.sub4 rfl (by simp[go_sem]))) (by simp[go_sem]) ⟨m,hm,rfl,rfl⟩
end Go.Proofs.YtkbglbcphjmiiaaGreatDoor
