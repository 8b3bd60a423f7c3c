import Derived.Test.YtkbglbcphjmiiaaGreatDoorS5
import Derived.Test.YtkbglbcphjmiiaaGreatDoorS3
import Derived.Test.YtkbglbcphjmiiaaGreatDoorA12
set_option linter.unusedSimpArgs false
set_option linter.unusedVariables false
open Go.Proofs.Tryz
namespace Go.Proofs.YtkbglbcphjmiiaaGreatDoor
open Go.Ab
set_option maxRecDepth 100000
set_option maxHeartbeats 4000000
theorem aHa {l:List Lt} {i:Nat} {x:Lt}:(l.map bW).set i (.agg [.sc (.bool x.neg),.sc (.string x.atom.name),.list false false (x.atom.args.map bO)])=(l.set i x).map bW:=by
 rw[List.map_set];rfl
theorem cG9 {l:List Rl} {i:Nat} {x:Rl}:(l.map bN).set i (.agg [.sc (.string x.head.name),.list false false (x.head.args.map bO),.list false false (x.body.map bW)])=(l.set i x).map bN:=by
 rw[List.map_set]
theorem rH {l:List ByteArray} {i:Nat} {x:ByteArray}:(l.map aI).set i (.sc (.string x))=(l.set i x).map aI:=by
 rw[List.map_set];rfl
theorem Tot.pre {α:Type} {c:α→α→Int} (h:Tot c):Pre c:=⟨fun _ _ _ a b=>h.le_tr a b,fun x y k=>by rw[h.neg x y];omega⟩
theorem cHa (f:FuncId) (cf:Lt→Lt→Int) (hp:Pre cf) (kd:Nat) (l:List Lt) (hl:l.length≤140737488355328) (hc: ∀x∈l,∀y∈l,ACall prog f [bW x,bW y] (fun r=>r=nt .i64 (cf x y))) (a b:Nat) (hab:a≤b) (hb:b≤l.length):
 MCall prog 151 [.ref 1000 0 l.length,nt .i64 a,nt .i64 b,.clo f []] [(1000,dK bW 3 kd l)] (fun r o'=> ∃l',(Keep l l' a b∧SrtOn cf l' a b)∧r= .tup []∧o'= [(1000,dK bW 3 kd l')]):=by
 refine cL func151 call151 rfl (by simp[ntmps151]) ?_;simp only[ntmps151,results151]
 repeat' (first|(refine aC fun _ _=>?_)|refine zHg ?_|simp(disch:=omega) [go_sem])
 refine bR [0,1,2,3] [1000] (fun x:Nat×List Lt=> [(8,nt .i64 x.1)]) (fun x:Nat×List Lt=> [(1000,dK bW 3 kd x.2)]) (fun x:Nat×List Lt=>b - x.1) (fun x:Nat×List Lt=>a+1≤x.1∧(x.1≤b∨x.1=a+1)∧Keep l x.2 a b∧SrtOn cf x.2 a x.1) ((a+1,l)) (Le.sub4 rfl (by simp[go_sem])) ⟨?_⟩ ?_
 ·exact⟨Nat.le_refl _,.inr rfl,Keep.refl _ _ _,SrtOn.short (by omega)⟩
 intro⟨i,l1⟩ ⟨hi,hi2,hk,hs⟩ AA hAA;simp only[kL,Nat.reduceBEq,Nat.reduceEqDiff,if_true,if_false,List.cons_append,List.nil_append,List.append_nil]
 dsimp only at*
 have hlen:=hk.len
 by_cases hib:i<b
 ·have hAB:=hAA
  repeat' (first|(refine aC fun _ _=>?_)|refine zHg ?_|(refine zqd ?_ ?_<;>(intro h;first|(exfalso;omega)|(simp only[h,zT])))|simp(disch:=omega) [go_sem])
  refine bR [0,1,2,3,8] [1000] (fun x:Nat×List Lt=> [(9,nt .i64 x.1)]) (fun x:Nat×List Lt=> [(1000,dK bW 3 kd x.2)]) (fun x:Nat×List Lt=>x.1) (fun x:Nat×List Lt=>a≤x.1∧x.1≤i∧Keep l x.2 a b∧Sink cf x.2 a i x.1) ((i,l1)) (Le.sub4 rfl (by simp[go_sem])) ⟨?_⟩ ?_
  ·exact⟨by omega,Nat.le_refl _,hk,Sink.start hs⟩
  intro⟨j,l2⟩ ⟨hj,hj2,hk2,hsk⟩ AA hAA;simp only[kL,Nat.reduceBEq,Nat.reduceEqDiff,if_true,if_false,List.cons_append,List.nil_append,List.append_nil]
  dsimp only at*
  have hlen2:=hk2.len
  by_cases hja:a<j
  ·obtain⟨j,rfl⟩: ∃j',j=j'+1:=⟨j - 1,by omega⟩
   have h1:j+1<l2.length:=by omega
   have h0:j<l2.length:=by omega
   have hu:=hc l2[j+1] (hk2.mem.1 (List.getElem_mem h1)) l2[j] (hk2.mem.1 (List.getElem_mem h0))
   have hsw:=(vR h1 h0).symm
   by_cases hq:cf l2[j+1] l2[j]<0
   ·repeat' (first|(refine aC fun _ _=>?_)|refine zHg ?_|((first|refine zqd ?_ ?_|refine zdd ?_ ?_)<;>(intro h;first|(exfalso;omega)|(simp only[h,zT])))|refine cP rfl (hu) rfl (by simp) ?_|(refine(hAA.next ((j,fC l2 (j+1) j)) (Le.sub4 rfl (by simp[go_sem,aHa,hsw,-List.map_set])) (by(try dsimp only);omega) ?_))|simp(disch:=omega) [go_sem,h0,h1]|refine zAo ?_|refine zDr 15 bE ?_|fail)
    exact⟨⟨by omega,by omega,hk2.trans (yQ ⟨by omega,by omega⟩ ⟨by omega,by omega⟩),hsk.step (by omega) h1 (by omega) (List.getElem?_eq_getElem h1) (List.getElem?_eq_getElem h0) hq⟩⟩
   ·repeat' (first|(refine aC fun _ _=>?_)|refine zHg ?_|((first|refine zqd ?_ ?_|refine zdd ?_ ?_)<;>(intro h;first|(exfalso;omega)|(simp only[h,zT])))|refine cP rfl (hu) rfl (by simp) ?_|(refine(hAB.next ((i+1,l2)) (Le.sub4 rfl (by simp[go_sem])) (by(try dsimp only);omega) ?_))|simp(disch:=omega) [go_sem,h0,h1]|refine zAo ?_|refine zDr 15 bE ?_|fail)
    exact⟨⟨by omega,by omega,hk2,hsk.stop hp (by omega) (.inr fun x y hx hy=>by
     rw[List.getElem?_eq_getElem h1]at hx
     rw[Nat.add_sub_cancel,List.getElem?_eq_getElem h0]at hy
     cases hx;cases hy;exact hq)⟩⟩
  ·repeat' (first|(refine aC fun _ _=>?_)|refine zHg ?_|(refine zdd ?_ ?_<;>(intro h;first|(exfalso;omega)|(simp only[h,zT])))|(refine(hAB.next ((i+1,l2)) (Le.sub4 rfl (by simp[go_sem])) (by(try dsimp only);omega) ?_))|simp(disch:=omega) [go_sem]|refine zDr 15 bE ?_|fail)
   exact⟨⟨by omega,by omega,hk2,hsk.stop hp (by omega) (.inl (by omega))⟩⟩
 ·repeat' (first|(refine aC fun _ _=>?_)|refine zHg ?_|(refine zqd ?_ ?_<;>(intro h;first|(exfalso;omega)|(simp only[h,zT])))|simp(disch:=omega) [go_sem])
  refine eR ⟨53,[],[(1000,dK bW 3 kd l1)]⟩ [] (Le.renSub [] [] (by simp[go_sem]) (by simp[go_sem]) (Le.sub4 rfl (by simp[go_sem]))) (by simp[go_sem]) ⟨l1,⟨hk,hs.sub (Nat.le_refl _) (by omega)⟩,rfl,rfl⟩
theorem cHb (f:FuncId) (cf:Rl→Rl→Int) (hp:Pre cf) (kd:Nat) (l:List Rl) (hl:l.length≤140737488355328) (hc: ∀x∈l,∀y∈l,ACall prog f [bN x,bN y] (fun r=>r=nt .i64 (cf x y))) (a b:Nat) (hab:a≤b) (hb:b≤l.length):
 MCall prog 133 [.ref 1000 0 l.length,nt .i64 a,nt .i64 b,.clo f []] [(1000,dK bN 3 kd l)] (fun r o'=> ∃l',(Keep l l' a b∧SrtOn cf l' a b)∧r= .tup []∧o'= [(1000,dK bN 3 kd l')]):=by
 refine cL func133 call133 rfl (by simp[ntmps133]) ?_;simp only[ntmps133,results133]
 repeat' (first|(refine aC fun _ _=>?_)|refine zHg ?_|simp(disch:=omega) [go_sem])
 refine bR [0,1,2,3] [1000] (fun x:Nat×List Rl=> [(8,nt .i64 x.1)]) (fun x:Nat×List Rl=> [(1000,dK bN 3 kd x.2)]) (fun x:Nat×List Rl=>b - x.1) (fun x:Nat×List Rl=>a+1≤x.1∧(x.1≤b∨x.1=a+1)∧Keep l x.2 a b∧SrtOn cf x.2 a x.1) ((a+1,l)) (Le.sub4 rfl (by simp[go_sem])) ⟨?_⟩ ?_
 ·exact⟨Nat.le_refl _,.inr rfl,Keep.refl _ _ _,SrtOn.short (by omega)⟩
 intro⟨i,l1⟩ ⟨hi,hi2,hk,hs⟩ AA hAA;simp only[kL,Nat.reduceBEq,Nat.reduceEqDiff,if_true,if_false,List.cons_append,List.nil_append,List.append_nil]
 dsimp only at*
 have hlen:=hk.len
 by_cases hib:i<b
 ·have hAB:=hAA
  repeat' (first|(refine aC fun _ _=>?_)|refine zHg ?_|(refine zqd ?_ ?_<;>(intro h;first|(exfalso;omega)|(simp only[h,zT])))|simp(disch:=omega) [go_sem])
  refine bR [0,1,2,3,8] [1000] (fun x:Nat×List Rl=> [(9,nt .i64 x.1)]) (fun x:Nat×List Rl=> [(1000,dK bN 3 kd x.2)]) (fun x:Nat×List Rl=>x.1) (fun x:Nat×List Rl=>a≤x.1∧x.1≤i∧Keep l x.2 a b∧Sink cf x.2 a i x.1) ((i,l1)) (Le.sub4 rfl (by simp[go_sem])) ⟨?_⟩ ?_
  ·exact⟨by omega,Nat.le_refl _,hk,Sink.start hs⟩
  intro⟨j,l2⟩ ⟨hj,hj2,hk2,hsk⟩ AA hAA;simp only[kL,Nat.reduceBEq,Nat.reduceEqDiff,if_true,if_false,List.cons_append,List.nil_append,List.append_nil]
  dsimp only at*
  have hlen2:=hk2.len
  by_cases hja:a<j
  ·obtain⟨j,rfl⟩: ∃j',j=j'+1:=⟨j - 1,by omega⟩
   have h1:j+1<l2.length:=by omega
   have h0:j<l2.length:=by omega
   have hu:=hc l2[j+1] (hk2.mem.1 (List.getElem_mem h1)) l2[j] (hk2.mem.1 (List.getElem_mem h0))
   have hsw:=(vR h1 h0).symm
   by_cases hq:cf l2[j+1] l2[j]<0
   ·repeat' (first|(refine aC fun _ _=>?_)|refine zHg ?_|((first|refine zqd ?_ ?_|refine zdd ?_ ?_)<;>(intro h;first|(exfalso;omega)|(simp only[h,zT])))|refine cP rfl (hu) rfl (by simp) ?_|(refine(hAA.next ((j,fC l2 (j+1) j)) (Le.sub4 rfl (by simp[go_sem,cG9,hsw,-List.map_set])) (by(try dsimp only);omega) ?_))|simp(disch:=omega) [go_sem,h0,h1]|refine zAo ?_|refine zDr 15 bE ?_|fail)
    exact⟨⟨by omega,by omega,hk2.trans (yQ ⟨by omega,by omega⟩ ⟨by omega,by omega⟩),hsk.step (by omega) h1 (by omega) (List.getElem?_eq_getElem h1) (List.getElem?_eq_getElem h0) hq⟩⟩
   ·repeat' (first|(refine aC fun _ _=>?_)|refine zHg ?_|((first|refine zqd ?_ ?_|refine zdd ?_ ?_)<;>(intro h;first|(exfalso;omega)|(simp only[h,zT])))|refine cP rfl (hu) rfl (by simp) ?_|(refine(hAB.next ((i+1,l2)) (Le.sub4 rfl (by simp[go_sem])) (by(try dsimp only);omega) ?_))|simp(disch:=omega) [go_sem,h0,h1]|refine zAo ?_|refine zDr 15 bE ?_|fail)
    exact⟨⟨by omega,by omega,hk2,hsk.stop hp (by omega) (.inr fun x y hx hy=>by
     rw[List.getElem?_eq_getElem h1]at hx
     rw[Nat.add_sub_cancel,List.getElem?_eq_getElem h0]at hy
     cases hx;cases hy;exact hq)⟩⟩
  ·repeat' (first|(refine aC fun _ _=>?_)|refine zHg ?_|(refine zdd ?_ ?_<;>(intro h;first|(exfalso;omega)|(simp only[h,zT])))|(refine(hAB.next ((i+1,l2)) (Le.sub4 rfl (by simp[go_sem])) (by(try dsimp only);omega) ?_))|simp(disch:=omega) [go_sem]|refine zDr 15 bE ?_|fail)
   exact⟨⟨by omega,by omega,hk2,hsk.stop hp (by omega) (.inl (by omega))⟩⟩
 ·repeat' (first|(refine aC fun _ _=>?_)|refine zHg ?_|(refine zqd ?_ ?_<;>(intro h;first|(exfalso;omega)|(simp only[h,zT])))|simp(disch:=omega) [go_sem])
  refine eR ⟨53,[],[(1000,dK bN 3 kd l1)]⟩ [] (Le.renSub [] [] (by simp[go_sem]) (by simp[go_sem]) (Le.sub4 rfl (by simp[go_sem]))) (by simp[go_sem]) ⟨l1,⟨hk,hs.sub (Nat.le_refl _) (by omega)⟩,rfl,rfl⟩
theorem aHb:Pre cD:=⟨fun _ _ _ a b=>aFm a b,fun x y k=>by rw[H1 x y];omega⟩
theorem aHc (a:ByteArray):ACall prog 149 [.sc (.string a)] (fun r=>r=bl false):=by
 refine bD func149 call149 rfl (by simp[ntmps149]) ?_;simp only[ntmps149,results149]
 repeat' (first|(refine aC fun _ _=>?_)|refine zHg ?_|(refine aT [] ?_;simp[go_sem])|simp(disch:=omega) [go_sem])
theorem cHc (a b:ByteArray):ACall prog 115 [.sc (.string a),.sc (.string b)] (fun r=>r=bl (decide (cD a b<0))):=by
 have h1:=aHc a
 have h2:=aHc b
 have hs:=cEa a b
 generalize cD a b=c at*
 refine bD func115 call115 rfl (by simp[ntmps115]) ?_;simp only[ntmps115,results115]
 repeat' (first|(refine aC fun _ _=>?_)|refine zHg ?_|(refine aT [] ?_;simp[go_sem,hs])|refine aP rfl (h1) (by simp) ?_|simp(disch:=omega) [go_sem,hs])
theorem cHd (kd:Nat) (l:List ByteArray) (hl:l.length≤140737488355328) (a b:Nat) (hab:a≤b) (hb:b≤l.length):
 MCall prog 109 [.ref 1000 0 l.length,nt .i64 a,nt .i64 b] [(1000,dK aI 1 kd l)] (fun r o'=> ∃l',(Keep l l' a b∧SrtOn cD l' a b)∧r= .tup []∧o'= [(1000,dK aI 1 kd l')]):=by
 refine cL func109 call109 rfl (by simp[ntmps109]) ?_;simp only[ntmps109,results109]
 repeat' (first|(refine aC fun _ _=>?_)|refine zHg ?_|simp(disch:=omega) [go_sem])
 refine bR [0,1,2] [1000] (fun x:Nat×List ByteArray=> [(6,nt .i64 x.1)]) (fun x:Nat×List ByteArray=> [(1000,dK aI 1 kd x.2)]) (fun x:Nat×List ByteArray=>b - x.1) (fun x:Nat×List ByteArray=>a+1≤x.1∧(x.1≤b∨x.1=a+1)∧Keep l x.2 a b∧SrtOn cD x.2 a x.1) ((a+1,l)) (Le.sub4 rfl (by simp[go_sem])) ⟨?_⟩ ?_
 ·exact⟨Nat.le_refl _,.inr rfl,Keep.refl _ _ _,SrtOn.short (by omega)⟩
 intro⟨i,l1⟩ ⟨hi,hi2,hk,hs⟩ AA hAA;simp only[kL,Nat.reduceBEq,Nat.reduceEqDiff,if_true,if_false,List.cons_append,List.nil_append,List.append_nil]
 dsimp only at*
 have hlen:=hk.len
 by_cases hib:i<b
 ·have hAB:=hAA
  repeat' (first|(refine aC fun _ _=>?_)|refine zHg ?_|(refine zqd ?_ ?_<;>(intro h;first|(exfalso;omega)|(simp only[h,zT])))|simp(disch:=omega) [go_sem])
  refine bR [0,1,2,6] [1000] (fun x:Nat×List ByteArray=> [(7,nt .i64 x.1)]) (fun x:Nat×List ByteArray=> [(1000,dK aI 1 kd x.2)]) (fun x:Nat×List ByteArray=>x.1) (fun x:Nat×List ByteArray=>a≤x.1∧x.1≤i∧Keep l x.2 a b∧Sink cD x.2 a i x.1) ((i,l1)) (Le.sub4 rfl (by simp[go_sem])) ⟨?_⟩ ?_
  ·exact⟨by omega,Nat.le_refl _,hk,Sink.start hs⟩
  intro⟨j,l2⟩ ⟨hj,hj2,hk2,hsk⟩ AA hAA;simp only[kL,Nat.reduceBEq,Nat.reduceEqDiff,if_true,if_false,List.cons_append,List.nil_append,List.append_nil]
  dsimp only at*
  have hlen2:=hk2.len
  by_cases hja:a<j
  ·obtain⟨j,rfl⟩: ∃j',j=j'+1:=⟨j - 1,by omega⟩
   have h1:j+1<l2.length:=by omega
   have h0:j<l2.length:=by omega
   have hu:=cHc l2[j+1] l2[j]
   have hsw:=(vR h1 h0).symm
   by_cases hq:cD l2[j+1] l2[j]<0
   ·rw[decide_eq_true hq]at hu
    repeat' (first|(refine aC fun _ _=>?_)|refine zHg ?_|(refine zdd ?_ ?_<;>(intro h;first|(exfalso;omega)|(simp only[h,zT])))|refine cP rfl (hu) rfl (by simp) ?_|(refine(hAA.next ((j,fC l2 (j+1) j)) (Le.sub4 rfl (by simp[go_sem,rH,hsw,-List.map_set])) (by(try dsimp only);omega) ?_))|simp(disch:=omega) [go_sem,h0,h1,aI]|refine zAo ?_|refine zDr 15 bE ?_|fail)
    exact⟨⟨by omega,by omega,hk2.trans (yQ ⟨by omega,by omega⟩ ⟨by omega,by omega⟩),hsk.step (by omega) h1 (by omega) (List.getElem?_eq_getElem h1) (List.getElem?_eq_getElem h0) hq⟩⟩
   ·rw[decide_eq_false hq]at hu
    repeat' (first|(refine aC fun _ _=>?_)|refine zHg ?_|(refine zdd ?_ ?_<;>(intro h;first|(exfalso;omega)|(simp only[h,zT])))|refine cP rfl (hu) rfl (by simp) ?_|(refine(hAB.next ((i+1,l2)) (Le.sub4 rfl (by simp[go_sem])) (by(try dsimp only);omega) ?_))|simp(disch:=omega) [go_sem,h0,h1,aI]|refine zAo ?_|refine zDr 15 bE ?_|fail)
    exact⟨⟨by omega,by omega,hk2,hsk.stop aHb (by omega) (.inr fun x y hx hy=>by
     rw[List.getElem?_eq_getElem h1]at hx
     rw[Nat.add_sub_cancel,List.getElem?_eq_getElem h0]at hy
     cases hx;cases hy;exact hq)⟩⟩
  ·repeat' (first|(refine aC fun _ _=>?_)|refine zHg ?_|(refine zdd ?_ ?_<;>(intro h;first|(exfalso;omega)|(simp only[h,zT])))|(refine(hAB.next ((i+1,l2)) (Le.sub4 rfl (by simp[go_sem])) (by(try dsimp only);omega) ?_))|simp(disch:=omega) [go_sem]|refine zDr 15 bE ?_|fail)
   exact⟨⟨by omega,by omega,hk2,hsk.stop aHb (by omega) (.inl (by omega))⟩⟩
 ·repeat' (first|(refine aC fun _ _=>?_)|refine zHg ?_|(refine zqd ?_ ?_<;>(intro h;first|(exfalso;omega)|(simp only[h,zT])))|simp(disch:=omega) [go_sem])
  refine eR ⟨49,[],[(1000,dK aI 1 kd l1)]⟩ [] (Le.renSub [] [] (by simp[go_sem]) (by simp[go_sem]) (Le.sub4 rfl (by simp[go_sem]))) (by simp[go_sem]) ⟨l1,⟨hk,hs.sub (Nat.le_refl _) (by omega)⟩,rfl,rfl⟩
def pA:Nat→Nat
 |0=>0
 |1=>1
 |2=>2
 |3=>2
 |4=>3
 |5=>3
 |6=>3
 |7=>3
 |_=>4
theorem cHe (n:Nat) (h:n≤12):ACall prog 119 [nt .u64 n] (fun r=>r=nt .i64 (pA n)):=by
 have hc:n=0∨n=1∨n=2∨n=3∨n=4∨n=5∨n=6∨n=7∨n=8∨n=9∨n=10∨n=11∨n=12:=by omega
 rcases hc with rfl|rfl|rfl|rfl|rfl|rfl|rfl|rfl|rfl|rfl|rfl|rfl|rfl
 all_goals refine bD func119 call119 rfl (by simp[ntmps119]) ?_;simp only[ntmps119,results119]
 all_goals repeat' (first|(refine aC fun _ _=>?_)|refine zHg ?_|(refine aT [] ?_;simp[go_sem,pA])|simp(disch:=omega) [go_sem,pA])
 all_goals kernel_rfl
theorem K0 (n:Nat) (h:n≤12):ACall prog 73 [nt .u64 n] (fun r=>r=nt .i64 (pA n)):=by
 have h1:=cHe n h
 generalize pA n=q at*
 refine bD func73 call73 rfl (by simp[ntmps73]) ?_;simp only[ntmps73,results73]
 repeat' (first|(refine aC fun _ _=>?_)|refine zHg ?_|(refine aT [] ?_;simp[go_sem])|refine aP rfl (h1) (by simp) ?_|simp(disch:=omega) [go_sem])
theorem cHf (f:FuncId) (cf:Lt→Lt→Int) (hp:Pre cf) (l:List Lt) (hl:l.length≤12) (hc: ∀x∈l,∀y∈l,ACall prog f [bW x,bW y] (fun r=>r=nt .i64 (cf x y))) (q:Int):
 MCall prog 121 [.ref 1000 0 l.length,nt .i64 (0:Nat),nt .i64 l.length,nt .i64 q,.clo f []] [(1000,dK bW 3 0 l)] (fun r o'=> ∃l',(l'.Perm l∧SrtOn cf l' 0 l.length)∧r= .tup []∧o'= [(1000,dK bW 3 0 l')]):=by
 have hi:=cHa f cf hp 0 l (by omega) hc 0 l.length (Nat.zero_le _) (Nat.le_refl _)
 have hl2:(l.length:Int)≤12:=by omega
 refine cL func121 call121 rfl (by simp[ntmps121]) ?_;simp only[ntmps121,results121]
 repeat' (first|(refine aC fun _ _=>?_)|refine zHg ?_|simp(disch:=omega) [go_sem])
 refine bR [0,4] [1000] (fun u:Nat=> [(1,nt .i64 (0:Nat)),(2,nt .i64 l.length),(3,nt .i64 q),(10,bl true),(11,bl true)]) (fun u:Nat=> [(1000,dK bW 3 0 l)]) (fun u:Nat=>0) (fun u:Nat=>u=0) (0) (Le.sub4 rfl (by simp[go_sem])) ⟨?_⟩ ?_
 ·rfl
 intro u hu AA hAA;simp only[kL,Nat.reduceBEq,Nat.reduceEqDiff,if_true,if_false,List.cons_append,List.nil_append,List.append_nil]
 repeat' (first|(refine aC fun _ _=>?_)|refine zHg ?_|simp(disch:=omega) [go_sem,hl2])
 refine qW [] [] 10000 _ _ (Fits.mk' (by simp[go_sem]) (by simp[go_sem])) (by simp[go_sem]) (by simp[go_sem]) (hi) (by simp[go_sem]) (by intros;simp[go_sem]) ?_;intro m hm
 repeat' (first|simp(disch:=omega) [go_sem,hl2])
 refine cS ⟨148,[],[(1000,dK bW 3 0 m)]⟩ [] (Le.renSub [] [] (by simp[go_sem]) (by simp[go_sem]) (Le.sub4 rfl (by simp[go_sem]))) (by simp[go_sem]) ⟨m,⟨hm.1.perm,hm.2⟩,rfl,rfl⟩
theorem cHg (f:FuncId) (cf:Lt→Lt→Int) (hp:Pre cf) (l:List Lt) (hl:l.length≤12) (hc: ∀x∈l,∀y∈l,ACall prog f [bW x,bW y] (fun r=>r=nt .i64 (cf x y))):
 MCall prog 76 [.ref 1000 0 l.length,.clo f []] [(1000,dK bW 3 0 l)] (fun r o'=> ∃l',(l'.Perm l∧SrtOn cf l' 0 l.length)∧r= .tup []∧o'= [(1000,dK bW 3 0 l')]):=by
 have hb:=K0 l.length hl
 have hi:=cHf f cf hp l hl hc (pA l.length)
 generalize pA l.length=q at*
 refine cL func76 call76 rfl (by simp[ntmps76]) ?_;simp only[ntmps76,results76]
 repeat' (first|(refine aC fun _ _=>?_)|refine zHg ?_|refine aP rfl (hb) (by simp) ?_|simp(disch:=omega) [go_sem])
 refine qW [] [] 10000 _ _ (Fits.mk' (by simp[go_sem]) (by simp[go_sem])) (by simp[go_sem]) (by simp[go_sem]) (hi) (by simp[go_sem]) (by intros;simp[go_sem]) ?_;intro m hm
 repeat' (first|simp(disch:=omega) [go_sem])
 refine eR ⟨14,[],[(1000,dK bW 3 0 m)]⟩ [] (Le.renSub [] [] (by simp[go_sem]) (by simp[go_sem]) (Le.sub4 rfl (by simp[go_sem]))) (by simp[go_sem]) ⟨m,hm,rfl,rfl⟩
theorem cHh (f:FuncId) (cf:Rl→Rl→Int) (hp:Pre cf) (l:List Rl) (hl:l.length≤12) (hc: ∀x∈l,∀y∈l,ACall prog f [bN x,bN y] (fun r=>r=nt .i64 (cf x y))) (q:Int):
 MCall prog 95 [.ref 1000 0 l.length,nt .i64 (0:Nat),nt .i64 l.length,nt .i64 q,.clo f []] [(1000,dK bN 3 0 l)] (fun r o'=> ∃l',(l'.Perm l∧SrtOn cf l' 0 l.length)∧r= .tup []∧o'= [(1000,dK bN 3 0 l')]):=by
 have hi:=cHb f cf hp 0 l (by omega) hc 0 l.length (Nat.zero_le _) (Nat.le_refl _)
 have hl2:(l.length:Int)≤12:=by omega
 refine cL func95 call95 rfl (by simp[ntmps95]) ?_;simp only[ntmps95,results95]
 repeat' (first|(refine aC fun _ _=>?_)|refine zHg ?_|simp(disch:=omega) [go_sem])
 refine bR [0,4] [1000] (fun u:Nat=> [(1,nt .i64 (0:Nat)),(2,nt .i64 l.length),(3,nt .i64 q),(10,bl true),(11,bl true)]) (fun u:Nat=> [(1000,dK bN 3 0 l)]) (fun u:Nat=>0) (fun u:Nat=>u=0) (0) (Le.sub4 rfl (by simp[go_sem])) ⟨?_⟩ ?_
 ·rfl
 intro u hu AA hAA;simp only[kL,Nat.reduceBEq,Nat.reduceEqDiff,if_true,if_false,List.cons_append,List.nil_append,List.append_nil]
 repeat' (first|(refine aC fun _ _=>?_)|refine zHg ?_|simp(disch:=omega) [go_sem,hl2])
 refine qW [] [] 10000 _ _ (Fits.mk' (by simp[go_sem]) (by simp[go_sem])) (by simp[go_sem]) (by simp[go_sem]) (hi) (by simp[go_sem]) (by intros;simp[go_sem]) ?_;intro m hm
 repeat' (first|simp(disch:=omega) [go_sem,hl2])
 refine cS ⟨148,[],[(1000,dK bN 3 0 m)]⟩ [] (Le.renSub [] [] (by simp[go_sem]) (by simp[go_sem]) (Le.sub4 rfl (by simp[go_sem]))) (by simp[go_sem]) ⟨m,⟨hm.1.perm,hm.2⟩,rfl,rfl⟩
theorem cHi (f:FuncId) (cf:Rl→Rl→Int) (hp:Pre cf) (l:List Rl) (hl:l.length≤12) (hc: ∀x∈l,∀y∈l,ACall prog f [bN x,bN y] (fun r=>r=nt .i64 (cf x y))):
 MCall prog 51 [.ref 1000 0 l.length,.clo f []] [(1000,dK bN 3 0 l)] (fun r o'=> ∃l',(l'.Perm l∧SrtOn cf l' 0 l.length)∧r= .tup []∧o'= [(1000,dK bN 3 0 l')]):=by
 have hb:=K0 l.length hl
 have hi:=cHh f cf hp l hl hc (pA l.length)
 generalize pA l.length=q at*
 refine cL func51 call51 rfl (by simp[ntmps51]) ?_;simp only[ntmps51,results51]
 repeat' (first|(refine aC fun _ _=>?_)|refine zHg ?_|refine aP rfl (hb) (by simp) ?_|simp(disch:=omega) [go_sem])
 refine qW [] [] 10000 _ _ (Fits.mk' (by simp[go_sem]) (by simp[go_sem])) (by simp[go_sem]) (by simp[go_sem]) (hi) (by simp[go_sem]) (by intros;simp[go_sem]) ?_;intro m hm
 repeat' (first|simp(disch:=omega) [go_sem])
 refine eR ⟨14,[],[(1000,dK bN 3 0 m)]⟩ [] (Le.renSub [] [] (by simp[go_sem]) (by simp[go_sem]) (Le.sub4 rfl (by simp[go_sem]))) (by simp[go_sem]) ⟨m,hm,rfl,rfl⟩
theorem cHj (l:List ByteArray) (hl:l.length≤12) (q:Int):
 MCall prog 72 [.ref 1000 0 l.length,nt .i64 (0:Nat),nt .i64 l.length,nt .i64 q] [(1000,dK aI 1 0 l)] (fun r o'=> ∃l',(l'.Perm l∧SrtOn cD l' 0 l.length)∧r= .tup []∧o'= [(1000,dK aI 1 0 l')]):=by
 have hi:=cHd 0 l (by omega) 0 l.length (Nat.zero_le _) (Nat.le_refl _)
 have hl2:(l.length:Int)≤12:=by omega
 refine cL func72 call72 rfl (by simp[ntmps72]) ?_;simp only[ntmps72,results72]
 repeat' (first|(refine aC fun _ _=>?_)|refine zHg ?_|simp(disch:=omega) [go_sem])
 refine bR [0] [1000] (fun u:Nat=> [(1,nt .i64 (0:Nat)),(2,nt .i64 l.length),(3,nt .i64 q),(8,bl true),(9,bl true)]) (fun u:Nat=> [(1000,dK aI 1 0 l)]) (fun u:Nat=>0) (fun u:Nat=>u=0) (0) (Le.sub4 rfl (by simp[go_sem])) ⟨?_⟩ ?_
 ·rfl
 intro u hu AA hAA;simp only[kL,Nat.reduceBEq,Nat.reduceEqDiff,if_true,if_false,List.cons_append,List.nil_append,List.append_nil]
 repeat' (first|(refine aC fun _ _=>?_)|refine zHg ?_|simp(disch:=omega) [go_sem,hl2])
 refine qW [] [] 10000 _ _ (Fits.mk' (by simp[go_sem]) (by simp[go_sem])) (by simp[go_sem]) (by simp[go_sem]) (hi) (by simp[go_sem]) (by intros;simp[go_sem]) ?_;intro m hm
 repeat' (first|simp(disch:=omega) [go_sem,hl2])
 refine cS ⟨134,[],[(1000,dK aI 1 0 m)]⟩ [] (Le.renSub [] [] (by simp[go_sem]) (by simp[go_sem]) (Le.sub4 rfl (by simp[go_sem]))) (by simp[go_sem]) ⟨m,⟨hm.1.perm,hm.2⟩,rfl,rfl⟩
theorem cHk (l:List ByteArray) (hl:l.length≤12):
 MCall prog 36 [.ref 1000 0 l.length] [(1000,dK aI 1 0 l)] (fun r o'=> ∃l',(l'.Perm l∧SrtOn cD l' 0 l.length)∧r= .tup []∧o'= [(1000,dK aI 1 0 l')]):=by
 have hb:=K0 l.length hl
 have hi:=cHj l hl (pA l.length)
 generalize pA l.length=q at*
 refine cL func36 call36 rfl (by simp[ntmps36]) ?_;simp only[ntmps36,results36]
 repeat' (first|(refine aC fun _ _=>?_)|refine zHg ?_|refine aP rfl (hb) (by simp) ?_|simp(disch:=omega) [go_sem])
 refine qW [] [] 10000 _ _ (Fits.mk' (by simp[go_sem]) (by simp[go_sem])) (by simp[go_sem]) (by simp[go_sem]) (hi) (by simp[go_sem]) (by intros;simp[go_sem]) ?_;intro m hm
 repeat' (first|simp(disch:=omega) [go_sem])
 refine eR ⟨11,[],[(1000,dK aI 1 0 m)]⟩ [] (Le.renSub [] [] (by simp[go_sem]) (by simp[go_sem]) (Le.sub4 rfl (by simp[go_sem]))) (by simp[go_sem]) ⟨m,hm,rfl,rfl⟩
set_option maxHeartbeats 8000000
theorem aHd (a b:Lt):ACall prog 78 [bW a,bW b] (fun r=>r=bl (decide (bU a b=0))):=by
 have h:=Y7 a b
 generalize bU a b=c at*
 refine bD func78 call78 rfl (by simp[ntmps78]) ?_;simp only[ntmps78,results78]
 repeat' (first|(refine aC fun _ _=>?_)|refine zHg ?_|(refine aT [] ?_;simp[go_sem])|refine aP rfl (h) (by simp) ?_|simp(disch:=omega) [go_sem])
abbrev zL:AV:= .agg [bl false,.sc (.string ⟨#[]⟩),.list false true []]
abbrev lL (D:List Lt) (n:Nat):AObj:=⟨true,false,true,3,D.map bW++List.replicate n zL,0⟩
def jK (m:List Lt) (i:Nat):List Lt:=dL bU m i++m.drop (dL bU m i).length
theorem aHe {m:List Lt} {i:Nat} (h:i≤m.length):(jK m i).length=m.length:=by
 have:=H8 (c:=bU) (l:=m) i
 unfold jK
 rw[List.length_append,List.length_drop];omega
theorem aHf {m:List Lt} {i j:Nat} (h:(dL bU m i).length≤j) (hj:j<m.length):(jK m i)[j]?=some m[j]:=by
 unfold jK
 rw[List.getElem?_append_right h,List.getElem?_drop,←List.getElem?_eq_getElem hj]
 congr 1
 omega
theorem cHl {m:List Lt} (f:Lt→AV) (z:AV):List.take (dL bU m m.length).length ((jK m m.length).map f)++(List.replicate (m.length - (dL bU m m.length).length) z++List.drop m.length ((jK m m.length).map f))=(dL bU m m.length).map f++List.replicate (m.length - (dL bU m m.length).length) z:=by
 have hl:=aHe (m:=m) (Nat.le_refl _)
 rw[List.drop_of_length_le (by rw[List.length_map,hl];exact Nat.le_refl _),List.append_nil]
 congr 1
 unfold jK
 rw[List.map_append,List.take_append_of_le_length (by rw[List.length_map];exact Nat.le_refl _),List.take_of_length_le (by rw[List.length_map];exact Nat.le_refl _)]
theorem aHg {m:List Lt} {i:Nat} (h:i<m.length) (h0:i≠0) (he:bU m[i] m[i - 1]=0):dL bU m (i+1)=dL bU m i:=by
 have e:=(oV.zero _ _).1 he
 rw[V6 h,V7 h,if_neg]
 rintro(k|k)
 ·exact h0 k
 ·exact k ((oV.zero _ _).2 e.symm)
theorem aHh {m:List Lt} {i:Nat} (h:i<m.length) (he:i=0∨bU m[i] m[i - 1]≠0):dL bU m (i+1)=dL bU m i++ [m[i]]:=by
 rw[V6 h,V7 h,if_pos]
 rcases he with k|k
 ·exact .inl k
 ·refine .inr fun e=>k ?_
  exact(oV.zero _ _).2 ((oV.zero _ _).1 e).symm
theorem cHm {m:List Lt} {i:Nat} (h:i<m.length) (he:dL bU m (i+1)=dL bU m i++ [m[i]]):jK m (i+1)=(jK m i).set (dL bU m i).length m[i]:=by
 have hl:=H8 (c:=bU) (l:=m) i
 unfold jK
 rw[he,List.length_append,List.set_append_right _ _ (Nat.le_refl _),Nat.sub_self]
 rw[List.drop_eq_getElem_cons (i:=(dL bU m i).length) (by omega),List.set_cons_zero,List.append_assoc]
 rfl
theorem cHn (m:List Lt) (hl:m.length≤100):
 MCall prog 77 [.ref 1000 0 m.length,.clo 78 []] [(1000,dK bW 3 0 m)]
  (fun r o'=>r= .ref 1000 0 (dL bU m m.length).length∧o'= [(1000,lL (dL bU m m.length) (m.length - (dL bU m m.length).length))]):=by
 by_cases h2:m.length<2
 ·have e:dL bU m m.length=m:=by
   rcases m with _|⟨a,_|⟨b,r⟩⟩
   ·rfl
   ·rfl
   ·simp at h2;omega
  rw[e]
  have h2':(m.length:Int)<2:=by omega
  simp only[Nat.sub_self,lL,List.replicate_zero,List.append_nil]
  refine cL func77 call77 rfl (by simp[ntmps77]) ?_;simp only[ntmps77,results77]
  repeat' (first|(refine aC fun _ _=>?_)|refine zHg ?_|simp(disch:=omega) [go_sem,h2'])
  refine cS ⟨66,[(4,.ref 1000 0 m.length)],[(1000,dK bW 3 0 m)]⟩ [.ref 1000 0 m.length] (Le.renSub [] [] (by simp[go_sem]) (by simp[go_sem]) (Le.sub4 rfl (by simp[go_sem]))) (by simp[go_sem]) ⟨rfl,rfl⟩
 ·have h2': ¬(m.length:Int)<2:=by omega
  generalize hD:dL bU m m.length=D
  refine cL func77 call77 rfl (by simp[ntmps77]) ?_;simp only[ntmps77,results77]
  repeat' (first|(refine aC fun _ _=>?_)|refine zHg ?_|simp(disch:=omega) [go_sem,h2'])
  refine bR [0,1] [1000] (fun k:Nat=> [(5,nt .i64 k)]) (fun k:Nat=> [(1000,dK bW 3 0 m)]) (fun k:Nat=>m.length - k) (fun k:Nat=>1≤k∧k≤m.length∧dL bU m k=m.take k) (1) (Le.sub4 rfl (by simp[go_sem])) ⟨?_⟩ ?_
  ·refine⟨Nat.le_refl _,by omega,?_⟩
   rcases m with _|⟨a,r⟩
   ·simp at h2
   ·rfl
  intro k ⟨hk1,hk2,hk3⟩ AA hAA;simp only[kL,Nat.reduceBEq,Nat.reduceEqDiff,if_true,if_false,List.cons_append,List.nil_append,List.append_nil]
  by_cases hlt:k<m.length
  ·obtain⟨j,rfl⟩: ∃j,k=j+1:=⟨k - 1,by omega⟩
   have hj:j<m.length:=by omega
   have hu:=aHd m[j+1] m[j]
   by_cases hz:bU m[j+1] m[j]=0
   ·rw[decide_eq_true hz]at hu
    have hs0:=aHg hlt (by omega) hz
    have hr0:jK m (j+1+1)=m:=by
     unfold jK
     rw[hs0,hk3,List.length_take,Nat.min_eq_left (by omega),List.take_append_drop]
    have hd0:(dL bU m (j+1+1)).length=j+1:=by rw[hs0,hk3,List.length_take];omega
    repeat' (first|(refine aC fun _ _=>?_)|refine zHg ?_|(refine zqd ?_ ?_<;>(intro h;first|(exfalso;omega)|(simp only[h,zT])))|refine cP rfl (hu) rfl (by simp) ?_|simp(disch:=omega) [go_sem,hlt,hj]|refine zAo ?_|refine zDr 11 bE ?_|fail)
    refine bR [0,1,6] [1000] (fun i:Nat=> [(5,nt .i64 (dL bU m (j+1+i)).length),(7,nt .i64 i)]) (fun i:Nat=> [(1000,dK bW 3 0 (jK m (j+1+i)))]) (fun i:Nat=>m.length - i) (fun i:Nat=>1≤i∧j+1+i≤m.length∧1≤(dL bU m (j+1+i)).length∧(dL bU m (j+1+i)).length+1≤j+1+i) (1) (Le.sub4 rfl (by simp[go_sem,hr0,hd0])) ⟨?_⟩ ?_
    ·exact⟨Nat.le_refl _,by omega,by omega,by omega⟩
    clear hs0 hr0 hd0 hu hz hk3
    intro i ⟨hi1,hi2,hi3,hi4⟩ AA hAA;simp only[kL,Nat.reduceBEq,Nat.reduceEqDiff,if_true,if_false,List.cons_append,List.nil_append,List.append_nil]
    have hml:=aHe (m:=m) (i:=j+1+i) hi2
    by_cases hil:j+1+i<m.length
    ·obtain⟨q,rfl⟩: ∃q,i=q+1:=⟨i - 1,by omega⟩
     have g1:=aHf (m:=m) (i:=j+1+(q+1)) (j:=j+1+(q+1)) (by omega) hil
     have g2:=aHf (m:=m) (i:=j+1+(q+1)) (j:=j+1+q) (by omega) (by omega)
     have hu:=aHd m[j+1+(q+1)] m[j+1+q]
     have hix:((q+1:Nat):Int)<((m.length - (j+1):Nat):Int):=by omega
     have e0:j+1+(q+1+1)=j+1+(q+1)+1:=by omega
     by_cases hz:bU m[j+1+(q+1)] m[j+1+q]=0
     ·rw[decide_eq_true hz]at hu
      have hs0:=aHg (m:=m) (i:=j+1+(q+1)) hil (by omega) hz
      have hs1:jK m (j+1+(q+1)+1)=jK m (j+1+(q+1)):=by unfold jK;rw[hs0]
      rw[←e0]at hs0 hs1
      have hs2:=congrArg List.length hs0
      obtain⟨R,hR⟩: ∃R,jK m (j+1+(q+1))=R:=⟨_,rfl⟩
      obtain⟨E,hE⟩: ∃E,(dL bU m (j+1+(q+1))).length=E:=⟨_,rfl⟩
      rw[hR]at g1 g2 hs1 hml ⊢
      rw[hE]at hi3 hi4 hs2 ⊢
      have b1:j+1+(q+1)<R.length:=by omega
      have b2:j+1+q<R.length:=by omega
      rw[List.getElem?_eq_getElem b1]at g1
      rw[List.getElem?_eq_getElem b2]at g2
      rw[←Option.some.inj g1,←Option.some.inj g2]at hu
      clear g1 g2 hz hs0
      repeat' (first|(refine aC fun _ _=>?_)|refine zHg ?_|(refine zqd ?_ ?_<;>(intro h;first|(exfalso;omega)|(simp only[h,zT])))|refine cP rfl (hu) rfl (by simp) ?_|(refine(hAA.next (q+1+1) (Le.sub4 rfl (by simp[go_sem,hs1,hs2])) (by(try dsimp only);omega) ?_))|simp(disch:=omega) [go_sem,hix,b1,b2]|refine zAo ?_|refine zDr 11 bE ?_|fail)
      all_goals(first|omega|skip)
      all_goals exact⟨by omega,by omega,by omega,by omega⟩
     ·rw[decide_eq_false hz]at hu
      have hs0:=aHh (m:=m) (i:=j+1+(q+1)) hil (.inr hz)
      have hs1:=cHm hil hs0
      rw[←e0]at hs0 hs1
      have hs2:=congrArg List.length hs0
      rw[List.length_append,List.length_singleton]at hs2
      obtain⟨R,hR⟩: ∃R,jK m (j+1+(q+1))=R:=⟨_,rfl⟩
      obtain⟨E,hE⟩: ∃E,(dL bU m (j+1+(q+1))).length=E:=⟨_,rfl⟩
      rw[hR,hE]at hs1
      rw[hR]at g1 g2 hml ⊢
      rw[hE]at hi3 hi4 hs2 ⊢
      have b1:j+1+(q+1)<R.length:=by omega
      have b2:j+1+q<R.length:=by omega
      rw[List.getElem?_eq_getElem b1]at g1
      rw[List.getElem?_eq_getElem b2]at g2
      rw[←Option.some.inj g1]at hs1
      rw[←Option.some.inj g1,←Option.some.inj g2]at hu
      clear g1 g2 hz hs0
      repeat' (first|(refine aC fun _ _=>?_)|refine zHg ?_|(refine zqd ?_ ?_<;>(intro h;first|(exfalso;omega)|(simp only[h,zT])))|refine cP rfl (hu) rfl (by simp) ?_|(refine(hAA.next (q+1+1) (Le.sub4 rfl (by simp[go_sem,hs1,hs2,aHa])) (by(try dsimp only);omega) ?_))|simp(disch:=omega) [go_sem,hix,b1,b2]|refine zAo ?_|refine zDr 11 bE ?_|fail)
      all_goals(first|omega|skip)
      all_goals exact⟨by omega,by omega,by omega,by omega⟩
    ·have hi0:j+1+i=m.length:=by omega
     have hix: ¬((i:Nat):Int)<((m.length - (j+1):Nat):Int):=by omega
     have hse:=cHl (m:=m) bW zL
     rw[hi0]at hml hi3 hi4 ⊢
     have hEl:=H8 (c:=bU) (l:=m) m.length
     rw[hD]at*
     dsimp only[zL,bl]at hse
     repeat' (first|(refine aC fun _ _=>?_)|refine zHg ?_|simp(disch:=omega) [go_sem,hix,hse]|refine zAo ?_|fail)
     refine cS ⟨66,[(4,.ref 1000 0 D.length)],[(1000,lL D (m.length - D.length))]⟩ [.ref 1000 0 D.length] (Le.renSub [] [] (by simp[go_sem,lL,zL,hse]) (by simp[go_sem,lL,zL,hse]) (Le.sub4 rfl (by simp[go_sem,lL,zL,hse]))) (by simp[go_sem,lL,zL,hse]) ⟨rfl,rfl⟩
   ·rw[decide_eq_false hz]at hu
    have hs0:=aHh hlt (.inr hz)
    rw[hk3]at hs0
    repeat' (first|(refine aC fun _ _=>?_)|refine zHg ?_|(refine zqd ?_ ?_<;>(intro h;first|(exfalso;omega)|(simp only[h,zT])))|refine cP rfl (hu) rfl (by simp) ?_|(refine(hAA.next (j+1+1) (Le.sub4 rfl (by simp[go_sem])) (by(try dsimp only);omega) ?_))|simp(disch:=omega) [go_sem,hlt,hj]|refine zAo ?_|refine zDr 11 bE ?_|fail)
    all_goals(first|omega|skip)
    exact⟨by omega,hlt,by rw[hs0,iT hlt]⟩
  ·obtain rfl:k=m.length:=by omega
   rw[hD,List.take_length]at hk3
   subst hk3
   repeat' (first|(refine aC fun _ _=>?_)|refine zHg ?_|simp(disch:=omega) [go_sem])
   refine cS ⟨66,[(4,.ref 1000 0 D.length)],[(1000,lL D 0)]⟩ [.ref 1000 0 D.length] (Le.renSub [] [] (by simp[go_sem,lL,Nat.sub_self,List.replicate_zero,List.append_nil]) (by simp[go_sem,lL,Nat.sub_self,List.replicate_zero,List.append_nil]) (Le.sub4 rfl (by simp[go_sem,lL,Nat.sub_self,List.replicate_zero,List.append_nil]))) (by simp[go_sem,lL,Nat.sub_self,List.replicate_zero,List.append_nil]) ⟨rfl,rfl⟩
theorem wC (h:Tm):ACall prog 39 [bN ⟨h,[]⟩] (fun r=>r=bN ⟨h,[]⟩):=by
 have hb:=K0 0 (by decide)
 have hi:ACall prog 151 [.list false false [],nt .i64 (0:Nat),nt .i64 (0:Nat),.clo 30 []] (fun r=>r= .tup []):=by
  refine bD func151 call151 rfl (by simp[ntmps151]) ?_;simp only[ntmps151,results151]
  repeat' (first|(refine aC fun _ _=>?_)|refine zHg ?_|simp(disch:=omega) [go_sem])
  refine bR [0,1,2,3] [] (fun u:Nat=> [(8,nt .i64 1)]) (fun u:Nat=> []) (fun u:Nat=>0) (fun u:Nat=>u=0) (0) (Le.sub4 rfl (by simp[go_sem])) ⟨?_⟩ ?_
  ·rfl
  intro u hu AA hAA;simp only[kL,Nat.reduceBEq,Nat.reduceEqDiff,if_true,if_false,List.cons_append,List.nil_append,List.append_nil]
  repeat' (first|(refine aC fun _ _=>?_)|refine zHg ?_|(refine aT [] ?_;simp[go_sem])|simp(disch:=omega) [go_sem])
 have hp:ACall prog 121 [.list false false [],nt .i64 (0:Nat),nt .i64 (0:Nat),nt .i64 (0:Nat),.clo 30 []] (fun r=>r= .tup []):=by
  refine bD func121 call121 rfl (by simp[ntmps121]) ?_;simp only[ntmps121,results121]
  repeat' (first|(refine aC fun _ _=>?_)|refine zHg ?_|simp(disch:=omega) [go_sem])
  refine bR [0,4] [] (fun u:Nat=> [(1,nt .i64 (0:Nat)),(2,nt .i64 (0:Nat)),(3,nt .i64 (0:Nat)),(10,bl true),(11,bl true)]) (fun u:Nat=> []) (fun u:Nat=>0) (fun u:Nat=>u=0) (0) (Le.sub4 rfl (by simp[go_sem])) ⟨?_⟩ ?_
  ·rfl
  intro u hu AA hAA;simp only[kL,Nat.reduceBEq,Nat.reduceEqDiff,if_true,if_false,List.cons_append,List.nil_append,List.append_nil]
  repeat' (first|(refine aC fun _ _=>?_)|refine zHg ?_|(refine aT [] ?_;simp[go_sem])|refine aP rfl (hi) (by simp) ?_|simp(disch:=omega) [go_sem])
 have hs:ACall prog 76 [.list false false [],.clo 30 []] (fun r=>r= .tup []):=by
  refine bD func76 call76 rfl (by simp[ntmps76]) ?_;simp only[ntmps76,results76]
  repeat' (first|(refine aC fun _ _=>?_)|refine zHg ?_|(refine aT [] ?_;simp[go_sem])|refine aP rfl (hb) (by simp) ?_|refine aP rfl (hp) (by simp) ?_|simp(disch:=omega) [go_sem])
 have hc:ACall prog 77 [.list false false [],.clo 78 []] (fun r=>r= .list false false []):=by
  refine bD func77 call77 rfl (by simp[ntmps77]) ?_;simp only[ntmps77,results77]
  repeat' (first|(refine aC fun _ _=>?_)|refine zHg ?_|(refine aT [] ?_;simp[go_sem])|simp(disch:=omega) [go_sem])
 refine bD func39 call39 rfl (by simp[ntmps39]) ?_;simp only[ntmps39,results39]
 repeat' (first|(refine aC fun _ _=>?_)|refine zHg ?_|(refine aT [] ?_;simp[go_sem])|refine aP rfl (hs) (by simp) ?_|refine aP rfl (hc) (by simp) ?_|simp(disch:=omega) [go_sem])
theorem wD (h:Tm) (m:List Lt) (hl:m.length≤12):MCall prog 39 [.agg [.sc (.string h.name),.list false false (h.args.map bO),.ref 1000 0 m.length]] [(1000,dK bW 3 0 m)]
 (fun r o'=>r= .agg [.sc (.string h.name),.list false false (h.args.map bO),.ref 1000 0 (eH bU m).length]∧o'= [(1000,lL (eH bU m) (m.length - (eH bU m).length))]):=by
 have hs:=cHg 30 bU oV.pre m hl (fun x _ y _=>Y7 x y)
 refine MCall.le (R:=fun r o'=>r= .agg [.sc (.string h.name),.list false false (h.args.map bO),.ref 1000 0 (eH bU m).length]∧o'=(2,⟨false,false,false,3,[.agg [.sc (.string h.name),.list false false (h.args.map bO),.ref 1000 0 (eH bU m).length]],0⟩):: [(1000,lL (eH bU m) (m.length - (eH bU m).length))]) ?_ (fun r o' ⟨e1,e2⟩=>⟨r,_,?_,e1,rfl⟩)
 ·refine cL func39 call39 rfl (by simp[ntmps39]) ?_;simp only[ntmps39,results39]
  repeat' (first|(refine aC fun _ _=>?_)|refine zHg ?_|simp(disch:=omega) [go_sem])
  refine qW [] [] 10000 _ _ (Fits.mk' (by simp[go_sem]) (by simp[go_sem])) (by simp[go_sem]) (by simp[go_sem]) (hs) (by simp[go_sem]) (by intros;simp[go_sem]) ?_;intro m2 hm2
  have hml:=hm2.1.length_eq
  have hdd:=cEs oV hm2.1 (List.pairwise_iff_getElem.2 fun i j hi hj hij=>hm2.2 i j _ _ (Nat.zero_le _) hij (by omega) (List.getElem?_eq_getElem hi) (List.getElem?_eq_getElem hj))
  have hc:=cHn m2 (by omega)
  rw[hdd,hml]at hc
  generalize eH bU m=D at*
  repeat' (first|(refine aC fun _ _=>?_)|refine zHg ?_|simp(disch:=omega) [go_sem])
  refine bC [] [] 10000 _ _ (Fits.mk' (by simp[go_sem]) (by simp[go_sem])) (by simp[go_sem]) (by simp[go_sem]) (hc) (by simp[go_sem]) (by simp[go_sem]) ?_
  repeat' (first|(refine aC fun _ _=>?_)|refine zHg ?_|simp(disch:=omega) [go_sem])
  refine cS ⟨11,[(2,.ptr 2 0 0)],(2,⟨false,false,false,3,[.agg [.sc (.string h.name),.list false false (h.args.map bO),.ref 1000 0 D.length]],0⟩):: [(1000,lL D (m.length - D.length))]⟩ [.agg [.sc (.string h.name),.list false false (h.args.map bO),.ref 1000 0 D.length]] (Le.renSub [] [] (by simp[go_sem]) (by simp[go_sem]) (Le.sub4 rfl (by simp[go_sem]))) (by simp[go_sem]) ⟨rfl,rfl⟩
 ·subst e1 e2
  refine Le.sub rfl (by simp[go_sem]) (by simp[go_sem]) (by simp[go_sem]) (by simp[go_sem])
end Go.Proofs.YtkbglbcphjmiiaaGreatDoor
