import Derived.Test.YtbgckcdddlmiaaaDoorS3
import Derived.Test.YtbgckcdddlmiaaaDoorS9
import Derived.Test.YtbgckcdddlmiaaaDoorS14
import Derived.Test.YtbgckcdddlmiaaaDoorS8
set_option linter.unusedSimpArgs false
set_option linter.unusedVariables false
open Go.Proofs.Tryd
namespace Go.Proofs.YtbgckcdddlmiaaaDoor
open Go.Ab
set_option maxRecDepth 100000
theorem nd_inP {i p:Nat} {C:List ByteArray} {s:ByteArray}: ∀n:Nat,(kR i p C s n).Nodup
 |0=>by simp[kR]
 |n+1=>by
  rw[kR,List.nodup_append]
  refine⟨nd_inP n,by split<;>simp,fun a ha b hb=>?_⟩
  rintro rfl
  obtain⟨k,h1,_,h3⟩:=aEl.1 ha
  split at hb
  ·simp at hb
  ·have:=(List.mem_singleton.1 hb).symm.trans h3
   have:=(Mu.mk.inj this).2.2
   omega
theorem nd_plP {i:Nat} {C S:List ByteArray}: ∀n:Nat,(kS i C S n).Nodup
 |0=>by simp[kS]
 |n+1=>by
  rw[kS,List.nodup_append]
  refine⟨nd_plP n,nd_inP _,fun a ha b hb=>?_⟩
  rintro rfl
  obtain⟨p,k,h1,h2,_,h3⟩:=aEm.1 ha
  obtain⟨k',h4,_,h5⟩:=aEl.1 hb
  have:=(Mu.mk.inj (h3.symm.trans h5)).2.2
  have e:p*C.length+k=n*C.length+k':=by exact_mod_cast this
  have:=Nat.mul_le_mul_right C.length (show p+1≤n by omega)
  rw[Nat.add_mul,Nat.one_mul]at this
  omega
theorem nd_bdP {i:Nat}: ∀n:Nat,(oA i n).Nodup
 |0=>by simp[oA]
 |n+1=>by
  rw[oA,List.nodup_append]
  refine⟨nd_bdP n,by simp,fun a ha b hb=>?_⟩
  rintro rfl
  obtain⟨k,h1,h2⟩:=aEn.1 ha
  simp only[List.mem_cons,List.not_mem_nil,or_false]at hb
  rcases h2 with rfl|rfl<;>rcases hb with h|h<;>(have:=Mu.mk.inj h;omega)
theorem nd_swP {i:Nat} {A:List Tm}: ∀n:Nat,(kT i A n).Nodup
 |0=>by simp[kT]
 |n+1=>by
  rw[kT,List.nodup_append]
  refine⟨nd_swP n,by split<;>simp,fun a ha b hb=>?_⟩
  rintro rfl
  obtain⟨k,h1,_,h3⟩:=aEo.1 ha
  split at hb
  ·have:=(Mu.mk.inj ((List.mem_singleton.1 hb).symm.trans h3)).2.2
   omega
  ·simp at hb
theorem nd_ofM {i:Nat} {r:Rl} {C:List ByteArray}:(gS i r C).Nodup:=by
 unfold gS
 rw[List.nodup_append,List.nodup_append,List.nodup_append]
 refine⟨⟨⟨by simp,nd_bdP _,fun a ha b hb=>?_⟩,nd_plP _,fun a ha b hb=>?_⟩,nd_swP _,fun a ha b hb=>?_⟩
 ·rintro rfl
  obtain rfl:=List.mem_singleton.1 ha
  obtain⟨k,_,h|h⟩:=aEn.1 hb<;>(have:=Mu.mk.inj h;omega)
 ·rintro rfl
  obtain⟨p,k,_,_,_,rfl⟩:=aEm.1 hb
  rcases List.mem_append.1 ha with ha|ha
  ·have:=Mu.mk.inj (List.mem_singleton.1 ha);omega
  ·obtain⟨k,_,h|h⟩:=aEn.1 ha<;>(have:=Mu.mk.inj h;omega)
 ·rintro rfl
  obtain⟨k,_,_,rfl⟩:=aEo.1 hb
  rcases List.mem_append.1 ha with ha|ha
  ·rcases List.mem_append.1 ha with ha|ha
   ·have:=Mu.mk.inj (List.mem_singleton.1 ha);omega
   ·obtain⟨k,_,h|h⟩:=aEn.1 ha<;>(have:=Mu.mk.inj h;omega)
  ·obtain⟨p,k,_,_,_,h⟩:=aEm.1 ha
   have:=Mu.mk.inj h;omega
theorem nd_alP {C:List ByteArray} {l:List Rl}: ∀n:Nat,(lQ C l n).Nodup
 |0=>by simp[lQ]
 |n+1=>by
  rw[lQ,List.nodup_append]
  refine⟨nd_alP n,nd_ofM,fun a ha b hb=>?_⟩
  rintro rfl
  obtain⟨k,h1,h2⟩:=aEp.1 ha
  have:=(wM h2).symm.trans (wM hb)
  omega
theorem nd_allM (l:List Rl):(eR l).Nodup:=nd_alP _
open Go.RowKit
set_option maxHeartbeats 16000000
theorem MutateOnce_ok (l:List Rl) (h:(∀r∈l,zX r)∧l.length≤cK):ACall prog 5 [.list false false (l.map bZ)] (fun r=>r=bl true):=by
 have haw:=bZ2
 have hs:=bZ4 l 6 (by decide) h
 cases hq:pN 6 l
 ·rw[hq]at hs
  refine bF func5 call5 rfl (by simp[ntmps5]) ?_;simp only[ntmps5,results5]
  repeat' (first|(refine aC fun _ _=>?_)|refine zHg ?_|(refine aU [] ?_;simp[go_sem])|refine aV rfl (hs) (by simp) ?_|refine aV rfl (haw) (by simp) ?_|simp(disch:=omega) [go_sem])
 ·rw[hq]at hs
  obtain⟨hz,hl⟩:=bZ3 hq
  have hal:=(aFz l false false hz (by omega)).up.frz
  have hap: ∀m:Mu,ACall prog 9 [.list false false (l.map bZ),dM m] (fun v=>v= .tup [oG l m,nt .i64 (jE l m)]):=fun m=>(Q4 l false false m hz (by omega)).up
  have hnd:=nd_allM l
  have hap: ∀m:Mu,m∈eR l→ACall prog 9 [.list false false (l.map bZ),dM m] (fun v=>v= .tup [.own 3 ((jD l m).map bZ),nt .i64 0]):=fun m hm=>by
   have:=hap m
   unfold oG at this
   rw[aF1.2 hm,if_pos rfl]at this
   exact this
  have hll:(eR l).length≤1000000000:=by
   have:=aFy (C:=eD l) hz (aFv hz (by omega)) l.length (Nat.le_refl _)
   have e:(eR l).length=(lQ (eD l) l l.length).length:=rfl
   omega
  generalize hA:eR l=A at*
  refine bF func5 call5 rfl (by simp[ntmps5]) ?_;simp only[ntmps5,results5]
  repeat' (first|(refine aC fun _ _=>?_)|refine zHg ?_|refine aV rfl (hs) (by simp) ?_|refine aV rfl (hal) (by simp) ?_|simp(disch:=omega) [go_sem])
  refine cL [0,3,15] [] (fun i:Nat=> [(16,nt .i64 i)]) (fun i:Nat=> []) (fun i:Nat=>A.length - i) (fun i:Nat=>i≤A.length) (0) (Le.sub4 rfl (by simp[go_sem])) ⟨?_⟩ ?_
  ·exact Nat.zero_le _
  intro i hi AA hAA;simp only[kL,Nat.reduceBEq,Nat.reduceEqDiff,if_true,if_false,List.cons_append,List.nil_append,List.append_nil]
  by_cases hlt:i<A.length
  ·have hAB:=hAA
   repeat' (first|(refine aC fun _ _=>?_)|refine zHg ?_|simp(disch:=omega) [go_sem,hlt])
   refine cL [0,3,4,15,16,19] [] (fun k:Nat=> [(20,nt .i64 k)]) (fun k:Nat=> []) (fun k:Nat=>i - k) (fun k:Nat=>k≤i) (0) (Le.sub4 rfl (by simp[go_sem])) ⟨?_⟩ ?_
   ·exact Nat.zero_le _
   intro k hk AA hAA;simp only[kL,Nat.reduceBEq,Nat.reduceEqDiff,if_true,if_false,List.cons_append,List.nil_append,List.append_nil]
   by_cases hkl:k<i
   ·have hkA:k<A.length:=by omega
    have hne: ¬A[k]=A[i]:=fun e=>by
     have:=(List.pairwise_iff_getElem.1 hnd) k i hkA hlt hkl
     exact this e
    rw[bZu]at hne
    generalize hy:A[i]=y at*
    generalize hx:A[k]=x at*
    repeat' (first|(refine aC fun _ _=>?_)|refine zHg ?_|(refine(hAA.next (k+1) (Le.sub4 rfl (by simp[go_sem])) (by(try dsimp only);omega) ?_))|simp(disch:=omega) [go_sem,hlt,hkl,hkA,hx,hy,hne,dM]|refine zDr 9 aT ?_|fail)
    all_goals(first|omega|skip)
    all_goals exact⟨hkl⟩
   ·obtain rfl:k=i:=by omega
    have ha:=hap A[k] (List.getElem_mem hlt)
    generalize hy:A[k]=y at*
    repeat' (first|(refine aC fun _ _=>?_)|refine zHg ?_|refine aV rfl (ha) (by simp) ?_|(refine(hAB.next (k+1) (Le.sub4 rfl (by simp[go_sem])) (by(try dsimp only);omega) ?_))|simp(disch:=omega) [go_sem,hlt,hy])
    all_goals(first|omega|skip)
    all_goals exact⟨hlt⟩
  ·obtain rfl:i=A.length:=by omega
   repeat' (first|(refine aC fun _ _=>?_)|refine zHg ?_|(refine aU [] ?_;simp[go_sem])|refine aV rfl (haw) (by simp) ?_|simp(disch:=omega) [go_sem])
end Go.Proofs.YtbgckcdddlmiaaaDoor
