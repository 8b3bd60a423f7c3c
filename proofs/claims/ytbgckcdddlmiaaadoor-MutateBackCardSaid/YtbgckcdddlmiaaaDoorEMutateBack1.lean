import Derived.Test.YtbgckcdddlmiaaaDoorS9
import Derived.Test.YtbgckcdddlmiaaaDoorS14
import Derived.Test.YtbgckcdddlmiaaaDoorS8
import Derived.Test.YtbgckcdddlmiaaaDoorS12
set_option linter.unusedSimpArgs false
set_option linter.unusedVariables false
open Go.Proofs.Tryd
namespace Go.Proofs.YtbgckcdddlmiaaaDoor
section
attribute [-instance] globM
open Go.Ab
set_option maxRecDepth 100000
theorem swT_twice {t:Tm} (h:2≤t.args.length):jT (jT t)=t:=by
 obtain⟨s,ts⟩:=t
 simp only[cS]at h
 match ts,h with
 |a::b::r,_=>simp[jT,cS,qK]
theorem swB_sw {t:Tm} (h:oB t=true):oB (jT t)=true:=by
 obtain⟨h1,h2⟩:=P0 h
 obtain⟨e1,e2,e3⟩:=bWs h1
 unfold oB
 rw[e1,e2,e3,decide_eq_true h1,Bool.true_and,Bool.not_eq_true',decide_eq_false_iff_not]
 exact fun e=>h2 ((vW _ _).1 e).symm
theorem atB_twice {f:Lt→Lt} {k:Nat} {l:List Lt} (h: ∀h:k<l.length,f (f l[k])=l[k]):fO f k (fO f k l)=l:=by
 apply List.ext_getElem?
 intro i
 unfold fO
 rw[List.getElem?_modify,List.getElem?_modify]
 cases hl:l[i]? with
 |none=>simp
 |some x=>
  obtain⟨h1,h2⟩:=List.getElem?_eq_some_iff.1 hl
  by_cases hk:k=i
  ·subst hk
   have:=h h1
   rw[h2]at this
   simp[this]
  ·simp[hk]
theorem chg_back {i:Nat} {r:Rl} {C D:List ByteArray} {m:Mu} (h:m∈gS i r C) (hk:m.kind=3∨m.kind=5):m∈gS i (eO r m C) D∧eO (eO r m C) m D=r:=by
 rcases A2.1 h with rfl|⟨k,h1,rfl|rfl⟩|⟨p,k,h1,h2,h3,rfl⟩|⟨k,h1,h2,rfl⟩
 ·rcases hk with hk|hk<;>exact absurd hk (by simp)
 ·rcases hk with hk|hk<;>exact absurd hk (by simp)
 ·have e: ∀(r:Rl) (C:List ByteArray),eO r ⟨3,i,k⟩ C=⟨r.head,fO oC k r.body⟩:=fun r C=>by
   unfold eO
   rw[if_neg (by simp),if_pos rfl];rfl
  rw[e,e]
  refine⟨A2.2 (.inr (.inl ⟨k,by rw[A4];exact h1,.inr rfl⟩)),?_⟩
  rw[atB_twice fun h=>by simp[oC]]
 ·rcases hk with hk|hk<;>exact absurd hk (by simp)
 ·rw[A3]at h1
  cases k with
  |zero=>
   have e: ∀(r:Rl) (C:List ByteArray),eO r ⟨5,i,(0:Nat)⟩ C=⟨jT r.head,r.body⟩:=fun r C=>by
    unfold eO
    rw[if_neg (by simp),if_neg (by simp),if_neg (by simp),if_pos rfl,if_pos (show((0:Nat):Int)=0 from rfl)]
   rw[e,e]
   refine⟨A2.2 (.inr (.inr (.inr ⟨0,by rw[A3];omega,swB_sw h2,rfl⟩))),?_⟩
   rw[bWt]at h2
   rw[swT_twice (P0 h2).1]
  |succ k=>
   have hk:k<r.body.length:=by omega
   have e: ∀(r:Rl) (C:List ByteArray),eO r ⟨5,i,(k+1:Nat)⟩ C=⟨r.head,fO pP k r.body⟩:=fun r C=>by
    unfold eO
    rw[if_neg (by simp),if_neg (by simp),if_neg (by simp),if_pos rfl,if_neg (by(try simp);omega)];rfl
   rw[e,e]
   rw[aEt hk]at h2
   refine⟨A2.2 (.inr (.inr (.inr ⟨k+1,by rw[A3,A4];omega,?_,rfl⟩))),?_⟩
   ·have hk2:k<(fO pP k r.body).length:=by rw[A4];exact hk
    rw[aEt (r:=⟨r.head,fO pP k r.body⟩) hk2]
    have:=aEu (f:=pP) hk
    rw[List.getElem?_eq_getElem hk2]at this
    dsimp only
    rw[Option.some.inj this]
    exact swB_sw h2
   ·rw[atB_twice fun h=>by
     unfold pP
     dsimp only
     rw[swT_twice (P0 h2).1]]
theorem done_back {l:List Rl} {m:Mu} (h:m∈eR l) (hk:m.kind=3∨m.kind=5):m∈eR (jD l m)∧jD (jD l m) m=l:=by
 obtain⟨i,hi,hm⟩:=tL.1 h
 have hr:=wM hm
 have hk1:m.kind≠1:=by rcases hk with hk|hk<;>rw[hk]<;>simp
 have e0:=aEr hr hi hk1
 obtain⟨g1,g2⟩:=chg_back (D:=eD (jD l m)) hm hk
 have hl:(jD l m).length=l.length:=by rw[e0,List.length_set]
 have e:(jD l m).getD i yR=eO (l.getD i yR) m (eD l):=by
  rw[e0,List.getD_eq_getElem?_getD,List.getElem?_set_self hi];rfl
 refine⟨tL.2 ⟨i,by omega,by rw[e];exact g1⟩,?_⟩
 rw[aEr hr (by omega) hk1,e,g2,e0,List.set_set,jU hi,List.set_getElem_self]
end
open Go.Ab Go.RowKit
set_option maxRecDepth 100000
set_option maxHeartbeats 16000000
theorem swT_size (t:Tm):cE (jT t).args≤cE t.args:=by
 obtain⟨s,ts⟩:=t
 match ts with
 | []=>simp[jT,cS]
 | [a]=>have:=rL a;simp[jT,cS,cE,zT,Tm.size];exact this
 |a::b::r=>simp[jT,cS,cE];omega
theorem atB_mem {f:Lt→Lt} {k:Nat} {l:List Lt} {b:Lt} (h:b∈fO f k l): ∃b0∈l,b=b0∨b=f b0:=by
 obtain⟨j,hj,rfl⟩:=List.mem_iff_getElem.1 h
 have hl:j<l.length:=by rw[A4]at hj;exact hj
 refine⟨l[j],List.getElem_mem hl,?_⟩
 have e:(fO f k l)[j]?=some (fO f k l)[j]:=List.getElem?_eq_getElem hj
 have e2:(fO f k l)[j]?=(if k=j then f else id)<$>l[j]?:=by
  unfold fO
  rw[List.getElem?_modify]
  split<;>simp
 rw[e2,List.getElem?_eq_getElem hl]at e
 have e:=Option.some.inj e
 rw[←e]
 split
 ·exact .inr rfl
 ·exact .inl rfl
theorem chgR_sz {i:Nat} {r:Rl} {m:Mu} {C:List ByteArray} (hz:SzM r) (h:m∈gS i r C) (hk:m.kind=3∨m.kind=5):SzM (eO r m C):=by
 rcases A2.1 h with rfl|⟨k,h1,rfl|rfl⟩|⟨p,k,h1,h2,h3,rfl⟩|⟨k,h1,h2,rfl⟩
 ·rcases hk with hk|hk<;>exact absurd hk (by simp)
 ·rcases hk with hk|hk<;>exact absurd hk (by simp)
 ·have e:eO r ⟨3,i,k⟩ C=⟨r.head,fO oC k r.body⟩:=by unfold eO;rw[if_neg (by simp),if_pos rfl];rfl
  rw[e]
  refine⟨hz.head,by rw[A4];exact hz.body,fun b hb=>?_⟩
  obtain⟨b0,hb0,rfl|rfl⟩:=atB_mem hb
  ·exact hz.atom _ hb0
  ·have:=hz.atom _ hb0
   exact this
 ·rcases hk with hk|hk<;>exact absurd hk (by simp)
 ·cases k with
  |zero=>
   have e:eO r ⟨5,i,(0:Nat)⟩ C=⟨jT r.head,r.body⟩:=by
    unfold eO
    rw[if_neg (by simp),if_neg (by simp),if_neg (by simp),if_pos rfl,if_pos (show((0:Nat):Int)=0 from rfl)]
   rw[e]
   exact⟨Nat.le_trans (swT_size _) hz.head,hz.body,hz.atom⟩
  |succ k=>
   have e:eO r ⟨5,i,(k+1:Nat)⟩ C=⟨r.head,fO pP k r.body⟩:=by
    unfold eO
    rw[if_neg (by simp),if_neg (by simp),if_neg (by simp),if_pos rfl,if_neg (by(try simp);omega)];rfl
   rw[e]
   refine⟨hz.head,by rw[A4];exact hz.body,fun b hb=>?_⟩
   obtain⟨b0,hb0,rfl|rfl⟩:=atB_mem hb
   ·exact hz.atom _ hb0
   ·exact Nat.le_trans (swT_size _) (hz.atom _ hb0)
theorem MutateBack_ok (l:List Rl) (m:Mu) (h:(∀r∈l,zX r)∧l.length≤cK) (_:True):ACall prog 4 [.list false false (l.map bZ),dM m] (fun r=>r=bl true):=by
 have haw:=bZ2
 have hlenT:True:=trivial
 have hs:=bZ4 l 40 (by decide) h
 cases hq:pN 40 l
 ·rw[hq]at hs
  refine bF func4 call4 rfl (by simp[ntmps4]) ?_;simp only[ntmps4,results4]
  repeat' (first|(refine aC fun _ _=>?_)|refine zHg ?_|(refine aU [] ?_;simp[go_sem])|refine aV rfl (hs) (by simp) ?_|refine aV rfl (haw) (by simp) ?_|simp(disch:=omega) [go_sem])
 ·rw[hq]at hs
  obtain⟨hz,hl⟩:=bZ3 hq
  by_cases hk:m.kind=3∨m.kind=5
  ·have hap0:=(Q4 l false false m hz (by omega)).up (P:=prog)
   by_cases hm:m∈eR l
   ·have hap:=bZ5 hap0 hm
    obtain⟨i,hi,hmi⟩:=tL.1 hm
    have hr:=wM hmi
    have hk1:m.kind≠1:=by rcases hk with hk|hk<;>rw[hk]<;>simp
    obtain⟨hb1,hb2⟩:=done_back hm hk
    have hds:=aEr hr hi hk1
    have hzD: ∀r∈jD l m,SzM r:=by
     intro r hr'
     rw[hds]at hr'
     rcases List.mem_or_eq_of_mem_set hr' with h1|rfl
     ·exact hz r h1
     ·rw[jU hi]at hmi ⊢
      exact chgR_sz (hz _ (List.getElem_mem hi)) hmi hk
    have hlD:(jD l m).length≤99:=by rw[hds,List.length_set];omega
    have hap2:=fun a b=>bZ5 (Q4 (jD l m) a b m hzD hlD).up hb1
    rw[hb2]at hap2
    have hpr:=fun a b c d=>(aDl l l a b c d (fun r hr=>by have:=(hz r hr).body;omega)).up
    rw[decide_eq_true rfl]at hpr
    clear hds hzD hlD hb1 hb2 hap0
    generalize jD l m=D at*
    rcases hk with hk|hk
    ·refine bF func4 call4 rfl (by simp[ntmps4]) ?_;simp only[ntmps4,results4]
     repeat' (first|(refine aC fun _ _=>?_)|refine zHg ?_|(refine aU [] ?_;simp[go_sem,hlenT,hk])|refine aV rfl (hs) (by simp) ?_|refine aV rfl (hap) (by simp) ?_|refine aV rfl (haw) (by simp) ?_|(refine aV ?hl (hap2 true false) (by simp) ?_;(case hl=>(simp[go_sem,hlenT,hk];done)))|(refine aV ?hl (hpr true false false false) (by simp) ?_;(case hl=>(simp[go_sem,hlenT,hk];done)))|simp(disch:=omega) [go_sem,hlenT,hk])
    ·refine bF func4 call4 rfl (by simp[ntmps4]) ?_;simp only[ntmps4,results4]
     repeat' (first|(refine aC fun _ _=>?_)|refine zHg ?_|(refine aU [] ?_;simp[go_sem,hlenT,hk])|refine aV rfl (hs) (by simp) ?_|refine aV rfl (hap) (by simp) ?_|refine aV rfl (haw) (by simp) ?_|(refine aV ?hl (hap2 true false) (by simp) ?_;(case hl=>(simp[go_sem,hlenT,hk];done)))|(refine aV ?hl (hpr true false false false) (by simp) ?_;(case hl=>(simp[go_sem,hlenT,hk];done)))|simp(disch:=omega) [go_sem,hlenT,hk])
   ·have hE: ¬jE l m=0:=fun e=>hm (aF1.1 e)
    unfold oG at hap0
    rw[if_neg hE]at hap0
    generalize jE l m=e at*
    rcases hk with hk|hk
    ·refine bF func4 call4 rfl (by simp[ntmps4]) ?_;simp only[ntmps4,results4]
     repeat' (first|(refine aC fun _ _=>?_)|refine zHg ?_|(refine aU [] ?_;simp[go_sem,hk,hE])|refine aV rfl (hs) (by simp) ?_|refine aV rfl (hap0) (by simp) ?_|refine aV rfl (haw) (by simp) ?_|simp(disch:=omega) [go_sem,hk,hE])
    ·refine bF func4 call4 rfl (by simp[ntmps4]) ?_;simp only[ntmps4,results4]
     repeat' (first|(refine aC fun _ _=>?_)|refine zHg ?_|(refine aU [] ?_;simp[go_sem,hk,hE])|refine aV rfl (hs) (by simp) ?_|refine aV rfl (hap0) (by simp) ?_|refine aV rfl (haw) (by simp) ?_|simp(disch:=omega) [go_sem,hk,hE])
  ·have hk3: ¬m.kind=3:=fun e=>hk (.inl e)
   have hk5: ¬m.kind=5:=fun e=>hk (.inr e)
   refine bF func4 call4 rfl (by simp[ntmps4]) ?_;simp only[ntmps4,results4]
   repeat' (first|(refine aC fun _ _=>?_)|refine zHg ?_|(refine aU [] ?_;simp[go_sem,hk3,hk5])|refine aV rfl (hs) (by simp) ?_|refine aV rfl (haw) (by simp) ?_|simp(disch:=omega) [go_sem,hk3,hk5])
section
attribute [-instance] globM
open Go.Ab Go.RowKit
section
variable {H : Type} {enc : TypeId × Value → H} {W : World}
theorem came_mu: ∀n:Nat,Came enc prog W n 28 dM (fun _=>True)
 |0=>Came.zero
 |n+1=>(Came.struct underlying28 rfl (by kernel_rfl) (CameF.cons 1 rfl (by kernel_rfl) (Came.int underlying3) (CameF.cons 1 rfl (by kernel_rfl) (Came.int underlying3) (CameF.cons 1 rfl (by kernel_rfl) (Came.int underlying3) CameF.nil)))).map (fun x=>(⟨x.1,x.2.1,x.2.2.1⟩:Mu)) (fun x h=>⟨trivial,rfl⟩)
end
end
end Go.Proofs.YtbgckcdddlmiaaaDoor
