import Derived.Test.YtbgckcdddlmiaaaDoorS7
import Derived.Test.YtbgckcdddlmiaaaDoorS2
import Derived.Test.YtbgckcdddlmiaaaDoorS1
import Derived.Test.YtbgckcdddlmiaaaDoorA5
import Derived.ChangeMaps5
import Derived.Test.YtbgckcdddlmiaaaDoorA10
import Derived.Test.YtbgckcdddlmiaaaDoorRows
import Derived.SevenTiedAt
import Derived.LaidMore
import Derived.LaidLaws
import Derived.Handed
set_option linter.unusedSimpArgs false
set_option linter.unusedVariables false
open Go.Proofs.Tryd
namespace Go.Proofs.YtbgckcdddlmiaaaDoor
open Go.Ab
set_option maxRecDepth 100000
set_option maxHeartbeats 8000000
mutual
def pM (M:Nat):Tm→Prop
 | .mk n ts=>n.size≤M∧tJ M ts
def tJ (M:Nat):List Tm→Prop
 | []=>True
 |t::ts=>pM M t∧tJ M ts
end
theorem O1 {M:Nat}: ∀{l:List Tm},tJ M l↔ ∀t∈l,pM M t
 | []=>by simp[tJ]
 |t::r=>by rw[tJ,O1];simp
theorem aEd {M:Nat}: ∀t:Tm,pM M t→t.size≤20→dK 19 M t:=by
 refine fX fun t ih h hz=>?_
 obtain⟨n,ts⟩:=t
 simp only[cS]at ih
 rw[pM]at h
 rw[iK,cS]at hz
 have:=qL ts
 refine nW.2 ⟨h.1,by omega,rU.2 fun u hu=>ih u hu (O1.1 h.2 u hu) ?_⟩
 have:=zB hu
 omega
def O2 (M:Nat) (r:Rl):Prop:=pM M r.head∧ ∀b∈r.body,pM M b.atom
def nZ (r:Rl):Bool:=pE 20 r.head&&(decide (r.body.length≤8)&&r.body.all fun b=>pE 20 b.atom)
def pN (m:Int) (l:List Rl):Bool:=decide ((l.length:Int)≤m)&&(l.all nZ&&zS l [])
theorem bWa {M:Nat} {r:Rl} (hn:O2 M r) (h:nZ r=true):okR 19 M r:=by
 unfold nZ at h
 rw[Bool.and_eq_true,Bool.and_eq_true,decide_eq_true_eq,List.all_eq_true]at h
 obtain⟨h1,h2,h3⟩:=h
 have z1:r.head.size≤20:=by have:=zD (by decide) h1;omega
 refine⟨aEd _ hn.1 z1,z1,h2,fun b hb=>?_⟩
 have z2:b.atom.size≤20:=by have:=zD (by decide) (h3 b hb);omega
 exact⟨aEd _ (hn.2 b hb) z2,z2⟩
theorem bWb {M:Nat} (hM:5≤M) (hBG:BG 19 M≤2305843009213693952) (l:List Rl) (fu:Bool) (m:Int) (hm:0≤m∧m≤100) (hn: ∀r∈l,O2 M r) (hbl:l.length≤140737488355328) (hbb: ∀r∈l,r.body.length≤140737488355328):
 ACall prog 6 [.list false fu (l.map bZ),nt .i64 m] (fun r=>r=bl (pN m l)):=by
 by_cases hlm:m<(l.length:Int)
 ·have e:pN m l=false:=by unfold pN;rw[decide_eq_false (by omega),Bool.false_and]
  rw[e]
  refine bF func6 call6 rfl (by simp[ntmps6]) ?_;simp only[ntmps6,results6]
  repeat' (first|(refine aC fun _ _=>?_)|refine zHg ?_|(refine aU [] ?_;simp[go_sem,hlm])|simp(disch:=omega) [go_sem,hlm])
 ·generalize hV:pN m l=V
  unfold pN at hV
  rw[decide_eq_true (by omega),Bool.true_and]at hV
  refine bF func6 call6 rfl (by simp[ntmps6]) ?_;simp only[ntmps6,results6]
  repeat' (first|(refine aC fun _ _=>?_)|refine zHg ?_|simp(disch:=omega) [go_sem,hlm])
  refine cL [0,12] [] (fun i:Nat=> [(13,nt .i64 i)]) (fun i:Nat=> []) (fun i:Nat=>l.length - i) (fun i:Nat=>i≤l.length∧ ∀(k:Nat) (hk:k<l.length),k<i→nZ l[k]=true) (0) (Le.sub4 rfl (by simp[go_sem])) ⟨?_⟩ ?_
  ·exact⟨Nat.zero_le _,fun k _ hk=>absurd hk (Nat.not_lt_zero _)⟩
  intro i ⟨hi,hs⟩ AA hAA;simp only[kL,Nat.reduceBEq,Nat.reduceEqDiff,if_true,if_false,List.cons_append,List.nil_append,List.append_nil]
  by_cases hlt:i<l.length
  ·have hb8:=hbb _ (List.getElem_mem hlt)
   have hbad:nZ l[i]=false→V=false:=fun h=>by
    rw[←hV,Bool.and_eq_false_iff]
    refine .inl ?_
    rw[List.all_eq_false]
    exact⟨l[i],List.getElem_mem hlt,by rw[h];simp⟩
   have hgo:nZ l[i]=true→ ∀(k:Nat) (hk:k<l.length),k<i+1→nZ l[k]=true:=fun h k hk hki=>by
    rcases Nat.lt_or_eq_of_le (Nat.le_of_lt_succ hki)with h'|rfl
    ·exact hs k hk h'
    ·exact h
   have h1:=aCa l[i].head 20 (by decide)
   have hAB:=hAA
   clear hV hs
   generalize hre:l[i]=r at*
   unfold nZ at hbad hgo
   cases q1:pE 20 r.head
   ·rw[q1]at h1 hbad
    obtain rfl:=hbad rfl
    repeat' (first|(refine aC fun _ _=>?_)|refine zHg ?_|(refine aU [] ?_;simp[go_sem,hlt,hre])|refine aV rfl (h1) (by simp) ?_|simp(disch:=omega) [go_sem,hlt,hre])
   ·rw[q1]at h1 hbad hgo
    by_cases q2:r.body.length≤8
    ·rw[decide_eq_true q2,Bool.true_and,Bool.true_and]at hbad hgo
     have q2': ¬(8:Int)<r.body.length:=by omega
     repeat' (first|(refine aC fun _ _=>?_)|refine zHg ?_|refine aV rfl (h1) (by simp) ?_|simp(disch:=omega) [go_sem,hlt,hre,q2'])
     refine cL [0,5,12,13,37] [] (fun k:Nat=> [(38,nt .i64 k)]) (fun k:Nat=> []) (fun k:Nat=>r.body.length - k) (fun k:Nat=>k≤r.body.length∧ ∀(j:Nat) (hj:j<r.body.length),j<k→pE 20 r.body[j].atom=true) (0) (Le.sub4 rfl (by simp[go_sem])) ⟨?_⟩ ?_
     ·exact⟨Nat.zero_le _,fun k _ hk=>absurd hk (Nat.not_lt_zero _)⟩
     intro k ⟨hk,hs⟩ AA hAA;simp only[kL,Nat.reduceBEq,Nat.reduceEqDiff,if_true,if_false,List.cons_append,List.nil_append,List.append_nil]
     by_cases hkl:k<r.body.length
     ·have h2:=aCa r.body[k].atom 20 (by decide)
      cases q3:pE 20 r.body[k].atom
      ·rw[q3]at h2
       obtain rfl:=hbad (List.all_eq_false.2 ⟨_,List.getElem_mem hkl,by rw[q3];simp⟩)
       generalize hbe:r.body[k]=b at*
       repeat' (first|(refine aC fun _ _=>?_)|refine zHg ?_|(refine aU [] ?_;simp[go_sem,hlt,hre,hkl,hbe])|refine aV rfl (h2) (by simp) ?_|simp(disch:=omega) [go_sem,hlt,hre,hkl,hbe])
      ·rw[q3]at h2
       have hs': ∀(j:Nat) (hj:j<r.body.length),j<k+1→pE 20 r.body[j].atom=true:=fun j hj hjk=>by
        rcases Nat.lt_or_eq_of_le (Nat.le_of_lt_succ hjk)with h'|rfl
        ·exact hs j hj h'
        ·exact q3
       clear hs
       generalize hbe:r.body[k]=b at*
       repeat' (first|(refine aC fun _ _=>?_)|refine zHg ?_|refine aV rfl (h2) (by simp) ?_|(refine(hAA.next (k+1) (Le.sub4 rfl (by simp[go_sem])) (by(try dsimp only);omega) ?_))|simp(disch:=omega) [go_sem,hlt,hre,hkl,hbe])
       all_goals(first|omega|skip)
       exact⟨hkl,hs'⟩
     ·obtain rfl:k=r.body.length:=by omega
      have hall:=hgo (List.all_eq_true.2 fun b hb=>by
       obtain⟨j,hj,rfl⟩:=List.mem_iff_getElem.1 hb
       exact hs j hj hj)
      repeat' (first|(refine aC fun _ _=>?_)|refine zHg ?_|(refine(hAB.next (i+1) (Le.sub4 rfl (by simp[go_sem])) (by(try dsimp only);omega) ?_))|simp(disch:=omega) [go_sem,hlt,hre])
      all_goals(first|omega|skip)
      exact⟨hlt,hall⟩
    ·rw[decide_eq_false q2,Bool.false_and,Bool.true_and]at hbad
     obtain rfl:=hbad rfl
     have q2':(8:Int)<r.body.length:=by omega
     repeat' (first|(refine aC fun _ _=>?_)|refine zHg ?_|(refine aU [] ?_;simp[go_sem,hlt,hre,q2'])|refine aV rfl (h1) (by simp) ?_|simp(disch:=omega) [go_sem,hlt,hre,q2'])
  ·obtain rfl:i=l.length:=by omega
   have hall:l.all nZ=true:=List.all_eq_true.2 fun r hr=>by
    obtain⟨k,hk,rfl⟩:=List.mem_iff_getElem.1 hr
    exact hs k hk hk
   rw[hall,Bool.true_and]at hV
   have hL:=bV9 (q:=19) (by decide) hM hBG l [] fu false true (fun r hr=>bWa (hn r hr) (List.all_eq_true.1 hall r hr)) (by omega) (fun t ht=>by simp at ht) (by simp)
   rw[hV]at hL
   simp only[List.map_nil]at hL
   clear hV hs hall
   repeat' (first|(refine aC fun _ _=>?_)|refine zHg ?_|(refine aU [] ?_;simp[go_sem])|refine aV rfl (hL) (by simp) ?_|simp(disch:=omega) [go_sem])
open Go.Ab Go.ChangeShapes Go.WideShapes Go.ChangeAt Go.RowKit
theorem own:ownKnob prog.godebug=none:=by kernel_rfl
theorem bZ9:Kids prog (· <prog.types.size):=kids_rows (by kernel_rfl) (by kernel_rfl)
theorem gR: ∀t e,t<prog.types.size→prog.underlying t=some (.slice e)→0<prog.cellsOf e:=slices_full_of prog (by kernel_rfl)
def zX (r:Rl):Prop:=O2 reachBytes r∧r.body.length≤cK
section
variable {H : Type} {enc : TypeId × Value → H} {W : World}
theorem O3: ∀n:Nat,Came enc prog W n 35 eT (pM reachBytes)∧Came enc prog W n 33 (fun l:List Tm=> .list false false (l.map aL)) (tJ reachBytes)
 |0=>⟨Came.zero,Came.zero⟩
 |n+1=>by
  obtain⟨h1,h2⟩:=O3 n
  refine⟨(Came.struct underlying35 rfl (by kernel_rfl) (CameF.cons 1 rfl (by kernel_rfl) (Came.string underlying9) (CameF.cons 1 rfl (by kernel_rfl) h2 CameF.nil))).map (fun x=>Tm.mk x.1 x.2.1) (fun x h=>⟨⟨h.1,h.2.1⟩,rfl⟩),?_⟩
  refine(Came.slice underlying33 (by decide+kernel) (by decide+kernel) h1).map (fun x=>x) (fun x h=>⟨O1.2 h.1,?_⟩)
  congr 1
  exact List.map_congr_left fun t _=>tB t
theorem bWc: ∀n:Nat,Came enc prog W n 43 bT (fun b=>pM reachBytes b.atom)
 |0=>Came.zero
 |n+1=>(Came.struct underlying43 rfl (by kernel_rfl) (CameF.cons 1 rfl (by kernel_rfl) (Came.bool underlying4) (CameF.cons 2 rfl (by kernel_rfl) (O3 n).1 CameF.nil))).map (fun x=>(⟨x.1,x.2.1⟩:Lt)) (fun x h=>⟨h.2.1,rfl⟩)
theorem bWd: ∀n:Nat,Came enc prog W n 36 (fun l:List Lt=> .list false false (l.map bT)) (fun l=>(∀b∈l,pM reachBytes b.atom)∧l.length≤cK)
 |0=>Came.zero
 |n+1=>((Came.slice underlying36 (by decide+kernel) (by decide+kernel) (bWc n)).len).map (fun x=>x) (fun x h=>⟨⟨h.1.1,h.2⟩,rfl⟩)
theorem bWe: ∀n:Nat,Came enc prog W n 38 bZ zX
 |0=>Came.zero
 |n+1=>(Came.struct underlying38 rfl (by kernel_rfl) (CameF.cons 2 rfl (by kernel_rfl) (O3 n).1 (CameF.cons 1 rfl (by kernel_rfl) (bWd n) CameF.nil))).map (fun x=>(⟨x.1,x.2.1⟩:Rl)) (fun x h=>⟨⟨⟨h.1,h.2.1.1⟩,h.2.1.2⟩,rfl⟩)
theorem cAa: ∀n:Nat,Came enc prog W n 22 (fun l:List Rl=> .list false false (l.map bZ)) (fun l=>(∀r∈l,zX r)∧l.length≤cK)
 |0=>Came.zero
 |n+1=>((Came.slice underlying22 (by decide+kernel) (by decide+kernel) (bWe n)).len).map (fun x=>x) (fun x h=>⟨⟨h.1.1,h.2⟩,rfl⟩)
end
open Go.Ab Go.ChangeShapes Go.WideShapes Go.ChangeAt Go.RowKit
set_option maxRecDepth 100000
theorem cAc (os:Os) (args:Array Value):laidMetH prog Rows.mutateOnceRow.laid ((World.doorLaid prog 400 os).forCall (fun _ _=>0) ⟨#[],args,[]⟩).memory:=
 laidMetH_of_parts3 (fuel:=8) (laidMet_of_run' 8 (by kernel_rfl) (by kernel_rfl)) (by kernel_rfl) (by kernel_rfl)
end Go.Proofs.YtbgckcdddlmiaaaDoor
