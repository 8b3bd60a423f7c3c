import Derived.Test.YtkbglbcphjmiiaaGreatDoorS5
import Derived.Test.YtkbglbcphjmiiaaGreatDoorENormalRules1
import Derived.Test.YtkbglbcphjmiiaaGreatDoorA12
import Derived.Test.YtkbglbcphjmiiaaGreatDoorS10
import Derived.Test.YtkbglbcphjmiiaaGreatDoorENormalRules2
import Derived.Test.YtkbglbcphjmiiaaGreatDoorS12
import Derived.Test.YtkbglbcphjmiiaaGreatDoorS15
set_option linter.unusedSimpArgs false
set_option linter.unusedVariables false
namespace Go.Proofs.YtkbglbcphjmiiaaGreatDoor
open Go.Ab
set_option maxRecDepth 100000
set_option maxHeartbeats 16000000
def tdN (bs:List Lt) (i:Nat):List Lt:=srtG ltC (bs.take i)
theorem tdN_next {bs:List Lt} {i:Nat} (h:i<bs.length):tdN bs (i+1)=insG ltC bs[i] (tdN bs i):=srtG_next h
theorem tdN_all (bs:List Lt):tdN bs bs.length=srtG ltC bs:=by unfold tdN;rw[List.take_length]
theorem tdN_len {bs:List Lt} {i:Nat}:(tdN bs i).length≤i:=by
 have:=srtG_len (c:=ltC) (bs.take i)
 rw[List.length_take]at this
 unfold tdN;omega
theorem sg_take {X:List Lt} {k:Nat} (h:k≤X.length):seg (X.map eLt) 0 k=(X.take k).map eLt:=by
 unfold seg
 split
 ·rename_i h2
  rw[List.take_of_length_le (by have:=h2.2;rw[List.length_map]at this;omega)]
 ·rw[List.drop_zero,List.map_take]
theorem sg_drop {X:List Lt} {k:Nat} (h:k≤X.length):seg (X.map eLt) k (X.length - k)=(X.drop k).map eLt:=by
 unfold seg
 split
 ·rename_i h2
  rw[h2.1,List.drop_zero]
 ·rw[List.take_of_length_le (by rw[List.length_drop,List.length_map];exact Nat.le_refl _),List.map_drop]
theorem tidy_ok (r:Rl) (hl:r.body.length≤12):ACall Tryz.prog 45 [eRl r] (fun v=>v=eRl (tidyR r)):=by
 obtain⟨h,bs⟩:=r
 dsimp only at hl
 show ACall _ _ _ (fun v=>v=eRl ⟨h,srtG ltC bs⟩)
 refine ACall.loose (x:= .agg [.sc (.string h.name),.list false false (h.args.map eTm),.list false (decide ((srtG ltC bs).length=0)) ((srtG ltC bs).map eLt)]) rfl ?_
 generalize hS:srtG ltC bs=S
 refine acall_of_awp Tryz.func45 Tryz.call45 rfl (by simp[Tryz.ntmps45]) ?_;simp only[Tryz.ntmps45,Tryz.results45]
 repeat' (first|(refine awK fun _ _=>?_)|refine zHg ?_|(fail_if_success with_reducible refine Owe.mk ?_);(simp(disch:=omega) [go_sem]))
 refine awp_for [1,2,3] [3,900,5] (fun y:Nat×List Lt=> [(4,nt .i64 y.1)]) (fun y:Nat×List Lt=>(3,⟨false,false,false,3,[.agg [.sc (.string h.name),.list false false (h.args.map eTm),if y.2.length=0 then .list false true []else .ref 900 0 y.2.length]],0⟩)::(if y.2.length=0 then[]else[(900,⟨true,false,false,3,y.2.map eLt,0⟩)])) (fun y:Nat×List Lt=>bs.length - y.1) (fun y:Nat×List Lt=>y.1≤bs.length∧y.2=tdN bs y.1) ((0,[])) (Le.sub4 rfl (by simp[go_sem])) ⟨?_⟩ ?_
 ·exact⟨Nat.zero_le _,rfl⟩
 intro⟨i,X⟩ ⟨hi,hX⟩ AA hAA;simp only[kL,Nat.reduceBEq,Nat.reduceEqDiff,if_true,if_false,List.cons_append,List.nil_append,List.append_nil]
 dsimp only at*
 by_cases hlt:i<bs.length
 ·have hXl:=tdN_len (bs:=bs) (i:=i)
  have hasc:AscG ltC X:=by rw[hX];exact srtG_asc tot_L _
  have hnx:=tdN_next hlt
  rw[←hX]at hXl hnx
  obtain⟨c,hcl,hbelow,habove,hcase⟩:=insG_cut tot_L (t:=bs[i]) hasc
  have hAB:=hAA
  clear hS hX hasc
  by_cases h0:X.length=0
  ·obtain rfl:=List.eq_nil_of_length_eq_zero h0
   have hnx2:tdN bs (i+1)= [bs[i]]:=hnx
   repeat' (first|(refine awK fun _ _=>?_)|refine zHg ?_|(fail_if_success with_reducible refine Owe.mk ?_);(simp(disch:=omega) [go_sem,hlt]))
   refine awp_for [1,2,3,4,5] [5] (fun k:Nat=> [(6,nt .i64 (0:Nat))]) (fun k:Nat=> [(5,⟨false,false,false,3,[eLt bs[i]],0⟩)]) (fun k:Nat=>0) (fun k:Nat=>k=0) (0) (Le.sub4 rfl (by simp[go_sem])) ⟨?_⟩ ?_
   ·rfl
   intro k hk AA hAA;simp only[kL,Nat.reduceBEq,Nat.reduceEqDiff,if_true,if_false,List.cons_append,List.nil_append,List.append_nil]
   repeat' (first|(refine awK fun _ _=>?_)|refine zHg ?_|refine(hAB.next ((i+1,[bs[i]])) (Le.renSub [(60,900),(900,60)] [(900,60),(60,900)] (by simp[go_sem]) (by simp[go_sem]) (Le.sub4 rfl (by simp[go_sem]))) (by(try dsimp only);omega) ?_)|(fail_if_success with_reducible refine Owe.mk ?_);(simp(disch:=omega) [go_sem,hlt])|refine zDr 15 mix ?_|fail)
   all_goals(first|omega|skip)
   all_goals exact⟨⟨hlt,hnx2.symm⟩⟩
  ·repeat' (first|(refine awK fun _ _=>?_)|refine zHg ?_|(fail_if_success with_reducible refine Owe.mk ?_);(simp(disch:=omega) [go_sem,hlt,h0]))
   refine awp_for [1,2,3,4,5] [5] (fun k:Nat=> [(6,nt .i64 k)]) (fun k:Nat=> [(5,⟨false,false,false,3,[eLt bs[i]],0⟩)]) (fun k:Nat=>c - k) (fun k:Nat=>k≤c) (0) (Le.sub4 rfl (by simp[go_sem])) ⟨?_⟩ ?_
   ·exact Nat.zero_le _
   intro k hk AA hAA;simp only[kL,Nat.reduceBEq,Nat.reduceEqDiff,if_true,if_false,List.cons_append,List.nil_append,List.append_nil]
   by_cases hkc:k<c
   ·have hkl:k<X.length:=by omega
    have hu:=refLit_ok X[k] bs[i]
    have hq:=hbelow k hkl hkc
    generalize ltC X[k] bs[i]=q at*
    repeat' (first|(refine awK fun _ _=>?_)|refine zHg ?_|refine dstepK_is rfl (hu) rfl (by simp) ?_|refine(hAA.next (k+1) (Le.sub4 rfl (by simp[go_sem])) (by(try dsimp only);omega) ?_)|(fail_if_success with_reducible refine Owe.mk ?_);(simp(disch:=omega) [go_sem,hlt,hkl,hq])|refine zDr 15 mix ?_|fail)
    all_goals(first|omega|skip)
    all_goals exact⟨by omega⟩
   ·obtain rfl:k=c:=by omega
    by_cases hkl:k<X.length
    ·have hu:=refLit_ok X[k] bs[i]
     have hq:=habove hkl
     have hkn: ¬k=X.length:=by omega
     by_cases hz:ltC X[k] bs[i]=0
     ·have e:insG ltC bs[i] X=X:=by
       rcases hcase with⟨_,e⟩|⟨e,_⟩
       ·exact e
       ·exact absurd hz (e hkl)
      rw[e]at hnx
      rw[hz]at hu
      clear hcase habove hbelow
      repeat' (first|(refine awK fun _ _=>?_)|refine zHg ?_|refine dstepK_is rfl (hu) rfl (by simp) ?_|refine(hAB.next ((i+1,X)) (Le.sub4 rfl (by simp[go_sem,h0])) (by(try dsimp only);omega) ?_)|(fail_if_success with_reducible refine Owe.mk ?_);(simp(disch:=omega) [go_sem,hlt,hkl,hkn,h0])|refine zDr 15 mix ?_|fail)
      all_goals(first|omega|skip)
      all_goals exact⟨⟨hlt,hnx.symm⟩⟩
     ·have e:insG ltC bs[i] X=X.take k++bs[i]::X.drop k:=by
       rcases hcase with⟨⟨_,e⟩,_⟩|⟨_,e⟩
       ·exact absurd e hz
       ·exact e
      rw[e]at hnx
      have hs1:=sg_take hcl
      have hs2:=sg_drop hcl
      have hT:((X.take k).map eLt).length=k:=by rw[List.length_map,List.length_take];omega
      have hD:((X.drop k).map eLt).length=X.length - k:=by simp
      have hTc: ∀y∈(X.take k).map eLt,y.cells.length=3:=fun y hy=>by obtain⟨x,_,rfl⟩:=List.mem_map.1 hy;rfl
      have hDc: ∀y∈(X.drop k).map eLt,y.cells.length=3:=fun y hy=>by obtain⟨x,_,rfl⟩:=List.mem_map.1 hy;rfl
      have hX2:(X.take k++bs[i]::X.drop k).map eLt=(X.take k).map eLt++eLt bs[i]::(X.drop k).map eLt:=by simp
      have hXn:(X.take k++bs[i]::X.drop k).length=k+1+(X.length - k):=by simp;omega
      generalize X.take k++bs[i]::X.drop k=Y at*
      generalize(X.take k).map eLt=T at*
      generalize(X.drop k).map eLt=D at*
      have hs0:seg ([]:List AV) 0 0= []:=rfl
      have hs3:seg T 0 k=T:=by rw[←hT];exact seg_whole
      have hs4:seg (T++ [eLt bs[i]]) 0 (k+1)=T++ [eLt bs[i]]:=by
       have:=seg_whole (xs:=T++ [eLt bs[i]])
       simpa[hT]using this
      generalize ltC X[k] bs[i]=q at*
      clear hcase habove hbelow
      repeat' (first|(refine awK fun _ _=>?_)|refine zHg ?_|refine zqd ?_ ?_<;>(intro h;first|(exfalso;omega)|(simp only[h,zT]))|refine dstepK_is rfl (hu) rfl (by simp) ?_|refine(hAB.next ((i+1,Y)) (Le.renSub [(60,900),(900,60)] [(900,60),(60,900)] (by simp[go_sem,hX2,hXn]) (by simp[go_sem,hX2,hXn]) (Le.sub4 rfl (by simp[go_sem,hX2,hXn]))) (by(try dsimp only);omega) ?_)|(fail_if_success with_reducible refine Owe.mk ?_);(simp(disch:=omega) [go_sem,hlt,hkl,hkn,hz,h0,hs0,hs1,hs2,hs3,hs4,hT,hD,hTc,hDc])|refine zAo ?_|refine zAa ?_|refine zDr 15 mix ?_|fail)
      all_goals(first|omega|skip)
      all_goals exact⟨⟨hlt,hnx.symm⟩⟩
    ·obtain rfl:k=X.length:=by omega
     have e:insG ltC bs[i] X=X++ [bs[i]]:=by
      rcases hcase with⟨⟨hh,_⟩,_⟩|⟨_,e⟩
      ·omega
      ·rw[e,List.take_length,List.drop_length]
     rw[e]at hnx
     have hs1:seg (X.map eLt) 0 X.length=X.map eLt:=by rw[←List.length_map (f:=eLt)];exact seg_whole
     have hs2:seg (X.map eLt) X.length 0= []:=by
      have:=sg_drop (X:=X) (Nat.le_refl _)
      rw[Nat.sub_self,List.drop_length]at this
      exact this
     have hT:(X.map eLt).length=X.length:=by simp
     have hTc: ∀y∈X.map eLt,y.cells.length=3:=fun y hy=>by obtain⟨x,_,rfl⟩:=List.mem_map.1 hy;rfl
     have hX2:(X++ [bs[i]]).map eLt=X.map eLt++ [eLt bs[i]]:=by simp
     have hXn:(X++ [bs[i]]).length=X.length+1:=by simp
     generalize X++ [bs[i]]=Y at*
     clear hcase habove hbelow
     have hs4:seg (X.map eLt++ [eLt bs[i]]) 0 (X.length+1)=X.map eLt++ [eLt bs[i]]:=by
      have:=seg_whole (xs:=X.map eLt++ [eLt bs[i]])
      simpa[hT]using this
     repeat' (first|(refine awK fun _ _=>?_)|refine zHg ?_|refine(hAB.next ((i+1,Y)) (Le.renSub [(60,900),(900,60)] [(900,60),(60,900)] (by simp[go_sem,hX2,hXn]) (by simp[go_sem,hX2,hXn]) (Le.sub4 rfl (by simp[go_sem,hX2,hXn]))) (by(try dsimp only);omega) ?_)|(fail_if_success with_reducible refine Owe.mk ?_);(simp(disch:=omega) [go_sem,hlt,h0,hs1,hs2,hs4,hT,hTc])|refine zAo ?_|refine zDr 15 mix ?_|fail)
     all_goals(first|omega|skip)
     all_goals exact⟨⟨hlt,hnx.symm⟩⟩
 ·obtain rfl:i=bs.length:=by omega
  rw[tdN_all,hS]at hX
  subst hX
  by_cases h0:X.length=0
  ·obtain rfl:=List.eq_nil_of_length_eq_zero h0
   repeat' (first|(refine awK fun _ _=>?_)|refine zHg ?_|refine end_ret [] ?_;simp[go_sem]|(fail_if_success with_reducible refine Owe.mk ?_);(simp(disch:=omega) [go_sem]))
  ·repeat' (first|(refine awK fun _ _=>?_)|refine zHg ?_|refine end_ret [] ?_;simp[go_sem,h0]|(fail_if_success with_reducible refine Owe.mk ?_);(simp(disch:=omega) [go_sem,h0]))
def nmK (l:List Nat):List ByteArray:=l.map fun k=>nmV (k - 1)
theorem nmK_len (l:List Nat):(nmK l).length=l.length:=List.length_map _
def bdN (vs:List ByteArray) (l:List Nat) (k:Nat):List Bd:=(sbl vs (nmK l)).take k
theorem bdN_next {vs:List ByteArray} {l:List Nat} {k:Nat} (h:k<vs.length) (h':k<l.length):bdN vs l (k+1)=bdN vs l k++ [⟨vs[k],.mk (nmV (l[k] - 1)) []⟩]:=by
 have h2:k<(nmK l).length:=by rw[nmK_len];exact h'
 unfold bdN
 rw[sbl_next h h2]
 simp[nmK]
theorem bdN_all {vs:List ByteArray} {l:List Nat} (h:vs.length=l.length):bdN vs l vs.length=sbl vs (nmK l):=by
 unfold bdN
 rw[List.take_of_length_le (by rw[sbl_len (by rw[nmK_len];exact h),nmK_len];omega)]
def bestN (r:Rl) (vs:List ByteArray) (L:List (List Nat)) (i:Nat):Option Rl:=((L.take i).map nmK).foldl (tryB r vs) none
theorem bestN_next {r:Rl} {vs:List ByteArray} {L:List (List Nat)} {i:Nat} (h:i<L.length):bestN r vs L (i+1)=some (pickB (cndR r vs (nmK L[i])) (bestN r vs L i)):=by
 unfold bestN
 rw[take_next h,List.map_append,List.foldl_append];rfl
theorem bestN_all (r:Rl):bestN r (varsR r) (ordF (varsR r).length) (ordF (varsR r).length).length=some (nrmB r):=by
 rw[←nrmO_eq]
 unfold bestN nrmO
 rw[List.take_length]
 have hne:ordF (varsR r).length≠ []:=fun h=>by
  have:=(mem_ordF (varsR r).length _).2 (List.Perm.refl _)
  rw[h]at this
  simp at this
 generalize ordF (varsR r).length=L at*
 cases L with
 |nil=>exact absurd rfl hne
 |cons l L=>
  rw[List.map_cons,List.foldl_cons]
  show(L.map nmK).foldl (tryB r (varsR r)) (some (cndR r (varsR r) (nmK l)))=_
  rw[fold_some,List.map_map]
  rfl
theorem cnd_len (r:Rl) (vs l:List ByteArray):(cndR r vs l).body.length≤r.body.length:=by
 have:=srtG_len (c:=ltC) (apR (sbl vs l) r).body
 have e:(apR (sbl vs l) r).body.length=r.body.length:=by unfold apR;simp
 show(srtG ltC (apR (sbl vs l) r).body).length≤_
 omega
theorem fold_bd (r:Rl) (vs:List ByteArray): ∀(L:List (List ByteArray)) (B:Option Rl),(∀b,B=some b→b.body.length≤r.body.length)→ ∀b,L.foldl (tryB r vs) B=some b→b.body.length≤r.body.length
 | [],B,h,b,e=>h b e
 |l::L,B,h,b,e=>fold_bd r vs L (tryB r vs B l) (fun b' e'=>by
  have e2:b'=pickB (cndR r vs l) B:=(Option.some.inj e').symm
  rw[e2]
  cases B with
  |none=>exact cnd_len r vs l
  |some b0=>
   show(if rlC (cndR r vs l) b0<0 then cndR r vs l else b0).body.length≤_
   split
   ·exact cnd_len r vs l
   ·exact h b0 rfl) b e
theorem refRule_ok (r:Rl) (hz:SzR r):ACall Tryz.prog 15 [eRl r] (fun v=>v= .tup [eRl (nrmR r),nt .i64 (nrmE r)]):=by
 have hb:=hz.body
 have hp:=ref6Valid_ok r (by omega)
 have hv:=ref7Vars_ok r hz.head hb hz.atom
 unfold nrmR
 by_cases hvl:vldR r=true
 ·rw[hvl]at hp
  by_cases h5:5<(varsR r).length
  ·have e1:nrmE r=11:=by unfold nrmE;rw[if_pos hvl,if_pos h5]
   rw[e1,if_neg (by decide)]
   have h5':(5:Int)<(varsR r).length:=by omega
   refine ACall.looseT (x:= .agg [.sc (.string ⟨#[]⟩),.list false true [],.list false true []]) rfl ?_
   generalize varsR r=V at*
   refine acall_of_awp Tryz.func15 Tryz.call15 rfl (by simp[Tryz.ntmps15]) ?_;simp only[Tryz.ntmps15,Tryz.results15]
   repeat' (first|(refine awK fun _ _=>?_)|refine zHg ?_|refine end_ret [] ?_;simp[go_sem,h5']|refine stepK_is rfl (hp) (by simp) ?_|refine stepK_is rfl (hv) (by simp) ?_|(fail_if_success with_reducible refine Owe.mk ?_);(simp(disch:=omega) [go_sem,h5']))
  ·have e1:nrmE r=0:=by unfold nrmE;rw[if_pos hvl,if_neg h5]
   rw[e1,if_pos rfl]
   have h5': ¬(5:Int)<(varsR r).length:=by omega
   have ho:=refOrders_ok (varsR r).length (by omega)
   have hbe:=bestN_all r
   have hel: ∀l∈ordF (varsR r).length,l.length=(varsR r).length:=fun l h=>ordF_elem h
   have hrg: ∀l∈ordF (varsR r).length,∀k∈l,1≤k∧k≤5:=fun l h k hk=>by
    have:=((mem_ordF _ l).1 h).mem_iff.1 hk
    obtain⟨j,hj,rfl⟩:=List.mem_map.1 this
    rw[List.mem_range]at hj
    omega
   have hLl:=ordF_len (varsR r).length (by omega)
   have hap: ∀s:List Bd,ACall Tryz.prog 46 [.list true false (s.map eBd),eRl r] (fun v=>v=eRl (apR s r)):=fun s=>ref7ApplyRule_ok s true false r (by have:=hz.head;omega) (fun b hb=>by have:=hz.atom b hb;omega) (by omega)
   have htd: ∀s:List Bd,ACall Tryz.prog 45 [eRl (apR s r)] (fun v=>v=eRl (tidyR (apR s r))):=fun s=>tidy_ok _ (by unfold apR;simp;omega)
   generalize ordF (varsR r).length=L at*
   generalize varsR r=V at*
   have hV5:V.length≤5:=by omega
   have hbz:bestN r V L 0=none:=rfl
   have hz2: ∀l,(bdN V l 0).map eBd= []:=fun l=>rfl
   refine acall_of_awp Tryz.func15 Tryz.call15 rfl (by simp[Tryz.ntmps15]) ?_;simp only[Tryz.ntmps15,Tryz.results15]
   repeat' (first|(refine awK fun _ _=>?_)|refine zHg ?_|refine stepK_is rfl (hp) (by simp) ?_|refine stepK_is rfl (hv) (by simp) ?_|refine stepK_is rfl (ho) (by simp) ?_|(fail_if_success with_reducible refine Owe.mk ?_);(simp(disch:=omega) [go_sem,h5']))
   refine awp_for [1,2,4,5,6] [6,10] (fun i:Nat=> [(7,nt .i64 i)]) (fun i:Nat=>(6,⟨false,false,false,3,[bestV (bestN r V L i)],0⟩):: []) (fun i:Nat=>L.length - i) (fun i:Nat=>i≤L.length) (0) (Le.sub4 rfl (by simp[go_sem,bestV,bRl,hbz])) ⟨?_⟩ ?_
   ·exact Nat.zero_le _
   intro i hi AA hAA;simp only[kL,Nat.reduceBEq,Nat.reduceEqDiff,if_true,if_false,List.cons_append,List.nil_append,List.append_nil]
   by_cases hlt:i<L.length
   ·have hAB:=hAA
    have hll:=hel _ (List.getElem_mem hlt)
    have hrl:=hrg _ (List.getElem_mem hlt)
    have hnx:=bestN_next (r:=r) (vs:=V) hlt
    have hap:=hap (sbl V (nmK L[i]))
    have htd:=htd (sbl V (nmK L[i]))
    have hba:=bdN_all hll.symm
    have hcl:=cnd_len r V (nmK L[i])
    have hbd: ∀b,bestN r V L i=some b→b.body.length≤r.body.length:=fun b e=>fold_bd r V _ none (fun _ h=>by cases h) b e
    have hbn: ∀(k:Nat) (h:k<V.length) (h':k<L[i].length),bdN V L[i] (k+1)=bdN V L[i] k++ [⟨V[k],.mk (nmV (L[i][k] - 1)) []⟩]:=fun k h h'=>bdN_next h h'
    have hcn:tidyR (apR (sbl V (nmK L[i])) r)=cndR r V (nmK L[i]):=rfl
    rw[hcn]at htd
    generalize cndR r V (nmK L[i])=x at*
    clear hcn hel hrg hbe
    repeat' (first|(refine awK fun _ _=>?_)|refine zHg ?_|(fail_if_success with_reducible refine Owe.mk ?_);(simp(disch:=omega) [go_sem,hlt,bestV]))
    refine awp_for [1,2,4,5,6,7] [900] (fun k:Nat=> [(9,nt .i64 k),(8,.ref 900 0 k)]) (fun k:Nat=> [(900,⟨true,false,false,3,(bdN V L[i] k).map eBd,0⟩)]) (fun k:Nat=>V.length - k) (fun k:Nat=>k≤V.length) (0) (by refine Le.trans ?_ (Le.nil (i:=8) (T:=900) (es:=3) rfl);exact(Le.sub4 rfl (by simp[go_sem,hz2]))) ⟨?_⟩ ?_
    ·exact Nat.zero_le _
    intro k hk AA hAA;simp only[kL,Nat.reduceBEq,Nat.reduceEqDiff,if_true,if_false,List.cons_append,List.nil_append,List.append_nil]
    have hbl:(bdN V L[i] k).length=k:=by unfold bdN;rw[List.length_take,sbl_len (by rw[nmK_len];exact hll.symm),nmK_len];omega
    by_cases hkl:k<V.length
    ·have hkL:k<L[i].length:=by omega
     have hb1:=hbn k hkl hkL
     have hnm:=name_ok L[i][k] (hrl _ (List.getElem_mem hkL))
     generalize bdN V L[i] k=X at*
     generalize nmV (L[i][k] - 1)=w at*
     repeat' (first|(refine awK fun _ _=>?_)|refine zHg ?_|refine dstepK_is rfl (hnm) rfl (by simp) ?_|refine(hAA.next (k+1) (Le.sub4 rfl (by simp[go_sem,hb1,hbl])) (by(try dsimp only);omega) ?_)|(fail_if_success with_reducible refine Owe.mk ?_);(simp(disch:=omega) [go_sem,hlt,hkl,hkL,hbl,eIs,eI,eStr])|refine zAo ?_|refine zDr 14 mix ?_|fail)
     all_goals(first|omega|skip)
     all_goals exact⟨hkl⟩
    ·obtain rfl:k=V.length:=by omega
     rw[hba]at hbl ⊢
     have hlenT:True:=trivial
     by_cases h0:i=0
     ·subst h0
      have hb0:bestN r V L 0=none:=rfl
      rw[hb0]at hnx ⊢
      have hnx:bestN r V L (0+1)=some x:=hnx
      repeat' (first|(refine awK fun _ _=>?_)|refine zHg ?_|refine stepK_is rfl (htd) (by simp) ?_|refine stepK_is ?hl (hap) (by simp) ?_;(case hl=>(simp[go_sem,hlt,hlenT,hbl,bestV,bRl];done))|refine(hAB.next (0+1) (Le.sub4 rfl (by simp[go_sem,hnx,bestV,bRl])) (by(try dsimp only);omega) ?_)|(fail_if_success with_reducible refine Owe.mk ?_);(simp(disch:=omega) [go_sem,hlt,hlenT,hbl,bestV,bRl]))
      all_goals(first|omega|skip)
      all_goals exact⟨hlt⟩
     ·obtain⟨b,hb0⟩: ∃b,bestN r V L i=some b:=by
       obtain⟨j,rfl⟩: ∃j,i=j+1:=⟨i - 1,by omega⟩
       exact⟨_,bestN_next (by omega)⟩
      have hbd:=hbd b hb0
      rw[hb0]at hnx ⊢
      have hnx:bestN r V L (i+1)=some (if rlC x b<0 then x else b):=hnx
      have hcm:=refCmpRl_ok x b (by omega) (by omega)
      by_cases hq:rlC x b<0
      ·rw[if_pos hq]at hnx
       generalize rlC x b=q at*
       repeat' (first|(refine awK fun _ _=>?_)|refine zHg ?_|refine stepK_is rfl (htd) (by simp) ?_|refine stepK_is rfl (hcm) (by simp) ?_|refine stepK_is ?hl (hap) (by simp) ?_;(case hl=>(simp[go_sem,hlt,hlenT,hbl,h0,hq,bestV,bRl];done))|refine(hAB.next (i+1) (Le.sub4 rfl (by simp[go_sem,hnx,bestV,bRl])) (by(try dsimp only);omega) ?_)|(fail_if_success with_reducible refine Owe.mk ?_);(simp(disch:=omega) [go_sem,hlt,hlenT,hbl,h0,hq,bestV,bRl]))
       all_goals(first|omega|skip)
       all_goals exact⟨hlt⟩
      ·rw[if_neg hq]at hnx
       generalize rlC x b=q at*
       repeat' (first|(refine awK fun _ _=>?_)|refine zHg ?_|refine stepK_is rfl (htd) (by simp) ?_|refine stepK_is rfl (hcm) (by simp) ?_|refine stepK_is ?hl (hap) (by simp) ?_;(case hl=>(simp[go_sem,hlt,hlenT,hbl,h0,hq,bestV,bRl];done))|refine(hAB.next (i+1) (Le.sub4 rfl (by simp[go_sem,hnx,bestV,bRl])) (by(try dsimp only);omega) ?_)|(fail_if_success with_reducible refine Owe.mk ?_);(simp(disch:=omega) [go_sem,hlt,hlenT,hbl,h0,hq,bestV,bRl]))
       all_goals(first|omega|skip)
       all_goals exact⟨hlt⟩
   ·obtain rfl:i=L.length:=by omega
    rw[hbe]
    repeat' (first|(refine awK fun _ _=>?_)|refine zHg ?_|refine end_ret [] ?_;simp[go_sem,bestV,bRl]|(fail_if_success with_reducible refine Owe.mk ?_);(simp(disch:=omega) [go_sem,bestV,bRl]))
 ·have e1:nrmE r=13:=by unfold nrmE;rw[if_neg hvl]
  rw[e1,if_neg (by decide)]
  rw[Bool.not_eq_true]at hvl
  rw[hvl]at hp
  refine ACall.looseT (x:= .agg [.sc (.string ⟨#[]⟩),.list false true [],.list false true []]) rfl ?_
  refine acall_of_awp Tryz.func15 Tryz.call15 rfl (by simp[Tryz.ntmps15]) ?_;simp only[Tryz.ntmps15,Tryz.results15]
  repeat' (first|(refine awK fun _ _=>?_)|refine zHg ?_|refine end_ret [] ?_;simp[go_sem]|refine stepK_is rfl (hp) (by simp) ?_|(fail_if_success with_reducible refine Owe.mk ?_);(simp(disch:=omega) [go_sem]))
set_option maxHeartbeats 8000000
theorem nrmR_len (r:Rl) (h:SzR r):(nrmR r).body.length≤12:=by
 unfold nrmR
 split
 ·obtain⟨f,_,e⟩:=nrmB_isC r
  rw[e]
  have:=srtG_len (c:=ltC) (renR f r).body
  have e2:(renR f r).body.length=r.body.length:=by unfold renR;simp
  have:=h.body
  show(srtG ltC (renR f r).body).length≤12
  omega
 ·exact Nat.zero_le _
theorem refSame_ok (a b:Rl) (ha:SzR a) (hb:SzR b):ACall Tryz.prog 17 [eRl a,eRl b] (fun v=>v= .tup [bl (sameB a b),nt .i64 (sameE a b)]):=by
 have h1:=refRule_ok a ha
 have h2:=refRule_ok b hb
 have h3:=refCmpRl_ok (nrmR a) (nrmR b) (by have:=nrmR_len a ha;omega) (by have:=nrmR_len b hb;omega)
 unfold sameB sameE
 generalize nrmR a=x at*
 generalize nrmR b=y at*
 generalize nrmE a=e at*
 generalize nrmE b=f at*
 generalize rlC x y=c at*
 by_cases he:e=0
 ·subst he
  by_cases hf:f=0
  ·subst hf
   simp only[if_true]
   refine acall_of_awp Tryz.func17 Tryz.call17 rfl (by simp[Tryz.ntmps17]) ?_;simp only[Tryz.ntmps17,Tryz.results17]
   repeat' (first|(refine awK fun _ _=>?_)|refine zHg ?_|refine end_ret [] ?_;simp[go_sem]|refine stepK_is rfl (h1) (by simp) ?_|refine stepK_is rfl (h2) (by simp) ?_|refine stepK_is rfl (h3) (by simp) ?_|(fail_if_success with_reducible refine Owe.mk ?_);(simp(disch:=omega) [go_sem]))
  ·simp only[if_true,if_neg hf]
   refine acall_of_awp Tryz.func17 Tryz.call17 rfl (by simp[Tryz.ntmps17]) ?_;simp only[Tryz.ntmps17,Tryz.results17]
   repeat' (first|(refine awK fun _ _=>?_)|refine zHg ?_|refine end_ret [] ?_;simp[go_sem,hf]|refine stepK_is rfl (h1) (by simp) ?_|refine stepK_is rfl (h2) (by simp) ?_|(fail_if_success with_reducible refine Owe.mk ?_);(simp(disch:=omega) [go_sem,hf]))
 ·simp only[if_neg he]
  refine acall_of_awp Tryz.func17 Tryz.call17 rfl (by simp[Tryz.ntmps17]) ?_;simp only[Tryz.ntmps17,Tryz.results17]
  repeat' (first|(refine awK fun _ _=>?_)|refine zHg ?_|refine end_ret [] ?_;simp[go_sem,he]|refine stepK_is rfl (h1) (by simp) ?_|(fail_if_success with_reducible refine Owe.mk ?_);(simp(disch:=omega) [go_sem,he]))
open Go.RowKit
theorem small_ok (l:List Rl) (fu:Bool) (h: ∀r∈l,okRl r) (hl:l.length≤maxRow):ACall Tryz.prog 10 [.list false fu (l.map eRl)] (fun r=>r=bl (smallRs 12 l)):=by
 have h1:=smallsD_ok l fu h hl
 generalize smallRs 12 l=q at*
 refine acall_of_awp Tryz.func10 Tryz.call10 rfl (by simp[Tryz.ntmps10]) ?_;simp only[Tryz.ntmps10,Tryz.results10]
 repeat' (first|(refine awK fun _ _=>?_)|refine zHg ?_|refine end_ret [] ?_;simp[go_sem]|refine stepK_is rfl (h1) (by simp) ?_|(fail_if_success with_reducible refine Owe.mk ?_);(simp(disch:=omega) [go_sem]))
theorem NormalRules_of (haw:ACall Tryz.prog 11 [] (fun r=>r=bl true)) (a b:Rl) (ha:okRl a) (hb:okRl b):
 ACall Tryz.prog 4 [eRl a,eRl b] (fun r=>r=bl true):=by
 have hs:=small_ok [a,b] false (by simp[ha,hb]) (show(2:Nat)≤140737488355328 by decide)
 simp only[List.map_cons,List.map_nil]at hs
 cases hq:smallRs 12 [a,b]
 ·rw[hq]at hs
  refine acall_of_awp Tryz.func4 Tryz.call4 rfl (by simp[Tryz.ntmps4]) ?_;simp only[Tryz.ntmps4,Tryz.results4]
  repeat' (first|(refine awK fun _ _=>?_)|refine zHg ?_|(fail_if_success with_reducible refine Owe.mk ?_);(simp(disch:=omega) [go_sem]))
  refine stepK_call [15] _ rfl rfl (hs) (by simp) ?_;rintro _ rfl
  repeat' (first|refine zHg ?_|refine end_ret [] ?_;simp[go_sem]|refine stepK_is rfl (haw) (by simp) ?_|(fail_if_success with_reducible refine Owe.mk ?_);(simp(disch:=omega) [go_sem]))
 ·have za:=sz_of hq a (by simp)
  have zb:=sz_of hq b (by simp)
  rw[hq]at hs
  have h1:=Rule_ok a za
  have h2:=refRule_ok a za
  have h3:=Same_ok a b za zb
  have h4:=refSame_ok a b za zb
  have h5:=plainRule_ok (nrmR a) (nrmR a) (by have:=nrmR_len a za;omega)
  rw[decide_eq_true rfl]at h5
  generalize sameB a b=p at*
  generalize sameE a b=e at*
  generalize nrmE a=f at*
  generalize nrmR a=x at*
  refine acall_of_awp Tryz.func4 Tryz.call4 rfl (by simp[Tryz.ntmps4]) ?_;simp only[Tryz.ntmps4,Tryz.results4]
  repeat' (first|(refine awK fun _ _=>?_)|refine zHg ?_|(fail_if_success with_reducible refine Owe.mk ?_);(simp(disch:=omega) [go_sem]))
  refine stepK_call [15] _ rfl rfl (hs) (by simp) ?_;rintro _ rfl
  repeat' (first|(refine awK fun _ _=>?_)|refine zHg ?_|refine end_ret [] ?_;simp[go_sem]|refine stepK_is rfl (h1) (by simp) ?_|refine stepK_is rfl (h2) (by simp) ?_|refine stepK_is rfl (h3) (by simp) ?_|refine stepK_is rfl (h4) (by simp) ?_|refine stepK_is rfl (h5) (by simp) ?_|refine stepK_is rfl (haw) (by simp) ?_|(fail_if_success with_reducible refine Owe.mk ?_);(simp(disch:=omega) [go_sem]))
theorem NormalRules_ok (a b:Rl) (ha:okRl a) (hb:okRl b):ACall Tryz.prog 4 [eRl a,eRl b] (fun r=>r=bl true):=NormalRules_of awake_ok a b ha hb
end Go.Proofs.YtkbglbcphjmiiaaGreatDoor
