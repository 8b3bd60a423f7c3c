import Derived.Test.YtkbglbcphjmiiaaGreatDoorS3
import Derived.Test.YtkbglbcphjmiiaaGreatDoorA11
import Derived.Test.YtkbglbcphjmiiaaGreatDoorS5
import Derived.Test.YtkbglbcphjmiiaaGreatDoorA12
set_option linter.unusedSimpArgs false
set_option linter.unusedVariables false
namespace Go.Proofs.YtkbglbcphjmiiaaGreatDoor
open Go.Ab
set_option maxRecDepth 100000
abbrev dstS:ByteArray:=⟨#[100,105,115,116,105,110,99,116]⟩
abbrev initS:ByteArray:=⟨#[105,110,105,116]⟩
abbrev nextS:ByteArray:=⟨#[110,101,120,116]⟩
abbrev trueS:ByteArray:=⟨#[116,114,117,101]⟩
abbrev legalS:ByteArray:=⟨#[108,101,103,97,108]⟩
abbrev doesS:ByteArray:=⟨#[100,111,101,115]⟩
def nxW (r:List Bd×Bool) (nx:List (List Bd)):List (List Bd):=if r.2=true then nx++ [r.1]else nx
def wyJ (a:Tm) (s:List Bd):List Tm→List (List Bd)→Int→Option (List (List Bd))×Int
 | [],nx,lf=>(some nx,lf)
 |t::ts,nx,lf=>if t.name=a.name∧t.args.length=a.args.length then
  (if lf - 1<0∨5000<(nxW (bndT a t s) nx).length then(none,lf - 1)else wyJ a s ts (nxW (bndT a t s) nx) (lf - 1))
  else wyJ a s ts nx lf
def wyK (a:Tm) (A:List Tm):List (List Bd)→List (List Bd)→Int→Option (List (List Bd))×Int
 | [],nx,lf=>(some nx,lf)
 |s::ss,nx,lf=>match wyJ a s A nx lf with
  |(some nx',lf')=>wyK a A ss nx' lf'
  |(none,lf')=>(none,lf')
def wyI (A:List Tm):List Lt→List (List Bd)→Int→Option (List (List Bd))×Int
 | [],out,lf=>(some out,lf)
 |b::bs,out,lf=>if b.neg=true∨b.atom.name=dstS then wyI A bs out lf else match wyK b.atom A out [] lf with
  |(some nx,lf')=>wyI A bs nx lf'
  |(none,lf')=>(none,lf')
def okW (q M k:Nat) (W:List (List Bd)):Prop:= ∀s∈W,okB q M s∧s.length≤k
def okA (q M:Nat) (A:List Tm):Prop:= ∀t∈A,okT q M t∧t.depth≤4
theorem wyJ_ok {q M k:Nat} {a:Tm} {s:List Bd} (hs:okB q M s∧s.length≤k): ∀{A:List Tm} {nx:List (List Bd)} {lf:Int},okA q M A→okW q M (k+a.size) nx→nx.length≤5000→0≤lf→
 (wyJ a s A nx lf).2≤lf∧ -1≤(wyJ a s A nx lf).2∧ ∀nx',(wyJ a s A nx lf).1=some nx'→okW q M (k+a.size) nx'∧nx'.length≤5000∧0≤(wyJ a s A nx lf).2
 | [],nx,lf,_,hn,hl,h0=>⟨Int.le_refl _,by show(-1:Int)≤lf;omega,fun nx' h=>by
  obtain rfl:=Option.some.inj h
  exact⟨hn,hl,h0⟩⟩
 |t::ts,nx,lf,hA,hn,hl,h0=>by
  have hA':okA q M ts:=fun u hu=>hA u (by simp[hu])
  obtain⟨ht,hd⟩:=hA t (by simp)
  unfold wyJ
  split
  ·split
   ·exact⟨by show lf - 1≤lf;omega,by show(-1:Int)≤lf - 1;omega,fun _ h=>by cases h⟩
   ·rename_i he hc
    rw[not_or]at hc
    obtain⟨b1,b2⟩:=bnd_ok a t s ht hd (fun hu=>by
     have h0:t.args.length=0:=by
      unfold isU at hu
      rw[Bool.and_eq_true,decide_eq_true_eq]at hu
      rw[he.2];exact hu.1
     rw[depth_eq,List.eq_nil_of_length_eq_zero h0]
     simp[depthL]) hs.1
    have hn':okW q M (k+a.size) (nxW (bndT a t s) nx):=by
     unfold nxW
     split
     ·intro u hu
      rcases List.mem_append.1 hu with hu|hu
      ·exact hn u hu
      ·obtain rfl:=List.mem_singleton.1 hu
       exact⟨b1,by omega⟩
     ·exact hn
    obtain⟨c1,c2,c3⟩:=wyJ_ok hs (A:=ts) hA' hn' (by omega) (show 0≤lf - 1 by omega)
    exact⟨by omega,c2,c3⟩
  ·exact wyJ_ok hs hA' hn hl h0
theorem wyK_ok {q M k:Nat} {a:Tm} {A:List Tm} (hA:okA q M A): ∀{W nx:List (List Bd)} {lf:Int},okW q M k W→okW q M (k+a.size) nx→nx.length≤5000→0≤lf→
 (wyK a A W nx lf).2≤lf∧ -1≤(wyK a A W nx lf).2∧ ∀nx',(wyK a A W nx lf).1=some nx'→okW q M (k+a.size) nx'∧nx'.length≤5000∧0≤(wyK a A W nx lf).2
 | [],nx,lf,_,hn,hl,h0=>⟨Int.le_refl _,by show(-1:Int)≤lf;omega,fun nx' h=>by
  obtain rfl:=Option.some.inj h
  exact⟨hn,hl,h0⟩⟩
 |s::ss,nx,lf,hW,hn,hl,h0=>by
  obtain⟨a1,a2,a3⟩:=wyJ_ok (hW s (by simp)) hA hn hl h0
  unfold wyK
  split
  ·rename_i nx' lf' he
   rw[he]at a1 a2 a3
   obtain⟨b1,b2,b3⟩:=a3 nx' rfl
   dsimp only at a1 a2 b3
   obtain⟨c1,c2,c3⟩:=wyK_ok hA (W:=ss) (fun u hu=>hW u (by simp[hu])) b1 b2 b3
   exact⟨by omega,c2,c3⟩
  ·rename_i lf' he
   rw[he]at a1 a2
   exact⟨a1,a2,fun _ h=>by cases h⟩
def bsz:List Lt→Nat
 | []=>0
 |b::bs=>b.atom.size+bsz bs
theorem wyI_ok {q M:Nat} {A:List Tm} (hA:okA q M A): ∀{B:List Lt} {k:Nat} {W:List (List Bd)} {lf:Int},okW q M k W→W.length≤5000→0≤lf→
 (wyI A B W lf).2≤lf∧ -1≤(wyI A B W lf).2∧ ∀W',(wyI A B W lf).1=some W'→okW q M (k+bsz B) W'∧W'.length≤5000∧0≤(wyI A B W lf).2
 | [],k,W,lf,hW,hl,h0=>⟨Int.le_refl _,by show(-1:Int)≤lf;omega,fun nx' h=>by
  obtain rfl:=Option.some.inj h
  exact⟨hW,hl,h0⟩⟩
 |b::bs,k,W,lf,hW,hl,h0=>by
  unfold wyI
  have up: ∀{j i:Nat} {W:List (List Bd)},okW q M j W→j≤i→okW q M i W:=fun h hji s hs=>⟨(h s hs).1,Nat.le_trans (h s hs).2 hji⟩
  split
  ·obtain⟨c1,c2,c3⟩:=wyI_ok hA (B:=bs) hW hl h0
   exact⟨c1,c2,fun W' h=>⟨up (c3 W' h).1 (by rw[bsz];omega),(c3 W' h).2⟩⟩
  ·obtain⟨a1,a2,a3⟩:=wyK_ok (a:=b.atom) hA (nx:= []) hW (fun s hs=>by simp at hs) (by simp) h0
   split
   ·rename_i nx lf' he
    rw[he]at a1 a2 a3
    obtain⟨b1,b2,b3⟩:=a3 nx rfl
    dsimp only at a1 a2 b3
    obtain⟨c1,c2,c3⟩:=wyI_ok hA (B:=bs) b1 b2 b3
    exact⟨by omega,c2,fun W' h=>⟨up (c3 W' h).1 (by rw[bsz];omega),(c3 W' h).2⟩⟩
   ·rename_i lf' he
    rw[he]at a1 a2
    exact⟨a1,a2,fun _ h=>by cases h⟩
def mrR (h:Tm) (W:List (List Bd)):List Tm:=W.filterMap fun s=>if(inzT h s).2=true then some (inzT h s).1 else none
def rndL (A:List Tm):List Rl→List Tm→Int→Option (List Tm)×Int
 | [],m,lf=>(some m,lf)
 |r::rs,m,lf=>match wyI A r.body [[]] lf with
  |(some W,lf')=>rndL A rs (m++mrR r.head W) lf'
  |(none,lf')=>(none,lf')
def extR (t:Tm):List Tm:=if t.args.length=1∧(t.name=initS∨t.name=nextS)then[.mk trueS t.args]else if t.args.length=2∧t.name=legalS then[.mk doesS t.args]else[]
def extL (A:List Tm):List Tm:=A.flatMap extR
def addA (A:List Tm) (t:Tm):List Tm:=if A.any (fun u=>decide (keyT u=keyT t))=false∧t.depth≤4 then A++ [t]else A
def lgtN (l:List Rl):Nat→Int→List Tm→Int→Bool
 |0,_,_,_=>false
 |f+1,n,A,lf=>if n<A.length∧A.length≤1000 then match rndL A l [] lf with
  |(some m,lf')=>lgtN l f A.length ((m++extL A).foldl addA A) lf'
  |(none,_)=>false
  else decide (A.length≤1000)
def lgtF (l:List Rl) (G:List Tm):Bool:=lgtN l 1003 (-1) (G.foldl addA []) 1000000
def okR (q M:Nat) (r:Rl):Prop:=okT q M r.head∧r.head.size≤20∧r.body.length≤8∧ ∀b∈r.body,okT q M b.atom∧b.atom.size≤20
def BG (q M:Nat):Nat:=20*(M+3)+20*KB q M 3+KB q M 4
def okX (q M:Nat) (X:List Tm):Prop:= ∀t∈X,okT q M t∧kzT t≤BG q M∧t.depth≤1000
theorem depth_small {t:Tm} {n:Nat} (h:t.size≤n):t.depth≤n:=Nat.le_trans (depth_le_size t) h
theorem mrR_ok {q M:Nat} {h:Tm} (hh:okT q M h) (hz:h.size≤20) {k:Nat} {W:List (List Bd)} (hW:okW q M k W):okX q M (mrR h W):=by
 intro t ht
 unfold mrR at ht
 obtain⟨s,hs,he⟩:=List.mem_filterMap.1 ht
 split at he
 ·obtain rfl:=Option.some.inj he
  obtain⟨a1,a2,a3⟩:=inz_ok (hW s hs).1 h hh
  have b1:=kz_size hh
  have b2:=depth_small hz
  have b3:h.size*(M+3)≤20*(M+3):=Nat.mul_le_mul_right _ hz
  have b4:h.size*KB q M 3≤20*KB q M 3:=Nat.mul_le_mul_right _ hz
  exact⟨a1,by unfold BG;omega,by omega⟩
 ·cases he
theorem mrR_len {h:Tm} {W:List (List Bd)}:(mrR h W).length≤W.length:=List.length_filterMap_le _ _
theorem extR_len (t:Tm):(extR t).length≤1:=by
 unfold extR
 split
 ·simp
 ·split<;>simp
theorem extL_len: ∀A:List Tm,(extL A).length≤A.length
 | []=>by simp[extL]
 |t::A=>by
  have h1:=extR_len t
  have h2:=extL_len A
  unfold extL at*
  rw[List.flatMap_cons,List.length_append,List.length_cons];omega
theorem KB_mono {q M:Nat}:KB q M 4≤BG q M:=by unfold BG;omega
theorem extL_ok {q M:Nat} (hM:5≤M) {A:List Tm} (hA:okA q M A):okX q M (extL A):=by
 intro t ht
 obtain⟨u,hu,ht⟩:=List.mem_flatMap.1 ht
 obtain⟨h1,h2⟩:=hA u hu
 have key: ∀n:ByteArray,n.size≤M→okT q M (.mk n u.args)∧kzT (.mk n u.args)≤BG q M∧(Tm.mk n u.args).depth≤1000:=fun n hn=>by
  obtain⟨m,ts⟩:=u
  have o:okT q M (.mk n ts):=okT_mk.2 ⟨hn,(okT_mk.1 h1).2⟩
  have d:(Tm.mk n ts).depth≤4:=by rw[depth_eq,args_mk]at*;exact h2
  exact⟨o,Nat.le_trans (kz_bd o d) KB_mono,by show(Tm.mk n ts).depth≤1000;omega⟩
 unfold extR at ht
 split at ht
 ·obtain rfl:=List.mem_singleton.1 ht
  exact key _ (by show 4≤M;omega)
 ·split at ht
  ·obtain rfl:=List.mem_singleton.1 ht
   exact key _ (by show 4≤M;omega)
  ·simp at ht
theorem addA_ok {q M:Nat} {A:List Tm} (hA:okA q M A) {t:Tm} (ht:okT q M t):okA q M (addA A t):=by
 unfold addA
 split
 ·rename_i h
  intro u hu
  rcases List.mem_append.1 hu with hu|hu
  ·exact hA u hu
  ·obtain rfl:=List.mem_singleton.1 hu
   exact⟨ht,h.2⟩
 ·exact hA
theorem addA_len {A:List Tm} {t:Tm}:A.length≤(addA A t).length∧(addA A t).length≤A.length+1:=by
 unfold addA
 split<;>simp
theorem addL_ok {q M:Nat}: ∀{X A:List Tm},okA q M A→(∀t∈X,okT q M t)→okA q M (X.foldl addA A)
 | [],_,h,_=>h
 |t::X,A,h,hx=>by
  rw[List.foldl_cons]
  exact addL_ok (addA_ok h (hx t (by simp))) fun u hu=>hx u (by simp[hu])
theorem addL_len: ∀{X A:List Tm},A.length≤(X.foldl addA A).length∧(X.foldl addA A).length≤A.length+X.length
 | [],A=>by simp
 |t::X,A=>by
  have h1:=addA_len (A:=A) (t:=t)
  have h2:=addL_len (X:=X) (A:=addA A t)
  rw[List.foldl_cons,List.length_cons];omega
set_option maxHeartbeats 8000000
theorem isvar_ok (t:Tm):ACall Tryz.prog 130 [eT t] (fun r=>r=bl (isU t)):=by
 unfold isU
 have he: ∀b:ByteArray,b.size=0→b=⟨#[]⟩:=fun b h=>by
  obtain⟨d⟩:=b
  congr 1
  exact Array.eq_empty_of_size_eq_zero h
 by_cases h0:t.args.length=0
 ·by_cases h1:t.name.size=0
  ·have h1':=he _ h1
   rw[decide_eq_true h0,show decide (t.name.size≠0)=false from decide_eq_false (fun h=>h h1)]
   refine acall_of_awp Tryz.func130 Tryz.call130 rfl (by simp[Tryz.ntmps130]) ?_;simp only[Tryz.ntmps130,Tryz.results130]
   repeat' (first|(refine awK fun _ _=>?_)|refine zHg ?_|refine end_ret [] ?_;simp[go_sem,h0,h1']|(fail_if_success with_reducible refine Owe.mk ?_);(simp(disch:=omega) [go_sem,h0,h1']))
  ·have h1': ¬t.name=⟨#[]⟩:=fun h=>h1 (by rw[h];rfl)
   by_cases h2:65≤bt t.name 0
   ·by_cases h3:bt t.name 0≤90
    ·rw[decide_eq_true h0,decide_eq_true (show t.name.size≠0 from h1),decide_eq_true h2,decide_eq_true h3]
     refine acall_of_awp Tryz.func130 Tryz.call130 rfl (by simp[Tryz.ntmps130]) ?_;simp only[Tryz.ntmps130,Tryz.results130]
     repeat' (first|(refine awK fun _ _=>?_)|refine zHg ?_|refine end_ret [] ?_;simp[go_sem,h0,h1,h1',h2,h3]|(fail_if_success with_reducible refine Owe.mk ?_);(simp(disch:=omega) [go_sem,h0,h1,h1',h2,h3])|refine zAo ?_)
    ·rw[decide_eq_true h0,decide_eq_true (show t.name.size≠0 from h1),decide_eq_true h2,decide_eq_false h3]
     refine acall_of_awp Tryz.func130 Tryz.call130 rfl (by simp[Tryz.ntmps130]) ?_;simp only[Tryz.ntmps130,Tryz.results130]
     repeat' (first|(refine awK fun _ _=>?_)|refine zHg ?_|refine end_ret [] ?_;simp[go_sem,h0,h1,h1',h2,h3]|(fail_if_success with_reducible refine Owe.mk ?_);(simp(disch:=omega) [go_sem,h0,h1,h1',h2,h3])|refine zAo ?_)
   ·rw[decide_eq_true h0,decide_eq_true (show t.name.size≠0 from h1),decide_eq_false h2]
    refine acall_of_awp Tryz.func130 Tryz.call130 rfl (by simp[Tryz.ntmps130]) ?_;simp only[Tryz.ntmps130,Tryz.results130]
    repeat' (first|(refine awK fun _ _=>?_)|refine zHg ?_|refine end_ret [] ?_;simp[go_sem,h0,h1,h1',h2]|(fail_if_success with_reducible refine Owe.mk ?_);(simp(disch:=omega) [go_sem,h0,h1,h1',h2])|refine zAo ?_)
 ·rw[decide_eq_false h0]
  refine acall_of_awp Tryz.func130 Tryz.call130 rfl (by simp[Tryz.ntmps130]) ?_;simp only[Tryz.ntmps130,Tryz.results130]
  repeat' (first|(refine awK fun _ _=>?_)|refine zHg ?_|refine end_ret [] ?_;simp[go_sem,h0]|(fail_if_success with_reducible refine Owe.mk ?_);(simp(disch:=omega) [go_sem,h0]))
theorem kzL_len: ∀l:List Tm,l.length≤kzL l
 | []=>by simp
 |t::r=>by have:=kzL_len r;rw[kzL,List.length_cons];omega
theorem key_ok: ∀t:Tm,kzT t≤2305843009213693952→ACall Tryz.prog 88 [eT t] (fun r=>r= .sc (.string (keyT t))):=by
 refine tm_ind fun t ih hz=>?_
 obtain⟨n,ts⟩:=t
 simp only[args_mk]at ih
 rw[kzT_mk]at hz
 rw[keyT]
 have hsz: ∀i,(keyS (n++⟨#[40]⟩) (ts.take i)).size≤n.size+1+kzL ts:=fun i=>by
  rw[keyS_of fun t _=>keyT_size t,size_app]
  have h1:(⟨#[40]⟩:ByteArray).size=1:=rfl
  have:=kzL_take (ts:=ts) (i:=i)
  omega
 have hs0:keyS (n++⟨#[40]⟩) []=n++⟨#[40]⟩:=rfl
 refine acall_of_awp Tryz.func88 Tryz.call88 rfl (by simp[Tryz.ntmps88]) ?_;simp only[Tryz.ntmps88,Tryz.results88]
 repeat' (first|(refine awK fun _ _=>?_)|refine zHg ?_|(fail_if_success with_reducible refine Owe.mk ?_);(simp(disch:=omega) [go_sem])|refine zAo ?_)
 refine awp_for [1,10] [] (fun i:Nat=> [(11,nt .i64 i),(3,.sc (.string (keyS (n++⟨#[40]⟩) (ts.take i))))]) (fun i:Nat=> []) (fun i:Nat=>ts.length - i) (fun i:Nat=>i≤ts.length) (0) (Le.sub4 rfl (by simp[go_sem,hs0,List.take_zero])) ⟨?_⟩ ?_
 ·exact Nat.zero_le _
 intro i hi AA hAA;simp only[kL,Nat.reduceBEq,Nat.reduceEqDiff,if_true,if_false,List.cons_append,List.nil_append,List.append_nil]
 have h1:=hsz i
 have hll:=kzL_len ts
 by_cases hlt:i<ts.length
 ·have hm:=kzT_mem (List.getElem_mem hlt)
  have hu:=ih ts[i] (List.getElem_mem hlt) (by omega)
  have hn:=keyS_next (a:=n++⟨#[40]⟩) hlt
  have h2:=keyT_size ts[i]
  generalize keyS (n++⟨#[40]⟩) (ts.take i)=A at*
  generalize keyT ts[i]=B at*
  repeat' (first|(refine awK fun _ _=>?_)|refine zHg ?_|refine stepK_is rfl (hu) (by simp) ?_|refine(hAA.next (i+1) (Le.sub4 rfl (by simp[go_sem,hn])) (by(try dsimp only);omega) ?_)|(fail_if_success with_reducible refine Owe.mk ?_);(simp(disch:=omega) [go_sem,hlt])|refine zAo ?_)
  all_goals(first|omega|skip)
  exact⟨by omega⟩
 ·obtain rfl:i=ts.length:=by omega
  rw[List.take_length]at*
  generalize keyS (n++⟨#[40]⟩) ts=A at*
  repeat' (first|(refine awK fun _ _=>?_)|refine zHg ?_|refine end_ret [] ?_;simp[go_sem]|(fail_if_success with_reducible refine Owe.mk ?_);(simp(disch:=omega) [go_sem])|refine zAo ?_)
theorem levels_ok {q M:Nat} (hq:q≤1000000): ∀t:Tm,okT q M t→t.depth≤1000000→ACall Tryz.prog 89 [eT t] (fun r=>r=nt .i64 t.depth):=by
 refine tm_ind fun t ih ho hs=>?_
 obtain⟨s,ts⟩:=t
 simp only[args_mk]at ih
 obtain⟨-,hl,ho⟩:=okT_mk.1 ho
 have ho:=okL_iff.1 ho
 have hda: ∀t∈ts,t.depth+1≤(Tm.mk s ts).depth:=fun t ht=>depth_arg ht
 rw[depth_eq]at*
 simp only[args_mk]at*
 have hdi: ∀i,depthL (ts.take i)≤depthL ts:=fun i=>by
  have:=depthL_append (ts.take i) (ts.drop i)
  rw[List.take_append_drop]at this;omega
 refine acall_of_awp Tryz.func89 Tryz.call89 rfl (by simp[Tryz.ntmps89]) ?_;simp only[Tryz.ntmps89,Tryz.results89]
 repeat' (first|(refine awK fun _ _=>?_)|refine zHg ?_|(fail_if_success with_reducible refine Owe.mk ?_);(simp(disch:=omega) [go_sem]))
 refine awp_for [1,7] [] (fun i:Nat=> [(8,nt .i64 i),(3,nt .i64 (depthL (ts.take i)))]) (fun i:Nat=> []) (fun i:Nat=>ts.length - i) (fun i:Nat=>i≤ts.length) (0) (Le.sub4 rfl (by simp[go_sem,depthL,List.take_zero])) ⟨?_⟩ ?_
 ·exact Nat.zero_le _
 intro i hi AA hAA;simp only[kL,Nat.reduceBEq,Nat.reduceEqDiff,if_true,if_false,List.cons_append,List.nil_append,List.append_nil]
 have hd1:=hdi i
 by_cases hlt:i<ts.length
 ·have hu:=ih ts[i] (List.getElem_mem hlt) (ho _ (List.getElem_mem hlt)) (by have:=hda _ (List.getElem_mem hlt);omega)
  have hn:=depthL_next hlt
  repeat' (first|(refine awK fun _ _=>?_)|refine zHg ?_|refine stepK_is rfl (hu) (by simp) ?_|refine(hAA.next (i+1) (Le.sub4 rfl (by simp[go_sem,hn,cast_max])) (by(try dsimp only);omega) ?_)|(fail_if_success with_reducible refine Owe.mk ?_);(simp(disch:=omega) [go_sem,hlt]))
  all_goals(first|omega|skip)
  exact⟨by omega⟩
 ·obtain rfl:i=ts.length:=by omega
  rw[List.take_length]at*
  repeat' (first|(refine awK fun _ _=>?_)|refine zHg ?_|refine end_ret [] ?_;simp[go_sem]|(fail_if_success with_reducible refine Owe.mk ?_);(simp(disch:=omega) [go_sem]))
theorem lookB_at {s:List Bd} {n:ByteArray} {i:Nat} (h:i<s.length) (he:s[i].v=n) (hn: ∀(k:Nat) (hk:k<s.length),k<i→ ¬s[k].v=n):lookB s n=some s[i].t:=by
 have:s.find? (fun b=>decide (b.v=n))=some s[i]:=by
  rw[List.find?_eq_some_iff_getElem]
  exact⟨by simpa using he,i,h,rfl,fun j hj=>by simpa using hn j (by omega) hj⟩
 unfold lookB
 rw[this];rfl
theorem lookB_none {s:List Bd} {n:ByteArray} (hn: ∀(k:Nat) (hk:k<s.length),k<s.length→ ¬s[k].v=n):lookB s n=none:=by
 have:s.find? (fun b=>decide (b.v=n))=none:=by
  rw[List.find?_eq_none]
  intro x hx
  obtain⟨k,hk,rfl⟩:=List.mem_iff_getElem.1 hx
  simpa using hn k hk hk
 unfold lookB
 rw[this];rfl
def inzA (s:List Bd) (ts a:List Tm):Option (List Tm):=(inzL ts s).map fun l=>a++l
theorem inzA_cons {s:List Bd} {t:Tm} {ts a:List Tm}:inzA s (t::ts) a=if(inzT t s).2=true then inzA s ts (a++ [(inzT t s).1])else none:=by
 unfold inzA
 rw[inzL_cons]
 split
 ·cases inzL ts s<;>simp
 ·rfl
theorem instance_ok (s:List Bd) (le fu:Bool) {q M:Nat} (hq:q≤1000000): ∀t:Tm,okT q M t→ACall Tryz.prog 91 [eT t,.list false fu (s.map eBd)] (fun r=>r= .tup [eT (inzT t s).1,bl (inzT t s).2]):=by
 refine tm_ind fun t ih ho=>?_
 obtain⟨n,ts⟩:=t
 simp only[args_mk]at ih
 obtain⟨-,hl,ho⟩:=okT_mk.1 ho
 have ho:=okL_iff.1 ho
 have hv:=isvar_ok (.mk n ts)
 rw[inzT_mk]
 cases hU:isU (.mk n ts)
 ·rw[hU]at hv
  simp only[Bool.false_eq_true,if_false]
  cases hG:inzL ts s with
  |none=>
   show ACall _ _ _ (fun r=>r= .tup [eT (.mk n ts),bl false])
   refine acall_of_awp Tryz.func91 Tryz.call91 rfl (by simp[Tryz.ntmps91]) ?_;simp only[Tryz.ntmps91,Tryz.results91]
   repeat' (first|(refine awK fun _ _=>?_)|refine zHg ?_|refine stepK_is rfl (hv) (by simp) ?_|(fail_if_success with_reducible refine Owe.mk ?_);(simp(disch:=omega) [go_sem]))
   refine awp_for [1,2,4,7,38] [7,900,9] (fun y:Nat×List Tm=> [(39,nt .i64 y.1)]) (fun y:Nat×List Tm=>(7,⟨false,false,false,2,[.agg [.sc (.string n),if y.2.length=0 then .list false true []else .ref 900 0 y.2.length]],0⟩)::(if y.2.length=0 then[]else[(900,⟨true,false,false,2,y.2.map eTm,0⟩)])) (fun y:Nat×List Tm=>ts.length - y.1) (fun y:Nat×List Tm=>y.1≤ts.length∧y.2.length=y.1∧inzA s (ts.drop y.1) y.2=none) ((0,[])) (Le.sub4 rfl (by simp[go_sem])) ⟨?_⟩ ?_
   ·exact⟨Nat.zero_le _,rfl,by unfold inzA;rw[List.drop_zero,hG];rfl⟩
   intro⟨i,a⟩ ⟨hi,ha,hinv⟩ AA hAA;simp only[kL,Nat.reduceBEq,Nat.reduceEqDiff,if_true,if_false,List.cons_append,List.nil_append,List.append_nil]
   dsimp only at*
   by_cases hlt:i<ts.length
   ·have hu:=ih _ (List.getElem_mem hlt) (ho _ (List.getElem_mem hlt))
    rw[List.drop_eq_getElem_cons hlt,inzA_cons]at hinv
    generalize inzT ts[i] s=x at*
    obtain⟨x,b⟩:=x
    dsimp only at*
    cases b
    ·by_cases h0:i=0
     ·subst h0
      obtain rfl:=List.eq_nil_of_length_eq_zero ha
      repeat' (first|(refine awK fun _ _=>?_)|refine zHg ?_|refine end_ret [] ?_;simp[go_sem,hlt]|refine stepK_is rfl (hu) (by simp) ?_|(fail_if_success with_reducible refine Owe.mk ?_);(simp(disch:=omega) [go_sem,hlt]))
     ·repeat' (first|(refine awK fun _ _=>?_)|refine zHg ?_|refine end_ret [] ?_;simp[go_sem,hlt,h0,ha]|refine stepK_is rfl (hu) (by simp) ?_|(fail_if_success with_reducible refine Owe.mk ?_);(simp(disch:=omega) [go_sem,hlt,h0,ha]))
    ·by_cases h0:i=0
     ·subst h0
      obtain rfl:=List.eq_nil_of_length_eq_zero ha
      repeat' (first|(refine awK fun _ _=>?_)|refine zHg ?_|refine stepK_is rfl (hu) (by simp) ?_|refine(hAA.next ((0+1,[x])) (Le.renSub [(59,900)] [(900,59)] (by simp[go_sem]) (by simp[go_sem]) (Le.sub4 rfl (by simp[go_sem]))) (by(try dsimp only);omega) ?_)|(fail_if_success with_reducible refine Owe.mk ?_);(simp(disch:=omega) [go_sem,hlt]))
      all_goals(first|omega|skip)
      exact⟨hlt,rfl,hinv⟩
     ·repeat' (first|(refine awK fun _ _=>?_)|refine zHg ?_|refine stepK_is rfl (hu) (by simp) ?_|refine(hAA.next ((i+1,a++ [x])) (Le.sub4 rfl (by simp[go_sem,ha])) (by(try dsimp only);omega) ?_)|(fail_if_success with_reducible refine Owe.mk ?_);(simp(disch:=omega) [go_sem,hlt,h0,ha])|refine zAo ?_)
      all_goals(first|omega|skip)
      exact⟨hlt,by simp[ha],hinv⟩
   ·obtain rfl:i=ts.length:=by omega
    rw[List.drop_length]at hinv
    simp[inzA,inzL_nil]at hinv
  |some l=>
   show ACall _ _ _ (fun r=>r= .tup [eT (.mk n l),bl true])
   have hll:=inzL_len hG
   refine ACall.looseT (x:= .agg [.sc (.string n),.list false (decide (ts.length=0)) (l.map eTm)]) rfl ?_
   refine acall_of_awp Tryz.func91 Tryz.call91 rfl (by simp[Tryz.ntmps91]) ?_;simp only[Tryz.ntmps91,Tryz.results91]
   repeat' (first|(refine awK fun _ _=>?_)|refine zHg ?_|refine stepK_is rfl (hv) (by simp) ?_|(fail_if_success with_reducible refine Owe.mk ?_);(simp(disch:=omega) [go_sem]))
   refine awp_for [1,2,4,7,38] [7,900,9] (fun y:Nat×List Tm=> [(39,nt .i64 y.1)]) (fun y:Nat×List Tm=>(7,⟨false,false,false,2,[.agg [.sc (.string n),if y.2.length=0 then .list false true []else .ref 900 0 y.2.length]],0⟩)::(if y.2.length=0 then[]else[(900,⟨true,false,false,2,y.2.map eTm,0⟩)])) (fun y:Nat×List Tm=>ts.length - y.1) (fun y:Nat×List Tm=>y.1≤ts.length∧y.2.length=y.1∧inzA s (ts.drop y.1) y.2=some l) ((0,[])) (Le.sub4 rfl (by simp[go_sem])) ⟨?_⟩ ?_
   ·exact⟨Nat.zero_le _,rfl,by unfold inzA;rw[List.drop_zero,hG];rfl⟩
   intro⟨i,a⟩ ⟨hi,ha,hinv⟩ AA hAA;simp only[kL,Nat.reduceBEq,Nat.reduceEqDiff,if_true,if_false,List.cons_append,List.nil_append,List.append_nil]
   dsimp only at*
   by_cases hlt:i<ts.length
   ·have hu:=ih _ (List.getElem_mem hlt) (ho _ (List.getElem_mem hlt))
    rw[List.drop_eq_getElem_cons hlt,inzA_cons]at hinv
    generalize inzT ts[i] s=x at*
    obtain⟨x,b⟩:=x
    dsimp only at*
    cases b
    ·cases hinv
    ·by_cases h0:i=0
     ·subst h0
      obtain rfl:=List.eq_nil_of_length_eq_zero ha
      repeat' (first|(refine awK fun _ _=>?_)|refine zHg ?_|refine stepK_is rfl (hu) (by simp) ?_|refine(hAA.next ((0+1,[x])) (Le.renSub [(59,900)] [(900,59)] (by simp[go_sem]) (by simp[go_sem]) (Le.sub4 rfl (by simp[go_sem]))) (by(try dsimp only);omega) ?_)|(fail_if_success with_reducible refine Owe.mk ?_);(simp(disch:=omega) [go_sem,hlt]))
      all_goals(first|omega|skip)
      exact⟨hlt,rfl,hinv⟩
     ·repeat' (first|(refine awK fun _ _=>?_)|refine zHg ?_|refine stepK_is rfl (hu) (by simp) ?_|refine(hAA.next ((i+1,a++ [x])) (Le.sub4 rfl (by simp[go_sem,ha])) (by(try dsimp only);omega) ?_)|(fail_if_success with_reducible refine Owe.mk ?_);(simp(disch:=omega) [go_sem,hlt,h0,ha])|refine zAo ?_)
      all_goals(first|omega|skip)
      exact⟨hlt,by simp[ha],hinv⟩
   ·obtain rfl:i=ts.length:=by omega
    rw[List.drop_length]at hinv
    simp only[inzA,inzL_nil,Option.map_some,List.append_nil,Option.some.injEq]at hinv
    subst hinv
    by_cases h0:ts.length=0
    ·obtain rfl:=List.eq_nil_of_length_eq_zero (ha.trans h0)
     repeat' (first|(refine awK fun _ _=>?_)|refine zHg ?_|refine end_ret [] ?_;simp[go_sem,h0]|(fail_if_success with_reducible refine Owe.mk ?_);(simp(disch:=omega) [go_sem,h0]))
    ·repeat' (first|(refine awK fun _ _=>?_)|refine zHg ?_|refine end_ret [] ?_;simp[go_sem,h0,ha]|(fail_if_success with_reducible refine Owe.mk ?_);(simp(disch:=omega) [go_sem,h0,ha]))
 ·rw[hU]at hv
  simp only[if_true]
  clear ih ho
  generalize hR:inzV (.mk n ts) (lookB s n)=R
  refine ACall.bound (i:=1) rfl Tryz.call91 fun hb=>?_
  rw[List.length_map]at hb
  have hb:s.length≤140737488355328:=hb
  refine acall_of_awp Tryz.func91 Tryz.call91 rfl (by simp[Tryz.ntmps91]) ?_;simp only[Tryz.ntmps91,Tryz.results91]
  repeat' (first|(refine awK fun _ _=>?_)|refine zHg ?_|refine stepK_is rfl (hv) (by simp) ?_|(fail_if_success with_reducible refine Owe.mk ?_);(simp(disch:=omega) [go_sem]))
  refine awp_for [1,2,4,14] [] (fun i:Nat=> [(15,nt .i64 i)]) (fun i:Nat=> []) (fun i:Nat=>s.length - i) (fun i:Nat=>i≤s.length∧ ∀(k:Nat) (hk:k<s.length),k<i→ ¬s[k].v=n) (0) (Le.sub4 rfl (by simp[go_sem])) ⟨?_⟩ ?_
  ·exact⟨Nat.zero_le _,fun k _ hk=>absurd hk (Nat.not_lt_zero _)⟩
  intro i ⟨hi,hn⟩ AA hAA;simp only[kL,Nat.reduceBEq,Nat.reduceEqDiff,if_true,if_false,List.cons_append,List.nil_append,List.append_nil]
  by_cases hlt:i<s.length
  ·by_cases hq:s[i].v=n
   ·rw[lookB_at hlt hq hn]at hR
    subst hR
    repeat' (first|(refine awK fun _ _=>?_)|refine zHg ?_|refine end_ret [] ?_;simp[go_sem,hlt,hq,inzV]|(fail_if_success with_reducible refine Owe.mk ?_);(simp(disch:=omega) [go_sem,hlt,hq,inzV])|refine zDr 8 mix ?_)
   ·repeat' (first|(refine awK fun _ _=>?_)|refine zHg ?_|refine(hAA.next (i+1) (Le.sub4 rfl (by simp[go_sem])) (by(try dsimp only);omega) ?_)|(fail_if_success with_reducible refine Owe.mk ?_);(simp(disch:=omega) [go_sem,hlt,hq])|refine zDr 8 mix ?_)
    all_goals(first|omega|skip)
    exact⟨hlt,fun k hk hki=>by rcases Nat.lt_or_eq_of_le (Nat.le_of_lt_succ hki)with h|rfl;exact hn k hk h;exact hq⟩
  ·obtain rfl:i=s.length:=by omega
   rw[lookB_none hn]at hR
   subst hR
   repeat' (first|(refine awK fun _ _=>?_)|refine zHg ?_|refine end_ret [] ?_;simp[go_sem,inzV]|(fail_if_success with_reducible refine Owe.mk ?_);(simp(disch:=omega) [go_sem,inzV]))
theorem variable_ok (n:ByteArray) (ts:List Tm):ACall Tryz.prog 159 [eT (.mk n ts)] (fun r=>r=bl (decide (ts.length=0∧varS n=true))):=by
 have h1:=Variable_ok n
 by_cases h0:ts.length=0
 ·have e:decide (ts.length=0∧varS n=true)=varS n:=by simp[h0]
  rw[e]
  generalize varS n=a at*
  refine acall_of_awp Tryz.func159 Tryz.call159 rfl (by simp[Tryz.ntmps159]) ?_;simp only[Tryz.ntmps159,Tryz.results159]
  repeat' (first|(refine awK fun _ _=>?_)|refine zHg ?_|refine end_ret [] ?_;simp[go_sem,h0]|refine stepK_is rfl (h1) (by simp) ?_|(fail_if_success with_reducible refine Owe.mk ?_);(simp(disch:=omega) [go_sem,h0]))
 ·have e:decide (ts.length=0∧varS n=true)=false:=by simp[h0]
  rw[e]
  refine acall_of_awp Tryz.func159 Tryz.call159 rfl (by simp[Tryz.ntmps159]) ?_;simp only[Tryz.ntmps159,Tryz.results159]
  repeat' (first|(refine awK fun _ _=>?_)|refine zHg ?_|refine end_ret [] ?_;simp[go_sem,h0]|(fail_if_success with_reducible refine Owe.mk ?_);(simp(disch:=omega) [go_sem,h0]))
theorem Clone_ok: ∀t:Tm,t.size≤1000000→ACall Tryz.prog 124 [eT t] (fun r=>r=eT t):=by
 refine tm_ind fun t ih hsz=>?_
 obtain⟨n,ts⟩:=t
 simp only[args_mk]at ih
 rw[size_eq,args_mk]at hsz
 have hlen:=length_le_sizeL ts
 have ih': ∀(i:Nat) (h:i<ts.length),ACall Tryz.prog 124 [eT ts[i]] (fun r=>r=eT ts[i]):=fun i h=>ih _ (List.getElem_mem h) (by have:=size_get h;omega)
 clear ih
 refine ACall.loose (x:= .agg [.sc (.string n),.list false (decide (ts.length=0)) (ts.map eTm)]) rfl ?_
 refine acall_of_awp Tryz.func124 Tryz.call124 rfl (by simp[Tryz.ntmps124]) ?_;simp only[Tryz.ntmps124,Tryz.results124]
 repeat' (first|(refine awK fun _ _=>?_)|refine zHg ?_|(fail_if_success with_reducible refine Owe.mk ?_);(simp(disch:=omega) [go_sem]))
 refine awp_for [2,3,10,11] [3,900,5] (fun y:Nat×List Tm=> [(12,nt .i64 y.1)]) (fun y:Nat×List Tm=>(3,⟨false,false,false,2,[.agg [.sc (.string n),if y.2.length=0 then .list false true []else .ref 900 0 y.2.length]],0⟩)::(if y.2.length=0 then[]else[(900,⟨true,false,false,2,y.2.map eTm,0⟩)])) (fun y:Nat×List Tm=>ts.length - y.1) (fun y:Nat×List Tm=>y.1≤ts.length∧y.2.length=y.1∧y.2++ts.drop y.1=ts) ((0,[])) (Le.sub4 rfl (by simp[go_sem])) ⟨?_⟩ ?_
 ·exact⟨Nat.zero_le _,rfl,rfl⟩
 intro⟨i,a⟩ ⟨hi,ha,hinv⟩ AA hAA;simp only[kL,Nat.reduceBEq,Nat.reduceEqDiff,if_true,if_false,List.cons_append,List.nil_append,List.append_nil]
 dsimp only at*
 by_cases hlt:i<ts.length
 ·have hu:=ih' i hlt
  rw[List.drop_eq_getElem_cons hlt]at hinv
  by_cases h0:i=0
  ·subst h0
   obtain rfl:=List.eq_nil_of_length_eq_zero ha
   repeat' (first|(refine awK fun _ _=>?_)|refine zHg ?_|refine dstepK_is rfl (hu) rfl (by simp) ?_|refine(hAA.next ((0+1,[ts[0]])) (Le.renSub [(21,900)] [(900,21)] (by simp[go_sem]) (by simp[go_sem]) (Le.sub4 rfl (by simp[go_sem]))) (by(try dsimp only);omega) ?_)|(fail_if_success with_reducible refine Owe.mk ?_);(simp(disch:=omega) [go_sem,hlt])|refine zDr 4 mix ?_)
   all_goals(first|omega|skip)
   all_goals exact⟨hlt,rfl,hinv⟩
  ·repeat' (first|(refine awK fun _ _=>?_)|refine zHg ?_|refine dstepK_is rfl (hu) rfl (by simp) ?_|refine(hAA.next ((i+1,a++ [ts[i]])) (Le.sub4 rfl (by simp[go_sem,ha])) (by(try dsimp only);omega) ?_)|(fail_if_success with_reducible refine Owe.mk ?_);(simp(disch:=omega) [go_sem,hlt,h0,ha])|refine zAo ?_|refine zDr 4 mix ?_)
   all_goals(first|omega|skip)
   all_goals exact⟨hlt,by simp[ha],by rw[List.append_assoc];exact hinv⟩
 ·obtain rfl:i=ts.length:=by omega
  rw[List.drop_length,List.append_nil]at hinv
  subst hinv
  clear ih'
  by_cases h0:a.length=0
  ·obtain rfl:=List.eq_nil_of_length_eq_zero h0
   repeat' (first|(refine awK fun _ _=>?_)|refine zHg ?_|refine end_ret [] ?_;simp[go_sem]|(fail_if_success with_reducible refine Owe.mk ?_);(simp(disch:=omega) [go_sem]))
  ·repeat' (first|(refine awK fun _ _=>?_)|refine zHg ?_|refine end_ret [] ?_;simp[go_sem,h0]|(fail_if_success with_reducible refine Owe.mk ?_);(simp(disch:=omega) [go_sem,h0]))
def AscB (s:List Bd):Prop:=s.Pairwise fun a b=>strC a.v b.v<0
theorem ascB_cut (v:ByteArray): ∀{s:List Bd},AscB s→ ∃c,c≤s.length∧(∀(k:Nat) (hk:k<s.length),k<c→strC s[k].v v<0)∧(∀(k:Nat) (hk:k<s.length),c≤k→0≤strC s[k].v v)
 | [],_=>⟨0,Nat.le_refl _,fun k hk=>absurd hk (Nat.not_lt_zero _),fun k hk=>absurd hk (Nat.not_lt_zero _)⟩
 |b::r,h=>by
  obtain⟨h1,h2⟩:=List.pairwise_cons.1 h
  by_cases hb:strC b.v v<0
  ·obtain⟨c,c1,c2,c3⟩:=ascB_cut v h2
   refine⟨c+1,by simp;omega,fun k hk hkc=>?_,fun k hk hkc=>?_⟩
   ·cases k with
    |zero=>exact hb
    |succ k=>exact c2 k (by simpa using hk) (by omega)
   ·cases k with
    |zero=>omega
    |succ k=>exact c3 k (by simpa using hk) (by omega)
  ·refine⟨0,Nat.zero_le _,fun k _ hk=>absurd hk (Nat.not_lt_zero _),fun k hk _=>?_⟩
   cases k with
   |zero=>exact Int.not_lt.1 hb
   |succ k=>
    have hk':k<r.length:=by simpa using hk
    have h3:=h1 r[k] (List.getElem_mem hk')
    refine Int.not_lt.1 fun h4=>?_
    have:=tot_S.lt_le h3 (Int.le_of_lt h4)
    exact hb this
theorem lookB_cut {v:ByteArray} {s:List Bd} {c:Nat} (hs:AscB s) (h1: ∀(k:Nat) (hk:k<s.length),k<c→strC s[k].v v<0) (h2: ∀(k:Nat) (hk:k<s.length),c≤k→0≤strC s[k].v v):
 (∃h:c<s.length,strC s[c].v v=0∧lookB s v=some s[c].t)∨((∀h:c<s.length,strC s[c].v v≠0)∧lookB s v=none):=by
 have hne: ∀(k:Nat) (hk:k<s.length),k<c→ ¬s[k].v=v:=fun k hk hkc e=>by
  have:=h1 k hk hkc
  rw[e,tot_S.self]at this;omega
 by_cases hc: ∃h:c<s.length,strC s[c].v v=0
 ·obtain⟨h,e⟩:=hc
  exact .inl ⟨h,e,lookB_at h (strC_zero.1 e) hne⟩
 ·refine .inr ⟨fun h e=>hc ⟨h,e⟩,lookB_none fun k hk _ e=>?_⟩
  by_cases hkc:k<c
  ·exact hne k hk hkc e
  ·by_cases hk2:k=c
   ·subst hk2;exact hc ⟨hk,strC_zero.2 e⟩
   ·have h3:=List.pairwise_iff_getElem.1 hs c k (by omega) hk (by omega)
    rw[e]at h3
    have:=h2 c (by omega) (Nat.le_refl _)
    omega
theorem bcmp_ok (b:Bd) (v:ByteArray):ACall Tryz.prog 161 [eBd b,.sc (.string v)] (fun r=>r=nt .i64 (strC b.v v)):=by
 have h:=strCompare_ok b.v v
 refine acall_of_awp Tryz.func161 Tryz.call161 rfl (by simp[Tryz.ntmps161]) ?_;simp only[Tryz.ntmps161,Tryz.results161]
 repeat' (first|(refine awK fun _ _=>?_)|refine zHg ?_|refine end_ret [] ?_;simp[go_sem]|refine stepK_is rfl (h) (by simp) ?_|(fail_if_success with_reducible refine Owe.mk ?_);(simp(disch:=omega) [go_sem]))
theorem BSbind_ok (l:List Bd) (le fu:Bool) (v:ByteArray) (cf:Bd→Int) (hcmp: ∀r∈l,ACall Tryz.prog 161 [eBd r,.sc (.string v)] (fun x=>x=nt .i64 (cf r))) (c:Nat) (hc:c≤l.length)
 (h1: ∀(k:Nat) (hk:k<l.length),k<c→cf l[k]<0) (h2: ∀(k:Nat) (hk:k<l.length),c≤k→0≤cf l[k]):
 ACall Tryz.prog 160 [.list le fu (l.map eBd),.sc (.string v),.clo 161 []] (fun x=>x= .tup [nt .i64 c,bl (match l[c]? with
  |some r=>decide (cf r=0)
  |none=>false)]):=by
 refine ACall.bound (i:=0) rfl Tryz.call160 fun hb=>?_
 rw[List.length_map]at hb
 have hb:l.length≤140737488355328:=hb
 generalize hR:(match l[c]? with
  |some r=>decide (cf r=0)
  |none=>false)=R
 refine acall_of_awp Tryz.func160 Tryz.call160 rfl (by simp[Tryz.ntmps160]) ?_;simp only[Tryz.ntmps160,Tryz.results160]
 repeat' (first|(refine awK fun _ _=>?_)|refine zHg ?_|(fail_if_success with_reducible refine Owe.mk ?_);(simp(disch:=omega) [go_sem]))
 refine awp_for [0,1,2,8] [] (fun x:Nat×Nat=> [(9,nt .i64 x.1),(10,nt .i64 x.2)]) (fun x:Nat×Nat=> []) (fun x:Nat×Nat=>x.2 - x.1) (fun x:Nat×Nat=>x.1≤c∧c≤x.2∧x.2≤l.length) ((0,l.length)) (Le.sub4 rfl (by simp[go_sem])) ⟨?_⟩ ?_
 ·exact⟨Nat.zero_le _,hc,Nat.le_refl _⟩
 intro⟨i,j⟩ ⟨hi,hj,hl⟩ AA hAA;simp only[kL,Nat.reduceBEq,Nat.reduceEqDiff,if_true,if_false,List.cons_append,List.nil_append,List.append_nil]
 dsimp only at*
 by_cases hij:i<j
 ·obtain⟨m,hm⟩: ∃m,m=(i+j) / 2:=⟨_,rfl⟩
  have hm':((i:Int)+j).fdiv 2=(m:Int):=by rw[Int.fdiv_eq_ediv_of_nonneg _ (by decide)];omega
  have hm2:((i:Int)+j) / 2=(m:Int):=by omega
  have hml:m<l.length:=by omega
  have hu:=hcmp l[m] (List.getElem_mem hml)
  try unfold eBd at hu
  by_cases hq:cf l[m]<0
  ·have hlt:m<c:=Nat.lt_of_not_le fun hh=>by have:=h2 m hml hh;omega
   repeat' (first|(refine awK fun _ _=>?_)|refine zHg ?_|refine zqd ?_ ?_<;>(intro h;first|(exfalso;omega)|(simp only[h,zT]))|refine stepK_is rfl (hu) (by simp) ?_|refine(hAA.next ((m+1,j)) (Le.sub4 rfl (by simp[go_sem])) (by(try dsimp only);omega) ?_)|(fail_if_success with_reducible refine Owe.mk ?_);(simp(disch:=omega) [go_sem,eBd,hml,hm',hm2]))
   exact⟨⟨by omega,hj,hl⟩⟩
  ·have hge:c≤m:=Nat.le_of_not_lt fun hh=>hq (h1 m hml hh)
   repeat' (first|(refine awK fun _ _=>?_)|refine zHg ?_|refine zqd ?_ ?_<;>(intro h;first|(exfalso;omega)|(simp only[h,zT]))|refine stepK_is rfl (hu) (by simp) ?_|refine(hAA.next ((i,m)) (Le.sub4 rfl (by simp[go_sem])) (by(try dsimp only);omega) ?_)|(fail_if_success with_reducible refine Owe.mk ?_);(simp(disch:=omega) [go_sem,eBd,hml,hm',hm2]))
   exact⟨⟨hi,hge,by omega⟩⟩
 ·obtain rfl:i=c:=by omega
  obtain rfl:j=i:=by omega
  by_cases hcl:j<l.length
  ·have hu:=hcmp l[j] (List.getElem_mem hcl)
   try unfold eBd at hu
   rw[List.getElem?_eq_getElem hcl]at hR
   dsimp only at hR
   subst hR
   repeat' (first|(refine awK fun _ _=>?_)|refine zHg ?_|refine end_ret [] ?_;simp[go_sem,eBd,hcl]|refine stepK_is rfl (hu) (by simp) ?_|(fail_if_success with_reducible refine Owe.mk ?_);(simp(disch:=omega) [go_sem,eBd,hcl]))
  ·rw[List.getElem?_eq_none (by omega)]at hR
   dsimp only at hR
   subst hR
   repeat' (first|(refine awK fun _ _=>?_)|refine zHg ?_|refine end_ret [] ?_;simp[go_sem,eBd,hcl]|(fail_if_success with_reducible refine Owe.mk ?_);(simp(disch:=omega) [go_sem,eBd,hcl]))
def lkT (s:List Bd) (v:ByteArray):Tm×Bool:=match lookB s v with
 |some t=>(t,true)
 |none=>(.mk ⟨#[]⟩ [],false)
theorem search_ok (s:List Bd) (v:ByteArray) (le fu:Bool) (c:Nat) (hc:c≤s.length) (h1: ∀(k:Nat) (hk:k<s.length),k<c→strC s[k].v v<0) (h2: ∀(k:Nat) (hk:k<s.length),c≤k→0≤strC s[k].v v):
 ACall Tryz.prog 123 [.list le fu (s.map eBd),.sc (.string v)] (fun r=>r= .tup [nt .i64 c,bl (match s[c]? with
  |some b=>decide (strC b.v v=0)
  |none=>false)]):=by
 have h:=BSbind_ok s le fu v (fun b=>strC b.v v) (fun b _=>bcmp_ok b v) c hc h1 h2
 generalize(match s[c]? with
  |some b=>decide (strC b.v v=0)
  |none=>false)=R at*
 refine acall_of_awp Tryz.func123 Tryz.call123 rfl (by simp[Tryz.ntmps123]) ?_;simp only[Tryz.ntmps123,Tryz.results123]
 repeat' (first|(refine awK fun _ _=>?_)|refine zHg ?_|refine end_ret [] ?_;simp[go_sem]|refine stepK_is rfl (h) (by simp) ?_|(fail_if_success with_reducible refine Owe.mk ?_);(simp(disch:=omega) [go_sem]))
theorem Lookup_ok (s:List Bd) (v:ByteArray) (le fu:Bool) (hs:AscB s) (hz: ∀b∈s,b.t.size≤1000000):ACall Tryz.prog 81 [.list le fu (s.map eBd),.sc (.string v)] (fun r=>r= .tup [eT (lkT s v).1,bl (lkT s v).2]):=by
 obtain⟨c,hc,h1,h2⟩:=ascB_cut v hs
 have h:=search_ok s v le fu c hc h1 h2
 unfold lkT
 rcases lookB_cut hs h1 h2 with⟨hcl,e1,e2⟩|⟨e1,e2⟩
 ·rw[e2]
  have hcn:=Clone_ok s[c].t (hz _ (List.getElem_mem hcl))
  rw[List.getElem?_eq_getElem hcl]at h
  dsimp only at h
  rw[decide_eq_true e1]at h
  clear e1 e2 h1 h2 hz hs
  refine acall_of_awp Tryz.func81 Tryz.call81 rfl (by simp[Tryz.ntmps81]) ?_;simp only[Tryz.ntmps81,Tryz.results81]
  repeat' (first|(refine awK fun _ _=>?_)|refine zHg ?_|refine end_ret [] ?_;simp[go_sem,hcl]|refine stepK_is rfl (h) (by simp) ?_|refine stepK_is rfl (hcn) (by simp) ?_|(fail_if_success with_reducible refine Owe.mk ?_);(simp(disch:=omega) [go_sem,hcl]))
 ·rw[e2]
  have h':ACall Tryz.prog 123 [.list le fu (s.map eBd),.sc (.string v)] (fun r=>r= .tup [nt .i64 c,bl false]):=by
   by_cases hcl:c<s.length
   ·rw[List.getElem?_eq_getElem hcl]at h
    dsimp only at h
    rw[decide_eq_false (e1 hcl)]at h
    exact h
   ·rw[List.getElem?_eq_none (by omega)]at h
    exact h
  clear e1 e2 h1 h2 h hz hs
  refine ACall.looseT (x:= .agg [.sc (.string ⟨#[]⟩),.list false true []]) rfl ?_
  refine acall_of_awp Tryz.func81 Tryz.call81 rfl (by simp[Tryz.ntmps81]) ?_;simp only[Tryz.ntmps81,Tryz.results81]
  repeat' (first|(refine awK fun _ _=>?_)|refine zHg ?_|refine end_ret [] ?_;simp[go_sem]|refine stepK_is rfl (h') (by simp) ?_|(fail_if_success with_reducible refine Owe.mk ?_);(simp(disch:=omega) [go_sem]))
theorem by_ok (s:List Bd) (v:ByteArray) (le fu:Bool) (hs:AscB s) (hz: ∀b∈s,b.t.size≤1000000):ACall Tryz.prog 80 [.sc (.string v),.iptr true [.list le fu (s.map eBd)] 0 0] (fun r=>r= .tup [eT (lkT s v).1,bl (lkT s v).2]):=by
 have h:=Lookup_ok s v le fu hs hz
 generalize lkT s v=q at*
 obtain⟨t,b⟩:=q
 dsimp only at*
 refine acall_of_awp Tryz.func80 Tryz.call80 rfl (by simp[Tryz.ntmps80]) ?_;simp only[Tryz.ntmps80,Tryz.results80]
 repeat' (first|(refine awK fun _ _=>?_)|refine zHg ?_|refine end_ret [] ?_;simp[go_sem]|refine stepK_is rfl (h) (by simp) ?_|(fail_if_success with_reducible refine Owe.mk ?_);(simp(disch:=omega) [go_sem]))
theorem replaced_ok (s:List Bd) (le fu:Bool) (hs:AscB s) (hz: ∀b∈s,b.t.size≤1000000): ∀t:Tm,t.size≤1000000→ACall Tryz.prog 122 [eT t,.clo 80 [.iptr true [.list le fu (s.map eBd)] 0 0]] (fun r=>r=eT (apT s t)):=by
 refine tm_ind fun t ih hsz=>?_
 obtain⟨n,ts⟩:=t
 simp only[args_mk]at ih
 rw[size_eq,args_mk]at hsz
 have hlen:=length_le_sizeL ts
 have ih': ∀(i:Nat) (h:i<ts.length),ACall Tryz.prog 122 [eT ts[i],.clo 80 [.iptr true [.list le fu (s.map eBd)] 0 0]] (fun r=>r=eT (apT s ts[i])):=fun i h=>ih _ (List.getElem_mem h) (by have:=size_get h;omega)
 clear ih
 have hv:=variable_ok n ts
 have hb:=by_ok s n le fu hs hz
 rw[apT_mk]
 by_cases hvar:ts.length=0∧varS n=true
 ·rw[if_pos hvar]
  rw[decide_eq_true hvar]at hv
  obtain rfl:=List.eq_nil_of_length_eq_zero hvar.1
  unfold lkT at hb
  cases hq:lookB s n with
  |some t=>
   rw[hq]at hb
   dsimp only at hb
   show ACall _ _ _ (fun r=>r=eT t)
   clear ih' hlen hsz hvar hs hz hq
   refine acall_of_awp Tryz.func122 Tryz.call122 rfl (by simp[Tryz.ntmps122]) ?_;simp only[Tryz.ntmps122,Tryz.results122]
   repeat' (first|(refine awK fun _ _=>?_)|refine zHg ?_|refine end_ret [] ?_;simp[go_sem]|refine stepK_is rfl (hv) (by simp) ?_|refine stepK_is rfl (hb) (by simp) ?_|(fail_if_success with_reducible refine Owe.mk ?_);(simp(disch:=omega) [go_sem]))
  |none=>
   rw[hq]at hb
   dsimp only at hb
   show ACall _ _ _ (fun r=>r=eT (.mk n []))
   clear ih' hlen hsz hvar hs hz hq
   refine ACall.loose (x:= .agg [.sc (.string n),.list false true []]) rfl ?_
   refine acall_of_awp Tryz.func122 Tryz.call122 rfl (by simp[Tryz.ntmps122]) ?_;simp only[Tryz.ntmps122,Tryz.results122]
   repeat' (first|(refine awK fun _ _=>?_)|refine zHg ?_|refine stepK_is rfl (hv) (by simp) ?_|refine stepK_is rfl (hb) (by simp) ?_|(fail_if_success with_reducible refine Owe.mk ?_);(simp(disch:=omega) [go_sem]))
   refine awp_for [1,4,7,25,26] [7,5] (fun i:Nat=> [(27,nt .i64 i)]) (fun i:Nat=>(7,⟨false,false,false,2,[.agg [.sc (.string n),.list false true []]],0⟩):: []) (fun i:Nat=>0) (fun i:Nat=>i=0) (0) (Le.sub4 rfl (by simp[go_sem])) ⟨?_⟩ ?_
   ·rfl
   intro i rfl AA hAA;simp only[kL,Nat.reduceBEq,Nat.reduceEqDiff,if_true,if_false,List.cons_append,List.nil_append,List.append_nil]
   repeat' (first|(refine awK fun _ _=>?_)|refine zHg ?_|refine end_ret [] ?_;simp[go_sem]|(fail_if_success with_reducible refine Owe.mk ?_);(simp(disch:=omega) [go_sem]))
 ·rw[if_neg hvar]
  rw[decide_eq_false hvar]at hv
  clear hb hvar hs hz
  refine ACall.loose (x:= .agg [.sc (.string n),.list false (decide (ts.length=0)) ((ts.map (apT s)).map eTm)]) rfl ?_
  generalize hL:ts.map (apT s)=L at*
  have hLl:L.length=ts.length:=by rw[←hL,List.length_map]
  have ih2: ∀(i:Nat) (h:i<ts.length),∃x,ACall Tryz.prog 122 [eT ts[i],.clo 80 [.iptr true [.list le fu (s.map eBd)] 0 0]] (fun r=>r=eT x)∧L.drop i=x::L.drop (i+1):=fun i h=>⟨_,ih' i h,by
   have h':i<L.length:=by omega
   rw[List.drop_eq_getElem_cons h']
   congr 1
   subst hL
   rw[List.getElem_map]⟩
  clear ih' hL
  refine acall_of_awp Tryz.func122 Tryz.call122 rfl (by simp[Tryz.ntmps122]) ?_;simp only[Tryz.ntmps122,Tryz.results122]
  repeat' (first|(refine awK fun _ _=>?_)|refine zHg ?_|refine stepK_is rfl (hv) (by simp) ?_|(fail_if_success with_reducible refine Owe.mk ?_);(simp(disch:=omega) [go_sem]))
  refine awp_for [1,4,7,25,26] [7,900,9] (fun y:Nat×List Tm=> [(27,nt .i64 y.1)]) (fun y:Nat×List Tm=>(7,⟨false,false,false,2,[.agg [.sc (.string n),if y.2.length=0 then .list false true []else .ref 900 0 y.2.length]],0⟩)::(if y.2.length=0 then[]else[(900,⟨true,false,false,2,y.2.map eTm,0⟩)])) (fun y:Nat×List Tm=>ts.length - y.1) (fun y:Nat×List Tm=>y.1≤ts.length∧y.2.length=y.1∧y.2++L.drop y.1=L) ((0,[])) (Le.sub4 rfl (by simp[go_sem])) ⟨?_⟩ ?_
  ·exact⟨Nat.zero_le _,rfl,rfl⟩
  intro⟨i,a⟩ ⟨hi,ha,hinv⟩ AA hAA;simp only[kL,Nat.reduceBEq,Nat.reduceEqDiff,if_true,if_false,List.cons_append,List.nil_append,List.append_nil]
  dsimp only at*
  by_cases hlt:i<ts.length
  ·obtain⟨x,hu,hd⟩:=ih2 i hlt
   rw[hd]at hinv
   clear ih2 hd
   by_cases h0:i=0
   ·subst h0
    obtain rfl:=List.eq_nil_of_length_eq_zero ha
    repeat' (first|(refine awK fun _ _=>?_)|refine zHg ?_|refine dstepK_is rfl (hu) rfl (by simp) ?_|refine(hAA.next ((0+1,[x])) (Le.renSub [(37,900)] [(900,37)] (by simp[go_sem]) (by simp[go_sem]) (Le.sub4 rfl (by simp[go_sem]))) (by(try dsimp only);omega) ?_)|(fail_if_success with_reducible refine Owe.mk ?_);(simp(disch:=omega) [go_sem,hlt])|refine zDr 5 mix ?_)
    all_goals(first|omega|skip)
    all_goals exact⟨hlt,rfl,hinv⟩
   ·repeat' (first|(refine awK fun _ _=>?_)|refine zHg ?_|refine dstepK_is rfl (hu) rfl (by simp) ?_|refine(hAA.next ((i+1,a++ [x])) (Le.sub4 rfl (by simp[go_sem,ha])) (by(try dsimp only);omega) ?_)|(fail_if_success with_reducible refine Owe.mk ?_);(simp(disch:=omega) [go_sem,hlt,h0,ha])|refine zAo ?_|refine zDr 5 mix ?_)
    all_goals(first|omega|skip)
    all_goals exact⟨hlt,by simp[ha],by rw[List.append_assoc];exact hinv⟩
  ·obtain rfl:i=ts.length:=by omega
   rw[←hLl,List.drop_length,List.append_nil]at hinv
   subst hinv
   clear ih2
   by_cases h0:ts.length=0
   ·obtain rfl:=List.eq_nil_of_length_eq_zero (hLl.trans h0)
    repeat' (first|(refine awK fun _ _=>?_)|refine zHg ?_|refine end_ret [] ?_;simp[go_sem,h0]|(fail_if_success with_reducible refine Owe.mk ?_);(simp(disch:=omega) [go_sem,h0]))
   ·repeat' (first|(refine awK fun _ _=>?_)|refine zHg ?_|refine end_ret [] ?_;simp[go_sem,h0,ha]|(fail_if_success with_reducible refine Owe.mk ?_);(simp(disch:=omega) [go_sem,h0,ha]))
end Go.Proofs.YtkbglbcphjmiiaaGreatDoor
