import Derived.Test.YtkbglbcphjmiiaaGreatDoorS7
import Derived.Test.YtkbglbcphjmiiaaGreatDoorS8
set_option linter.unusedSimpArgs false
set_option linter.unusedVariables false
namespace Go.Proofs.YtkbglbcphjmiiaaGreatDoor
open Go.Ab
set_option maxRecDepth 100000
set_option maxHeartbeats 16000000
def bRl:Option Rl→Rl
 |none=>⟨.mk ⟨#[]⟩ [],[]⟩
 |some b=>b
abbrev bestV (B:Option Rl):AV:= .agg [.sc (.string (bRl B).head.name),.list false B.isNone ((bRl B).head.args.map eTm),.list false B.isNone ((bRl B).body.map eLt)]
abbrev bxO (es:Nat) (x:AV):AObj:=⟨false,false,true,es,[x],0⟩
abbrev stO (l:List ByteArray):AObj:=⟨true,false,true,1,l.map eStr,0⟩
abbrev doO (r:Rl) (vs l:List ByteArray) (B:Option Rl):Objs:= [(1101,stO l),(1102,bxO 1 (.ref 1106 0 vs.length)),(1103,bxO 3 (eRl r)),(1104,bxO 1 (bl B.isNone)),(1105,bxO 3 (bestV B)),(1106,stO vs)]
def pickB (x:Rl):Option Rl→Rl
 |none=>x
 |some b=>if rlC x b<0 then x else b
theorem sbl_len {vs l:List ByteArray} (h:vs.length=l.length):(sbl vs l).length=l.length:=by
 unfold sbl;rw[List.length_zipWith];omega
theorem sbl_next {vs l:List ByteArray} {i:Nat} (h:i<vs.length) (h':i<l.length):(sbl vs l).take (i+1)=(sbl vs l).take i++ [⟨vs[i],.mk l[i] []⟩]:=by
 have hl:i<(sbl vs l).length:=by unfold sbl;rw[List.length_zipWith];omega
 rw[take_next hl]
 congr 2
 simp[sbl]
theorem sbl_asc: ∀{vs l:List ByteArray},AscG strC vs→AscB (sbl vs l)
 | [],_,_=>List.Pairwise.nil
 |_::_,[],_=>List.Pairwise.nil
 |v::vs,n::l,h=>by
  obtain⟨h1,h2⟩:=List.pairwise_cons.1 h
  rw[sbl_cons]
  refine List.pairwise_cons.2 ⟨fun b hb=>?_,sbl_asc h2⟩
  obtain⟨i,hi,rfl⟩:=List.mem_iff_getElem.1 hb
  unfold sbl at hi ⊢
  rw[List.getElem_zipWith]
  exact h1 _ (List.getElem_mem _)
theorem sbl_size {vs l:List ByteArray}: ∀b∈sbl vs l,b.t.size≤1000000:=by
 intro b hb
 have:=sbl_args b hb
 rw[size_eq,this]
 decide
theorem seg_app {α:Type} {A B:List α} {n:Nat} (h:A.length=n):seg (A++B) 0 n=A:=by
 subst h
 unfold seg
 split
 ·rename_i h
  have:B= []:=List.eq_nil_of_length_eq_zero (by have:=h.2;rw[List.length_append]at this;omega)
  rw[this,List.append_nil]
 ·rw[List.drop_zero,List.take_append_of_le_length (Nat.le_refl _),List.take_length]
theorem loose_eBd {L:List Bd}:(L.map eBd).map loose=L.map eBd:=by
 rw[List.map_map];rfl
theorem do00n_ok (r:Rl) (vs l:List ByteArray) (hvl:vs.length=l.length) (hlen:l.length≤5) (hvs:AscG strC vs) (hh:r.head.size≤1000000) (hb: ∀b∈r.body,b.atom.size≤1000000) (hl:r.body.length≤12) (hn:l.length=0) (hb0:r.body.length=0):
 MCall Tryz.prog 38 [.ref 1101 0 l.length,.ptr 1102 0 0,.ptr 1103 0 0,.ptr 1104 0 0,.ptr 1105 0 0] (doO r vs l none) (fun v o'=>v= .tup []∧o'=doO r vs l (some (cndR r vs l))):=by
 have hS:=sbl_asc (l:=l) hvs
 have hZ:=sbl_size (vs:=vs) (l:=l)
 obtain rfl:=List.eq_nil_of_length_eq_zero hn
 obtain rfl:=List.eq_nil_of_length_eq_zero hvl
 have hSn:sbl [] []= []:=rfl
 rw[hSn]at hS hZ
 unfold cndR at*
 rw[hSn]
 obtain⟨hT,bs⟩:=r
 dsimp only at hh hb hl hb0
 obtain rfl:=List.eq_nil_of_length_eq_zero hb0
 have h1:=ApplyRule0_ok [] true hS hZ hT hh
 have hx:tidyR (apR [] ⟨hT,[]⟩)=⟨apT [] hT,[]⟩:=rfl
 rw[hx]
 have h2:=sorted0_ok (apT [] hT)
 generalize apT [] hT=H at*
 clear hS hZ hx hb hh hSn hvs hn hlen hvl
 refine mcall_of_awpL Tryz.func38 Tryz.call38 rfl (by simp[Tryz.ntmps38]) ?_;simp only[Tryz.ntmps38,Tryz.results38]
 repeat' (first|(refine awK fun _ _=>?_)|refine zHg ?_|(fail_if_success with_reducible refine Owe.mk ?_);(simp(disch:=omega) [go_sem,doO,stO,bxO,bestV,bRl,eStr]))
 refine awp_for [0,2,3,4,10,11] [] (fun i:Nat=> [(12,nt .i64 (0:Nat)),(6,.list false true [])]) (fun i:Nat=> []) (fun i:Nat=>0) (fun i:Nat=>i=0) (0) (Le.sub4 rfl (by simp[go_sem,doO,stO,bxO,bestV,bRl,eStr])) ⟨?_⟩ ?_
 ·rfl
 intro i hi AA hAA;simp only[kL,Nat.reduceBEq,Nat.reduceEqDiff,if_true,if_false,List.cons_append,List.nil_append,List.append_nil]
 repeat' (first|(refine awK fun _ _=>?_)|refine zHg ?_|refine stepK_is rfl (h1) (by simp) ?_|refine stepK_is rfl (h2) (by simp) ?_|(fail_if_success with_reducible refine Owe.mk ?_);(simp(disch:=omega) [go_sem,doO,stO,bxO,bestV,bRl,eStr]))
 refine endL_normal ⟨40,[],doO ⟨hT,[]⟩ [] [] (some ⟨H,[]⟩)⟩ [] (Le.renSub [] [] (by simp[go_sem,doO,stO,bxO,bestV,bRl,eStr]) (by simp[go_sem,doO,stO,bxO,bestV,bRl,eStr]) (Le.sub4 rfl (by simp[go_sem,doO,stO,bxO,bestV,bRl,eStr]))) (by simp[go_sem,doO,stO,bxO,bestV,bRl,eStr]) ⟨rfl,rfl⟩
theorem do00l_ok (r:Rl) (vs l:List ByteArray) (hvl:vs.length=l.length) (hlen:l.length≤5) (hvs:AscG strC vs) (hh:r.head.size≤1000000) (hb: ∀b∈r.body,b.atom.size≤1000000) (hl:r.body.length≤12) (hn:l.length=0) (hb0:r.body.length=0) (b:Rl) (hq:rlC (cndR r vs l) b<0):
 MCall Tryz.prog 38 [.ref 1101 0 l.length,.ptr 1102 0 0,.ptr 1103 0 0,.ptr 1104 0 0,.ptr 1105 0 0] (doO r vs l (some b)) (fun v o'=>v= .tup []∧o'=doO r vs l (some (cndR r vs l))):=by
 have hS:=sbl_asc (l:=l) hvs
 have hZ:=sbl_size (vs:=vs) (l:=l)
 obtain rfl:=List.eq_nil_of_length_eq_zero hn
 obtain rfl:=List.eq_nil_of_length_eq_zero hvl
 have hSn:sbl [] []= []:=rfl
 rw[hSn]at hS hZ
 unfold cndR at*
 rw[hSn]at hq
 rw[hSn]
 obtain⟨hT,bs⟩:=r
 dsimp only at hh hb hl hb0
 obtain rfl:=List.eq_nil_of_length_eq_zero hb0
 have h1:=ApplyRule0_ok [] true hS hZ hT hh
 have hx:tidyR (apR [] ⟨hT,[]⟩)=⟨apT [] hT,[]⟩:=rfl
 rw[hx]at hq ⊢
 have h2:=sorted0_ok (apT [] hT)
 generalize apT [] hT=H at*
 have h3:ACall Tryz.prog 12 [eRl ⟨H,[]⟩,eRl b] (fun r=>r=nt .i64 (rlC ⟨H,[]⟩ b)):=cmpRl_ok _ b false false false false
 generalize rlC ⟨H,[]⟩ b=c at*
 clear hS hZ hx hb hh hSn hvs hn hlen hvl
 refine mcall_of_awpL Tryz.func38 Tryz.call38 rfl (by simp[Tryz.ntmps38]) ?_;simp only[Tryz.ntmps38,Tryz.results38]
 repeat' (first|(refine awK fun _ _=>?_)|refine zHg ?_|(fail_if_success with_reducible refine Owe.mk ?_);(simp(disch:=omega) [go_sem,doO,stO,bxO,bestV,bRl,eStr]))
 refine awp_for [0,2,3,4,10,11] [] (fun i:Nat=> [(12,nt .i64 (0:Nat)),(6,.list false true [])]) (fun i:Nat=> []) (fun i:Nat=>0) (fun i:Nat=>i=0) (0) (Le.sub4 rfl (by simp[go_sem,doO,stO,bxO,bestV,bRl,eStr])) ⟨?_⟩ ?_
 ·rfl
 intro i hi AA hAA;simp only[kL,Nat.reduceBEq,Nat.reduceEqDiff,if_true,if_false,List.cons_append,List.nil_append,List.append_nil]
 repeat' (first|(refine awK fun _ _=>?_)|refine zHg ?_|refine stepK_is rfl (h1) (by simp) ?_|refine stepK_is rfl (h2) (by simp) ?_|refine stepK_is rfl (h3) (by simp) ?_|(fail_if_success with_reducible refine Owe.mk ?_);(simp(disch:=omega) [go_sem,doO,stO,bxO,bestV,bRl,eStr,hq]))
 refine endL_normal ⟨40,[],doO ⟨hT,[]⟩ [] [] (some ⟨H,[]⟩)⟩ [] (Le.renSub [] [] (by simp[go_sem,doO,stO,bxO,bestV,bRl,eStr]) (by simp[go_sem,doO,stO,bxO,bestV,bRl,eStr]) (Le.sub4 rfl (by simp[go_sem,doO,stO,bxO,bestV,bRl,eStr]))) (by simp[go_sem,doO,stO,bxO,bestV,bRl,eStr]) ⟨rfl,rfl⟩
theorem do00g_ok (r:Rl) (vs l:List ByteArray) (hvl:vs.length=l.length) (hlen:l.length≤5) (hvs:AscG strC vs) (hh:r.head.size≤1000000) (hb: ∀b∈r.body,b.atom.size≤1000000) (hl:r.body.length≤12) (hn:l.length=0) (hb0:r.body.length=0) (b:Rl) (hq: ¬rlC (cndR r vs l) b<0):
 MCall Tryz.prog 38 [.ref 1101 0 l.length,.ptr 1102 0 0,.ptr 1103 0 0,.ptr 1104 0 0,.ptr 1105 0 0] (doO r vs l (some b)) (fun v o'=>v= .tup []∧o'=doO r vs l (some b)):=by
 have hS:=sbl_asc (l:=l) hvs
 have hZ:=sbl_size (vs:=vs) (l:=l)
 obtain rfl:=List.eq_nil_of_length_eq_zero hn
 obtain rfl:=List.eq_nil_of_length_eq_zero hvl
 have hSn:sbl [] []= []:=rfl
 rw[hSn]at hS hZ
 unfold cndR at*
 rw[hSn]at hq
 obtain⟨hT,bs⟩:=r
 dsimp only at hh hb hl hb0
 obtain rfl:=List.eq_nil_of_length_eq_zero hb0
 have h1:=ApplyRule0_ok [] true hS hZ hT hh
 have hx:tidyR (apR [] ⟨hT,[]⟩)=⟨apT [] hT,[]⟩:=rfl
 rw[hx]at hq
 have h2:=sorted0_ok (apT [] hT)
 generalize apT [] hT=H at*
 have h3:ACall Tryz.prog 12 [eRl ⟨H,[]⟩,eRl b] (fun r=>r=nt .i64 (rlC ⟨H,[]⟩ b)):=cmpRl_ok _ b false false false false
 generalize rlC ⟨H,[]⟩ b=c at*
 clear hS hZ hx hb hh hSn hvs hn hlen hvl
 refine mcall_of_awpL Tryz.func38 Tryz.call38 rfl (by simp[Tryz.ntmps38]) ?_;simp only[Tryz.ntmps38,Tryz.results38]
 repeat' (first|(refine awK fun _ _=>?_)|refine zHg ?_|(fail_if_success with_reducible refine Owe.mk ?_);(simp(disch:=omega) [go_sem,doO,stO,bxO,bestV,bRl,eStr]))
 refine awp_for [0,2,3,4,10,11] [] (fun i:Nat=> [(12,nt .i64 (0:Nat)),(6,.list false true [])]) (fun i:Nat=> []) (fun i:Nat=>0) (fun i:Nat=>i=0) (0) (Le.sub4 rfl (by simp[go_sem,doO,stO,bxO,bestV,bRl,eStr])) ⟨?_⟩ ?_
 ·rfl
 intro i hi AA hAA;simp only[kL,Nat.reduceBEq,Nat.reduceEqDiff,if_true,if_false,List.cons_append,List.nil_append,List.append_nil]
 repeat' (first|(refine awK fun _ _=>?_)|refine zHg ?_|refine stepK_is rfl (h1) (by simp) ?_|refine stepK_is rfl (h2) (by simp) ?_|refine stepK_is rfl (h3) (by simp) ?_|(fail_if_success with_reducible refine Owe.mk ?_);(simp(disch:=omega) [go_sem,doO,stO,bxO,bestV,bRl,eStr,hq]))
 refine endL_normal ⟨40,[],doO ⟨hT,[]⟩ [] [] (some b)⟩ [] (Le.renSub [] [] (by simp[go_sem,doO,stO,bxO,bestV,bRl,eStr]) (by simp[go_sem,doO,stO,bxO,bestV,bRl,eStr]) (Le.sub4 rfl (by simp[go_sem,doO,stO,bxO,bestV,bRl,eStr]))) (by simp[go_sem,doO,stO,bxO,bestV,bRl,eStr]) ⟨rfl,rfl⟩
theorem do01n_ok (r:Rl) (vs l:List ByteArray) (hvl:vs.length=l.length) (hlen:l.length≤5) (hvs:AscG strC vs) (hh:r.head.size≤1000000) (hb: ∀b∈r.body,b.atom.size≤1000000) (hl:r.body.length≤12) (hn:l.length=0) (hb0: ¬r.body.length=0):
 MCall Tryz.prog 38 [.ref 1101 0 l.length,.ptr 1102 0 0,.ptr 1103 0 0,.ptr 1104 0 0,.ptr 1105 0 0] (doO r vs l none) (fun v o'=>v= .tup []∧o'=doO r vs l (some (cndR r vs l))):=by
 have hS:=sbl_asc (l:=l) hvs
 have hZ:=sbl_size (vs:=vs) (l:=l)
 obtain rfl:=List.eq_nil_of_length_eq_zero hn
 obtain rfl:=List.eq_nil_of_length_eq_zero hvl
 have hSn:sbl [] []= []:=rfl
 rw[hSn]at hS hZ
 unfold cndR at*
 rw[hSn]
 obtain⟨hT,bs⟩:=r
 dsimp only at hh hb hl hb0
 have h1:=ApplyRule1_ok [] true hS hZ ⟨hT,bs⟩ hh hb (by dsimp only;omega) hb0
 dsimp only at h1
 have hx:tidyR (apR [] ⟨hT,bs⟩)=⟨apT [] hT,srtG ltC (bs.map (apB []))⟩:=rfl
 rw[hx]
 have h2:=sorted1_ok (apT [] hT) (bs.map (apB [])) (by rw[List.length_map];exact hl)
 rw[List.length_map]at h2
 have hsl:=srtG_len (c:=ltC) (bs.map (apB []))
 rw[List.length_map]at hsl
 have hml:(bs.map (apB [])).length=bs.length:=List.length_map _
 generalize apT [] hT=H at*
 generalize srtG ltC (bs.map (apB []))=D at*
 generalize bs.map (apB [])=m at*
 have hlenS:seg (D.map eLt++List.replicate (bs.length - D.length) zL) 0 D.length=D.map eLt:=seg_app (by simp)
 dsimp only[zL,bl]at hlenS
 clear hS hZ hx hb hh hSn hvs hn hlen hvl
 refine mcall_of_awpL Tryz.func38 Tryz.call38 rfl (by simp[Tryz.ntmps38]) ?_;simp only[Tryz.ntmps38,Tryz.results38]
 repeat' (first|(refine awK fun _ _=>?_)|refine zHg ?_|(fail_if_success with_reducible refine Owe.mk ?_);(simp(disch:=omega) [go_sem,doO,stO,bxO,bestV,bRl,eStr]))
 refine awp_for [0,2,3,4,10,11] [] (fun i:Nat=> [(12,nt .i64 (0:Nat)),(6,.list false true [])]) (fun i:Nat=> []) (fun i:Nat=>0) (fun i:Nat=>i=0) (0) (Le.sub4 rfl (by simp[go_sem,doO,stO,bxO,bestV,bRl,eStr])) ⟨?_⟩ ?_
 ·rfl
 intro i hi AA hAA;simp only[kL,Nat.reduceBEq,Nat.reduceEqDiff,if_true,if_false,List.cons_append,List.nil_append,List.append_nil]
 repeat' (first|(refine awK fun _ _=>?_)|refine zHg ?_|(fail_if_success with_reducible refine Owe.mk ?_);(simp(disch:=omega) [go_sem,doO,stO,bxO,bestV,bRl,eStr]))
 refine stepK_fis [] [] 10000 _ _ (Fits.mk' (by simp[go_sem,doO,stO,bxO,bestV,bRl,eStr]) (by simp[go_sem,doO,stO,bxO,bestV,bRl,eStr])) (by simp[go_sem,doO,stO,bxO,bestV,bRl,eStr]) (by simp[go_sem,doO,stO,bxO,bestV,bRl,eStr]) (h1) (by simp[go_sem,doO,stO,bxO,bestV,bRl,eStr]) (by simp[go_sem,doO,stO,bxO,bestV,bRl,eStr]) ?_
 repeat' (first|(fail_if_success with_reducible refine Owe.mk ?_);(simp(disch:=omega) [go_sem,doO,stO,bxO,bestV,bRl,eStr]))
 refine stepK_fis [(1000,10900)] [(10900,1000)] 20000 _ _ (Fits.mk' (by simp[go_sem,doO,stO,bxO,bestV,bRl,eStr,hml]) (by simp[go_sem,doO,stO,bxO,bestV,bRl,eStr,hml])) (by simp[go_sem,doO,stO,bxO,bestV,bRl,eStr,hml]) (by simp[go_sem,doO,stO,bxO,bestV,bRl,eStr,hml]) (h2) (by simp[go_sem,doO,stO,bxO,bestV,bRl,eStr,hml]) (by simp[go_sem,doO,stO,bxO,bestV,bRl,eStr,hml]) ?_
 repeat' (first|(refine awK fun _ _=>?_)|refine zHg ?_|(fail_if_success with_reducible refine Owe.mk ?_);(simp(disch:=omega) [go_sem,doO,stO,bxO,bestV,bRl,eStr,hlenS,eRlF]))
 refine endL_normal ⟨40,[],doO ⟨hT,bs⟩ [] [] (some ⟨H,D⟩)⟩ [] (by refine Le.trans ?_ (Le.shareBox 1105 rfl (by decide) rfl rfl);exact(Le.sub4 rfl (by simp[go_sem,doO,stO,bxO,bestV,bRl,hlenS]))) (by simp[go_sem]) ⟨rfl,rfl⟩
theorem do01l_ok (r:Rl) (vs l:List ByteArray) (hvl:vs.length=l.length) (hlen:l.length≤5) (hvs:AscG strC vs) (hh:r.head.size≤1000000) (hb: ∀b∈r.body,b.atom.size≤1000000) (hl:r.body.length≤12) (hn:l.length=0) (hb0: ¬r.body.length=0) (b:Rl) (hq:rlC (cndR r vs l) b<0):
 MCall Tryz.prog 38 [.ref 1101 0 l.length,.ptr 1102 0 0,.ptr 1103 0 0,.ptr 1104 0 0,.ptr 1105 0 0] (doO r vs l (some b)) (fun v o'=>v= .tup []∧o'=doO r vs l (some (cndR r vs l))):=by
 have hS:=sbl_asc (l:=l) hvs
 have hZ:=sbl_size (vs:=vs) (l:=l)
 obtain rfl:=List.eq_nil_of_length_eq_zero hn
 obtain rfl:=List.eq_nil_of_length_eq_zero hvl
 have hSn:sbl [] []= []:=rfl
 rw[hSn]at hS hZ
 unfold cndR at*
 rw[hSn]at hq
 rw[hSn]
 obtain⟨hT,bs⟩:=r
 dsimp only at hh hb hl hb0
 have h1:=ApplyRule1_ok [] true hS hZ ⟨hT,bs⟩ hh hb (by dsimp only;omega) hb0
 dsimp only at h1
 have hx:tidyR (apR [] ⟨hT,bs⟩)=⟨apT [] hT,srtG ltC (bs.map (apB []))⟩:=rfl
 rw[hx]at hq ⊢
 have h2:=sorted1_ok (apT [] hT) (bs.map (apB [])) (by rw[List.length_map];exact hl)
 rw[List.length_map]at h2
 have hsl:=srtG_len (c:=ltC) (bs.map (apB []))
 rw[List.length_map]at hsl
 have hml:(bs.map (apB [])).length=bs.length:=List.length_map _
 generalize apT [] hT=H at*
 generalize srtG ltC (bs.map (apB []))=D at*
 generalize bs.map (apB [])=m at*
 have h3:ACall Tryz.prog 12 [eRlF true false ⟨H,D⟩,eRl b] (fun r=>r=nt .i64 (rlC ⟨H,D⟩ b)):=cmpRl_ok _ b true false false false
 generalize rlC ⟨H,D⟩ b=c at*
 have hlenS:seg (D.map eLt++List.replicate (bs.length - D.length) zL) 0 D.length=D.map eLt:=seg_app (by simp)
 dsimp only[zL,bl]at hlenS
 clear hS hZ hx hb hh hSn hvs hn hlen hvl
 refine mcall_of_awpL Tryz.func38 Tryz.call38 rfl (by simp[Tryz.ntmps38]) ?_;simp only[Tryz.ntmps38,Tryz.results38]
 repeat' (first|(refine awK fun _ _=>?_)|refine zHg ?_|(fail_if_success with_reducible refine Owe.mk ?_);(simp(disch:=omega) [go_sem,doO,stO,bxO,bestV,bRl,eStr]))
 refine awp_for [0,2,3,4,10,11] [] (fun i:Nat=> [(12,nt .i64 (0:Nat)),(6,.list false true [])]) (fun i:Nat=> []) (fun i:Nat=>0) (fun i:Nat=>i=0) (0) (Le.sub4 rfl (by simp[go_sem,doO,stO,bxO,bestV,bRl,eStr])) ⟨?_⟩ ?_
 ·rfl
 intro i hi AA hAA;simp only[kL,Nat.reduceBEq,Nat.reduceEqDiff,if_true,if_false,List.cons_append,List.nil_append,List.append_nil]
 repeat' (first|(refine awK fun _ _=>?_)|refine zHg ?_|(fail_if_success with_reducible refine Owe.mk ?_);(simp(disch:=omega) [go_sem,doO,stO,bxO,bestV,bRl,eStr]))
 refine stepK_fis [] [] 10000 _ _ (Fits.mk' (by simp[go_sem,doO,stO,bxO,bestV,bRl,eStr]) (by simp[go_sem,doO,stO,bxO,bestV,bRl,eStr])) (by simp[go_sem,doO,stO,bxO,bestV,bRl,eStr]) (by simp[go_sem,doO,stO,bxO,bestV,bRl,eStr]) (h1) (by simp[go_sem,doO,stO,bxO,bestV,bRl,eStr]) (by simp[go_sem,doO,stO,bxO,bestV,bRl,eStr]) ?_
 repeat' (first|(fail_if_success with_reducible refine Owe.mk ?_);(simp(disch:=omega) [go_sem,doO,stO,bxO,bestV,bRl,eStr]))
 refine stepK_fis [(1000,10900)] [(10900,1000)] 20000 _ _ (Fits.mk' (by simp[go_sem,doO,stO,bxO,bestV,bRl,eStr,hml]) (by simp[go_sem,doO,stO,bxO,bestV,bRl,eStr,hml])) (by simp[go_sem,doO,stO,bxO,bestV,bRl,eStr,hml]) (by simp[go_sem,doO,stO,bxO,bestV,bRl,eStr,hml]) (h2) (by simp[go_sem,doO,stO,bxO,bestV,bRl,eStr,hml]) (by simp[go_sem,doO,stO,bxO,bestV,bRl,eStr,hml]) ?_
 repeat' (first|(refine awK fun _ _=>?_)|refine zHg ?_|refine stepK_is ?hl (h3) (by simp) ?_;(case hl=>(simp[go_sem,doO,stO,bxO,bestV,bRl,eStr,hlenS,hq,eRlF];done))|(fail_if_success with_reducible refine Owe.mk ?_);(simp(disch:=omega) [go_sem,doO,stO,bxO,bestV,bRl,eStr,hlenS,hq,eRlF]))
 refine endL_normal ⟨40,[],doO ⟨hT,bs⟩ [] [] (some ⟨H,D⟩)⟩ [] (by refine Le.trans ?_ (Le.shareBox 1105 rfl (by decide) rfl rfl);exact(Le.sub4 rfl (by simp[go_sem,doO,stO,bxO,bestV,bRl,hlenS]))) (by simp[go_sem]) ⟨rfl,rfl⟩
theorem do01g_ok (r:Rl) (vs l:List ByteArray) (hvl:vs.length=l.length) (hlen:l.length≤5) (hvs:AscG strC vs) (hh:r.head.size≤1000000) (hb: ∀b∈r.body,b.atom.size≤1000000) (hl:r.body.length≤12) (hn:l.length=0) (hb0: ¬r.body.length=0) (b:Rl) (hq: ¬rlC (cndR r vs l) b<0):
 MCall Tryz.prog 38 [.ref 1101 0 l.length,.ptr 1102 0 0,.ptr 1103 0 0,.ptr 1104 0 0,.ptr 1105 0 0] (doO r vs l (some b)) (fun v o'=>v= .tup []∧o'=doO r vs l (some b)):=by
 have hS:=sbl_asc (l:=l) hvs
 have hZ:=sbl_size (vs:=vs) (l:=l)
 obtain rfl:=List.eq_nil_of_length_eq_zero hn
 obtain rfl:=List.eq_nil_of_length_eq_zero hvl
 have hSn:sbl [] []= []:=rfl
 rw[hSn]at hS hZ
 unfold cndR at*
 rw[hSn]at hq
 obtain⟨hT,bs⟩:=r
 dsimp only at hh hb hl hb0
 have h1:=ApplyRule1_ok [] true hS hZ ⟨hT,bs⟩ hh hb (by dsimp only;omega) hb0
 dsimp only at h1
 have hx:tidyR (apR [] ⟨hT,bs⟩)=⟨apT [] hT,srtG ltC (bs.map (apB []))⟩:=rfl
 rw[hx]at hq
 have h2:=sorted1_ok (apT [] hT) (bs.map (apB [])) (by rw[List.length_map];exact hl)
 rw[List.length_map]at h2
 have hsl:=srtG_len (c:=ltC) (bs.map (apB []))
 rw[List.length_map]at hsl
 have hml:(bs.map (apB [])).length=bs.length:=List.length_map _
 generalize apT [] hT=H at*
 generalize srtG ltC (bs.map (apB []))=D at*
 generalize bs.map (apB [])=m at*
 have h3:ACall Tryz.prog 12 [eRlF true false ⟨H,D⟩,eRl b] (fun r=>r=nt .i64 (rlC ⟨H,D⟩ b)):=cmpRl_ok _ b true false false false
 generalize rlC ⟨H,D⟩ b=c at*
 have hlenS:seg (D.map eLt++List.replicate (bs.length - D.length) zL) 0 D.length=D.map eLt:=seg_app (by simp)
 dsimp only[zL,bl]at hlenS
 clear hS hZ hx hb hh hSn hvs hn hlen hvl
 refine mcall_of_awpL Tryz.func38 Tryz.call38 rfl (by simp[Tryz.ntmps38]) ?_;simp only[Tryz.ntmps38,Tryz.results38]
 repeat' (first|(refine awK fun _ _=>?_)|refine zHg ?_|(fail_if_success with_reducible refine Owe.mk ?_);(simp(disch:=omega) [go_sem,doO,stO,bxO,bestV,bRl,eStr]))
 refine awp_for [0,2,3,4,10,11] [] (fun i:Nat=> [(12,nt .i64 (0:Nat)),(6,.list false true [])]) (fun i:Nat=> []) (fun i:Nat=>0) (fun i:Nat=>i=0) (0) (Le.sub4 rfl (by simp[go_sem,doO,stO,bxO,bestV,bRl,eStr])) ⟨?_⟩ ?_
 ·rfl
 intro i hi AA hAA;simp only[kL,Nat.reduceBEq,Nat.reduceEqDiff,if_true,if_false,List.cons_append,List.nil_append,List.append_nil]
 repeat' (first|(refine awK fun _ _=>?_)|refine zHg ?_|(fail_if_success with_reducible refine Owe.mk ?_);(simp(disch:=omega) [go_sem,doO,stO,bxO,bestV,bRl,eStr]))
 refine stepK_fis [] [] 10000 _ _ (Fits.mk' (by simp[go_sem,doO,stO,bxO,bestV,bRl,eStr]) (by simp[go_sem,doO,stO,bxO,bestV,bRl,eStr])) (by simp[go_sem,doO,stO,bxO,bestV,bRl,eStr]) (by simp[go_sem,doO,stO,bxO,bestV,bRl,eStr]) (h1) (by simp[go_sem,doO,stO,bxO,bestV,bRl,eStr]) (by simp[go_sem,doO,stO,bxO,bestV,bRl,eStr]) ?_
 repeat' (first|(fail_if_success with_reducible refine Owe.mk ?_);(simp(disch:=omega) [go_sem,doO,stO,bxO,bestV,bRl,eStr]))
 refine stepK_fis [(1000,10900)] [(10900,1000)] 20000 _ _ (Fits.mk' (by simp[go_sem,doO,stO,bxO,bestV,bRl,eStr,hml]) (by simp[go_sem,doO,stO,bxO,bestV,bRl,eStr,hml])) (by simp[go_sem,doO,stO,bxO,bestV,bRl,eStr,hml]) (by simp[go_sem,doO,stO,bxO,bestV,bRl,eStr,hml]) (h2) (by simp[go_sem,doO,stO,bxO,bestV,bRl,eStr,hml]) (by simp[go_sem,doO,stO,bxO,bestV,bRl,eStr,hml]) ?_
 repeat' (first|(refine awK fun _ _=>?_)|refine zHg ?_|refine stepK_is ?hl (h3) (by simp) ?_;(case hl=>(simp[go_sem,doO,stO,bxO,bestV,bRl,eStr,hlenS,hq,eRlF];done))|(fail_if_success with_reducible refine Owe.mk ?_);(simp(disch:=omega) [go_sem,doO,stO,bxO,bestV,bRl,eStr,hlenS,hq,eRlF]))
 refine endL_normal ⟨40,[],doO ⟨hT,bs⟩ [] [] (some b)⟩ [] (Le.renSub [] [] (by simp[go_sem,doO,stO,bxO,bestV,bRl,eStr]) (by simp[go_sem,doO,stO,bxO,bestV,bRl,eStr]) (Le.sub4 rfl (by simp[go_sem,doO,stO,bxO,bestV,bRl,eStr]))) (by simp[go_sem,doO,stO,bxO,bestV,bRl,eStr]) ⟨rfl,rfl⟩
theorem do10n_ok (r:Rl) (vs l:List ByteArray) (hvl:vs.length=l.length) (hlen:l.length≤5) (hvs:AscG strC vs) (hh:r.head.size≤1000000) (hb: ∀b∈r.body,b.atom.size≤1000000) (hl:r.body.length≤12) (hn: ¬l.length=0) (hb0:r.body.length=0):
 MCall Tryz.prog 38 [.ref 1101 0 l.length,.ptr 1102 0 0,.ptr 1103 0 0,.ptr 1104 0 0,.ptr 1105 0 0] (doO r vs l none) (fun v o'=>v= .tup []∧o'=doO r vs l (some (cndR r vs l))):=by
 have hS:=sbl_asc (l:=l) hvs
 have hZ:=sbl_size (vs:=vs) (l:=l)
 unfold cndR at*
 obtain⟨hT,bs⟩:=r
 dsimp only at hh hb hl hb0
 obtain rfl:=List.eq_nil_of_length_eq_zero hb0
 have h1:=ApplyRule0_ok (sbl vs l) false hS hZ hT hh
 have hx:tidyR (apR (sbl vs l) ⟨hT,[]⟩)=⟨apT (sbl vs l) hT,[]⟩:=rfl
 rw[hx]
 have h2:=sorted0_ok (apT (sbl vs l) hT)
 generalize apT (sbl vs l) hT=H at*
 clear hS hZ hx hb hh
 refine mcall_of_awpL Tryz.func38 Tryz.call38 rfl (by simp[Tryz.ntmps38]) ?_;simp only[Tryz.ntmps38,Tryz.results38]
 repeat' (first|(refine awK fun _ _=>?_)|refine zHg ?_|(fail_if_success with_reducible refine Owe.mk ?_);(simp(disch:=omega) [go_sem,doO,stO,bxO,bestV,bRl,eStr]))
 have hpos:0<vs.length:=by omega
 refine awp_for [0,2,3,4,10,11] [900] (fun i:Nat=> [(12,nt .i64 i),(6,if i<vs.length then .ref 900 0 i else .list false false ((sbl vs l).map eBd))]) (fun i:Nat=>(if i<vs.length then[(900,⟨true,false,false,3,((sbl vs l).take i).map eBd,0⟩)]else[])) (fun i:Nat=>vs.length - i) (fun i:Nat=>i≤vs.length) (0) (by refine Le.trans ?_ (Le.nil (i:=6) (T:=900) (es:=3) rfl);exact(Le.sub4 rfl (by simp[go_sem,doO,stO,bxO,bestV,bRl,eStr,hpos,List.take_zero,List.map_nil]))) ⟨?_⟩ ?_
 ·exact Nat.zero_le _
 intro i hi AA hAA;simp only[kL,Nat.reduceBEq,Nat.reduceEqDiff,if_true,if_false,List.cons_append,List.nil_append,List.append_nil]
 by_cases hlt:i<vs.length
 ·have hvt:i<l.length:=by omega
  have hnx:=sbl_next hlt hvt
  have hSl:=sbl_len hvl
  have htl:((sbl vs l).take i).length=i:=by rw[List.length_take];omega
  by_cases hla:i+1<vs.length
  ·generalize(sbl vs l).take i=X at*
   simp only[if_pos hlt]
   repeat' (first|(refine awK fun _ _=>?_)|refine zHg ?_|refine(hAA.next (i+1) (by refine Le.trans ?_ (Le.looseRow 900 rfl (by show(0:Nat)≠1;decide));exact(Le.sub4 rfl (by simp[go_sem,hla,hnx,loose_eBd,htl]))) (by omega) ?_)|(fail_if_success with_reducible refine Owe.mk ?_);(simp(disch:=omega) [go_sem,doO,stO,bxO,bestV,bRl,eStr,hlt,hvt,htl])|refine zAo ?_)
   all_goals(first|omega|skip)
   all_goals exact⟨by omega⟩
  ·have hlast:i+1=vs.length:=by omega
   have hall:(sbl vs l).take (i+1)=sbl vs l:=List.take_of_length_le (by omega)
   rw[hall]at hnx
   have hsgw:seg ((sbl vs l).map eBd) 0 (i+1)=(sbl vs l).map eBd:=by
    have e:i+1=((sbl vs l).map eBd).length:=by rw[List.length_map];omega
    rw[e];exact seg_whole
   have hmap:((sbl vs l).map eBd)=((sbl vs l).take i).map eBd++ [eBd ⟨vs[i],.mk l[i] []⟩]:=by
    conv=>lhs;rw[hnx,List.map_append]
    rfl
   rw[hmap]at hsgw
   generalize(sbl vs l).take i=X at*
   simp only[if_pos hlt]
   repeat' (first|(refine awK fun _ _=>?_)|refine zHg ?_|refine(hAA.next (i+1) (by refine Le.trans ?_ (Le.looseRow 900 rfl (by show(0:Nat)≠1;decide));refine Le.trans ?_ (Le.shareSlot 6 rfl rfl);exact(Le.sub4 rfl (by simp[go_sem,hla,hmap,hsgw,loose_eBd,htl]))) (by omega) ?_)|(fail_if_success with_reducible refine Owe.mk ?_);(simp(disch:=omega) [go_sem,doO,stO,bxO,bestV,bRl,eStr,hlt,hvt,htl])|refine zAo ?_)
   all_goals(first|omega|skip)
   all_goals exact⟨by omega⟩
 ·obtain rfl:i=vs.length:=by omega
  simp only[Nat.lt_irrefl,if_false]
  repeat' (first|(refine awK fun _ _=>?_)|refine zHg ?_|refine stepK_is rfl (h1) (by simp) ?_|refine stepK_is rfl (h2) (by simp) ?_|(fail_if_success with_reducible refine Owe.mk ?_);(simp(disch:=omega) [go_sem,doO,stO,bxO,bestV,bRl,eStr]))
  refine endL_normal ⟨40,[],doO ⟨hT,[]⟩ vs l (some ⟨H,[]⟩)⟩ [] (Le.renSub [] [] (by simp[go_sem,doO,stO,bxO,bestV,bRl,eStr]) (by simp[go_sem,doO,stO,bxO,bestV,bRl,eStr]) (Le.sub4 rfl (by simp[go_sem,doO,stO,bxO,bestV,bRl,eStr]))) (by simp[go_sem,doO,stO,bxO,bestV,bRl,eStr]) ⟨rfl,rfl⟩
theorem do10l_ok (r:Rl) (vs l:List ByteArray) (hvl:vs.length=l.length) (hlen:l.length≤5) (hvs:AscG strC vs) (hh:r.head.size≤1000000) (hb: ∀b∈r.body,b.atom.size≤1000000) (hl:r.body.length≤12) (hn: ¬l.length=0) (hb0:r.body.length=0) (b:Rl) (hq:rlC (cndR r vs l) b<0):
 MCall Tryz.prog 38 [.ref 1101 0 l.length,.ptr 1102 0 0,.ptr 1103 0 0,.ptr 1104 0 0,.ptr 1105 0 0] (doO r vs l (some b)) (fun v o'=>v= .tup []∧o'=doO r vs l (some (cndR r vs l))):=by
 have hS:=sbl_asc (l:=l) hvs
 have hZ:=sbl_size (vs:=vs) (l:=l)
 unfold cndR at*
 obtain⟨hT,bs⟩:=r
 dsimp only at hh hb hl hb0
 obtain rfl:=List.eq_nil_of_length_eq_zero hb0
 have h1:=ApplyRule0_ok (sbl vs l) false hS hZ hT hh
 have hx:tidyR (apR (sbl vs l) ⟨hT,[]⟩)=⟨apT (sbl vs l) hT,[]⟩:=rfl
 rw[hx]at hq ⊢
 have h2:=sorted0_ok (apT (sbl vs l) hT)
 generalize apT (sbl vs l) hT=H at*
 have h3:ACall Tryz.prog 12 [eRl ⟨H,[]⟩,eRl b] (fun r=>r=nt .i64 (rlC ⟨H,[]⟩ b)):=cmpRl_ok _ b false false false false
 generalize rlC ⟨H,[]⟩ b=c at*
 clear hS hZ hx hb hh
 refine mcall_of_awpL Tryz.func38 Tryz.call38 rfl (by simp[Tryz.ntmps38]) ?_;simp only[Tryz.ntmps38,Tryz.results38]
 repeat' (first|(refine awK fun _ _=>?_)|refine zHg ?_|(fail_if_success with_reducible refine Owe.mk ?_);(simp(disch:=omega) [go_sem,doO,stO,bxO,bestV,bRl,eStr]))
 have hpos:0<vs.length:=by omega
 refine awp_for [0,2,3,4,10,11] [900] (fun i:Nat=> [(12,nt .i64 i),(6,if i<vs.length then .ref 900 0 i else .list false false ((sbl vs l).map eBd))]) (fun i:Nat=>(if i<vs.length then[(900,⟨true,false,false,3,((sbl vs l).take i).map eBd,0⟩)]else[])) (fun i:Nat=>vs.length - i) (fun i:Nat=>i≤vs.length) (0) (by refine Le.trans ?_ (Le.nil (i:=6) (T:=900) (es:=3) rfl);exact(Le.sub4 rfl (by simp[go_sem,doO,stO,bxO,bestV,bRl,eStr,hpos,List.take_zero,List.map_nil]))) ⟨?_⟩ ?_
 ·exact Nat.zero_le _
 intro i hi AA hAA;simp only[kL,Nat.reduceBEq,Nat.reduceEqDiff,if_true,if_false,List.cons_append,List.nil_append,List.append_nil]
 by_cases hlt:i<vs.length
 ·have hvt:i<l.length:=by omega
  have hnx:=sbl_next hlt hvt
  have hSl:=sbl_len hvl
  have htl:((sbl vs l).take i).length=i:=by rw[List.length_take];omega
  by_cases hla:i+1<vs.length
  ·generalize(sbl vs l).take i=X at*
   simp only[if_pos hlt]
   repeat' (first|(refine awK fun _ _=>?_)|refine zHg ?_|refine(hAA.next (i+1) (by refine Le.trans ?_ (Le.looseRow 900 rfl (by show(0:Nat)≠1;decide));exact(Le.sub4 rfl (by simp[go_sem,hla,hnx,loose_eBd,htl]))) (by omega) ?_)|(fail_if_success with_reducible refine Owe.mk ?_);(simp(disch:=omega) [go_sem,doO,stO,bxO,bestV,bRl,eStr,hlt,hvt,htl])|refine zAo ?_)
   all_goals(first|omega|skip)
   all_goals exact⟨by omega⟩
  ·have hlast:i+1=vs.length:=by omega
   have hall:(sbl vs l).take (i+1)=sbl vs l:=List.take_of_length_le (by omega)
   rw[hall]at hnx
   have hsgw:seg ((sbl vs l).map eBd) 0 (i+1)=(sbl vs l).map eBd:=by
    have e:i+1=((sbl vs l).map eBd).length:=by rw[List.length_map];omega
    rw[e];exact seg_whole
   have hmap:((sbl vs l).map eBd)=((sbl vs l).take i).map eBd++ [eBd ⟨vs[i],.mk l[i] []⟩]:=by
    conv=>lhs;rw[hnx,List.map_append]
    rfl
   rw[hmap]at hsgw
   generalize(sbl vs l).take i=X at*
   simp only[if_pos hlt]
   repeat' (first|(refine awK fun _ _=>?_)|refine zHg ?_|refine(hAA.next (i+1) (by refine Le.trans ?_ (Le.looseRow 900 rfl (by show(0:Nat)≠1;decide));refine Le.trans ?_ (Le.shareSlot 6 rfl rfl);exact(Le.sub4 rfl (by simp[go_sem,hla,hmap,hsgw,loose_eBd,htl]))) (by omega) ?_)|(fail_if_success with_reducible refine Owe.mk ?_);(simp(disch:=omega) [go_sem,doO,stO,bxO,bestV,bRl,eStr,hlt,hvt,htl])|refine zAo ?_)
   all_goals(first|omega|skip)
   all_goals exact⟨by omega⟩
 ·obtain rfl:i=vs.length:=by omega
  simp only[Nat.lt_irrefl,if_false]
  repeat' (first|(refine awK fun _ _=>?_)|refine zHg ?_|refine stepK_is rfl (h1) (by simp) ?_|refine stepK_is rfl (h2) (by simp) ?_|refine stepK_is rfl (h3) (by simp) ?_|(fail_if_success with_reducible refine Owe.mk ?_);(simp(disch:=omega) [go_sem,doO,stO,bxO,bestV,bRl,eStr,hq]))
  refine endL_normal ⟨40,[],doO ⟨hT,[]⟩ vs l (some ⟨H,[]⟩)⟩ [] (Le.renSub [] [] (by simp[go_sem,doO,stO,bxO,bestV,bRl,eStr]) (by simp[go_sem,doO,stO,bxO,bestV,bRl,eStr]) (Le.sub4 rfl (by simp[go_sem,doO,stO,bxO,bestV,bRl,eStr]))) (by simp[go_sem,doO,stO,bxO,bestV,bRl,eStr]) ⟨rfl,rfl⟩
theorem do10g_ok (r:Rl) (vs l:List ByteArray) (hvl:vs.length=l.length) (hlen:l.length≤5) (hvs:AscG strC vs) (hh:r.head.size≤1000000) (hb: ∀b∈r.body,b.atom.size≤1000000) (hl:r.body.length≤12) (hn: ¬l.length=0) (hb0:r.body.length=0) (b:Rl) (hq: ¬rlC (cndR r vs l) b<0):
 MCall Tryz.prog 38 [.ref 1101 0 l.length,.ptr 1102 0 0,.ptr 1103 0 0,.ptr 1104 0 0,.ptr 1105 0 0] (doO r vs l (some b)) (fun v o'=>v= .tup []∧o'=doO r vs l (some b)):=by
 have hS:=sbl_asc (l:=l) hvs
 have hZ:=sbl_size (vs:=vs) (l:=l)
 unfold cndR at*
 obtain⟨hT,bs⟩:=r
 dsimp only at hh hb hl hb0
 obtain rfl:=List.eq_nil_of_length_eq_zero hb0
 have h1:=ApplyRule0_ok (sbl vs l) false hS hZ hT hh
 have hx:tidyR (apR (sbl vs l) ⟨hT,[]⟩)=⟨apT (sbl vs l) hT,[]⟩:=rfl
 rw[hx]at hq
 have h2:=sorted0_ok (apT (sbl vs l) hT)
 generalize apT (sbl vs l) hT=H at*
 have h3:ACall Tryz.prog 12 [eRl ⟨H,[]⟩,eRl b] (fun r=>r=nt .i64 (rlC ⟨H,[]⟩ b)):=cmpRl_ok _ b false false false false
 generalize rlC ⟨H,[]⟩ b=c at*
 clear hS hZ hx hb hh
 refine mcall_of_awpL Tryz.func38 Tryz.call38 rfl (by simp[Tryz.ntmps38]) ?_;simp only[Tryz.ntmps38,Tryz.results38]
 repeat' (first|(refine awK fun _ _=>?_)|refine zHg ?_|(fail_if_success with_reducible refine Owe.mk ?_);(simp(disch:=omega) [go_sem,doO,stO,bxO,bestV,bRl,eStr]))
 have hpos:0<vs.length:=by omega
 refine awp_for [0,2,3,4,10,11] [900] (fun i:Nat=> [(12,nt .i64 i),(6,if i<vs.length then .ref 900 0 i else .list false false ((sbl vs l).map eBd))]) (fun i:Nat=>(if i<vs.length then[(900,⟨true,false,false,3,((sbl vs l).take i).map eBd,0⟩)]else[])) (fun i:Nat=>vs.length - i) (fun i:Nat=>i≤vs.length) (0) (by refine Le.trans ?_ (Le.nil (i:=6) (T:=900) (es:=3) rfl);exact(Le.sub4 rfl (by simp[go_sem,doO,stO,bxO,bestV,bRl,eStr,hpos,List.take_zero,List.map_nil]))) ⟨?_⟩ ?_
 ·exact Nat.zero_le _
 intro i hi AA hAA;simp only[kL,Nat.reduceBEq,Nat.reduceEqDiff,if_true,if_false,List.cons_append,List.nil_append,List.append_nil]
 by_cases hlt:i<vs.length
 ·have hvt:i<l.length:=by omega
  have hnx:=sbl_next hlt hvt
  have hSl:=sbl_len hvl
  have htl:((sbl vs l).take i).length=i:=by rw[List.length_take];omega
  by_cases hla:i+1<vs.length
  ·generalize(sbl vs l).take i=X at*
   simp only[if_pos hlt]
   repeat' (first|(refine awK fun _ _=>?_)|refine zHg ?_|refine(hAA.next (i+1) (by refine Le.trans ?_ (Le.looseRow 900 rfl (by show(0:Nat)≠1;decide));exact(Le.sub4 rfl (by simp[go_sem,hla,hnx,loose_eBd,htl]))) (by omega) ?_)|(fail_if_success with_reducible refine Owe.mk ?_);(simp(disch:=omega) [go_sem,doO,stO,bxO,bestV,bRl,eStr,hlt,hvt,htl])|refine zAo ?_)
   all_goals(first|omega|skip)
   all_goals exact⟨by omega⟩
  ·have hlast:i+1=vs.length:=by omega
   have hall:(sbl vs l).take (i+1)=sbl vs l:=List.take_of_length_le (by omega)
   rw[hall]at hnx
   have hsgw:seg ((sbl vs l).map eBd) 0 (i+1)=(sbl vs l).map eBd:=by
    have e:i+1=((sbl vs l).map eBd).length:=by rw[List.length_map];omega
    rw[e];exact seg_whole
   have hmap:((sbl vs l).map eBd)=((sbl vs l).take i).map eBd++ [eBd ⟨vs[i],.mk l[i] []⟩]:=by
    conv=>lhs;rw[hnx,List.map_append]
    rfl
   rw[hmap]at hsgw
   generalize(sbl vs l).take i=X at*
   simp only[if_pos hlt]
   repeat' (first|(refine awK fun _ _=>?_)|refine zHg ?_|refine(hAA.next (i+1) (by refine Le.trans ?_ (Le.looseRow 900 rfl (by show(0:Nat)≠1;decide));refine Le.trans ?_ (Le.shareSlot 6 rfl rfl);exact(Le.sub4 rfl (by simp[go_sem,hla,hmap,hsgw,loose_eBd,htl]))) (by omega) ?_)|(fail_if_success with_reducible refine Owe.mk ?_);(simp(disch:=omega) [go_sem,doO,stO,bxO,bestV,bRl,eStr,hlt,hvt,htl])|refine zAo ?_)
   all_goals(first|omega|skip)
   all_goals exact⟨by omega⟩
 ·obtain rfl:i=vs.length:=by omega
  simp only[Nat.lt_irrefl,if_false]
  repeat' (first|(refine awK fun _ _=>?_)|refine zHg ?_|refine stepK_is rfl (h1) (by simp) ?_|refine stepK_is rfl (h2) (by simp) ?_|refine stepK_is rfl (h3) (by simp) ?_|(fail_if_success with_reducible refine Owe.mk ?_);(simp(disch:=omega) [go_sem,doO,stO,bxO,bestV,bRl,eStr,hq]))
  refine endL_normal ⟨40,[],doO ⟨hT,[]⟩ vs l (some b)⟩ [] (Le.renSub [] [] (by simp[go_sem,doO,stO,bxO,bestV,bRl,eStr]) (by simp[go_sem,doO,stO,bxO,bestV,bRl,eStr]) (Le.sub4 rfl (by simp[go_sem,doO,stO,bxO,bestV,bRl,eStr]))) (by simp[go_sem,doO,stO,bxO,bestV,bRl,eStr]) ⟨rfl,rfl⟩
theorem do11n_ok (r:Rl) (vs l:List ByteArray) (hvl:vs.length=l.length) (hlen:l.length≤5) (hvs:AscG strC vs) (hh:r.head.size≤1000000) (hb: ∀b∈r.body,b.atom.size≤1000000) (hl:r.body.length≤12) (hn: ¬l.length=0) (hb0: ¬r.body.length=0):
 MCall Tryz.prog 38 [.ref 1101 0 l.length,.ptr 1102 0 0,.ptr 1103 0 0,.ptr 1104 0 0,.ptr 1105 0 0] (doO r vs l none) (fun v o'=>v= .tup []∧o'=doO r vs l (some (cndR r vs l))):=by
 have hS:=sbl_asc (l:=l) hvs
 have hZ:=sbl_size (vs:=vs) (l:=l)
 unfold cndR at*
 obtain⟨hT,bs⟩:=r
 dsimp only at hh hb hl hb0
 have h1:=ApplyRule1_ok (sbl vs l) false hS hZ ⟨hT,bs⟩ hh hb (by dsimp only;omega) hb0
 dsimp only at h1
 have hx:tidyR (apR (sbl vs l) ⟨hT,bs⟩)=⟨apT (sbl vs l) hT,srtG ltC (bs.map (apB (sbl vs l)))⟩:=rfl
 rw[hx]
 have h2:=sorted1_ok (apT (sbl vs l) hT) (bs.map (apB (sbl vs l))) (by rw[List.length_map];exact hl)
 rw[List.length_map]at h2
 have hsl:=srtG_len (c:=ltC) (bs.map (apB (sbl vs l)))
 rw[List.length_map]at hsl
 have hml:(bs.map (apB (sbl vs l))).length=bs.length:=List.length_map _
 generalize apT (sbl vs l) hT=H at*
 generalize srtG ltC (bs.map (apB (sbl vs l)))=D at*
 generalize bs.map (apB (sbl vs l))=m at*
 have hlenS:seg (D.map eLt++List.replicate (bs.length - D.length) zL) 0 D.length=D.map eLt:=seg_app (by simp)
 dsimp only[zL,bl]at hlenS
 clear hS hZ hx hb hh
 refine mcall_of_awpL Tryz.func38 Tryz.call38 rfl (by simp[Tryz.ntmps38]) ?_;simp only[Tryz.ntmps38,Tryz.results38]
 repeat' (first|(refine awK fun _ _=>?_)|refine zHg ?_|(fail_if_success with_reducible refine Owe.mk ?_);(simp(disch:=omega) [go_sem,doO,stO,bxO,bestV,bRl,eStr]))
 have hpos:0<vs.length:=by omega
 refine awp_for [0,2,3,4,10,11] [900] (fun i:Nat=> [(12,nt .i64 i),(6,if i<vs.length then .ref 900 0 i else .list false false ((sbl vs l).map eBd))]) (fun i:Nat=>(if i<vs.length then[(900,⟨true,false,false,3,((sbl vs l).take i).map eBd,0⟩)]else[])) (fun i:Nat=>vs.length - i) (fun i:Nat=>i≤vs.length) (0) (by refine Le.trans ?_ (Le.nil (i:=6) (T:=900) (es:=3) rfl);exact(Le.sub4 rfl (by simp[go_sem,doO,stO,bxO,bestV,bRl,eStr,hpos,List.take_zero,List.map_nil]))) ⟨?_⟩ ?_
 ·exact Nat.zero_le _
 intro i hi AA hAA;simp only[kL,Nat.reduceBEq,Nat.reduceEqDiff,if_true,if_false,List.cons_append,List.nil_append,List.append_nil]
 by_cases hlt:i<vs.length
 ·have hvt:i<l.length:=by omega
  have hnx:=sbl_next hlt hvt
  have hSl:=sbl_len hvl
  have htl:((sbl vs l).take i).length=i:=by rw[List.length_take];omega
  by_cases hla:i+1<vs.length
  ·generalize(sbl vs l).take i=X at*
   simp only[if_pos hlt]
   repeat' (first|(refine awK fun _ _=>?_)|refine zHg ?_|refine(hAA.next (i+1) (by refine Le.trans ?_ (Le.looseRow 900 rfl (by show(0:Nat)≠1;decide));exact(Le.sub4 rfl (by simp[go_sem,hla,hnx,loose_eBd,htl]))) (by omega) ?_)|(fail_if_success with_reducible refine Owe.mk ?_);(simp(disch:=omega) [go_sem,doO,stO,bxO,bestV,bRl,eStr,hlt,hvt,htl])|refine zAo ?_)
   all_goals(first|omega|skip)
   all_goals exact⟨by omega⟩
  ·have hlast:i+1=vs.length:=by omega
   have hall:(sbl vs l).take (i+1)=sbl vs l:=List.take_of_length_le (by omega)
   rw[hall]at hnx
   have hsgw:seg ((sbl vs l).map eBd) 0 (i+1)=(sbl vs l).map eBd:=by
    have e:i+1=((sbl vs l).map eBd).length:=by rw[List.length_map];omega
    rw[e];exact seg_whole
   have hmap:((sbl vs l).map eBd)=((sbl vs l).take i).map eBd++ [eBd ⟨vs[i],.mk l[i] []⟩]:=by
    conv=>lhs;rw[hnx,List.map_append]
    rfl
   rw[hmap]at hsgw
   generalize(sbl vs l).take i=X at*
   simp only[if_pos hlt]
   repeat' (first|(refine awK fun _ _=>?_)|refine zHg ?_|refine(hAA.next (i+1) (by refine Le.trans ?_ (Le.looseRow 900 rfl (by show(0:Nat)≠1;decide));refine Le.trans ?_ (Le.shareSlot 6 rfl rfl);exact(Le.sub4 rfl (by simp[go_sem,hla,hmap,hsgw,loose_eBd,htl]))) (by omega) ?_)|(fail_if_success with_reducible refine Owe.mk ?_);(simp(disch:=omega) [go_sem,doO,stO,bxO,bestV,bRl,eStr,hlt,hvt,htl])|refine zAo ?_)
   all_goals(first|omega|skip)
   all_goals exact⟨by omega⟩
 ·obtain rfl:i=vs.length:=by omega
  simp only[Nat.lt_irrefl,if_false]
  repeat' (first|(refine awK fun _ _=>?_)|refine zHg ?_|(fail_if_success with_reducible refine Owe.mk ?_);(simp(disch:=omega) [go_sem,doO,stO,bxO,bestV,bRl,eStr]))
  refine stepK_fis [] [] 10000 _ _ (Fits.mk' (by simp[go_sem,doO,stO,bxO,bestV,bRl,eStr]) (by simp[go_sem,doO,stO,bxO,bestV,bRl,eStr])) (by simp[go_sem,doO,stO,bxO,bestV,bRl,eStr]) (by simp[go_sem,doO,stO,bxO,bestV,bRl,eStr]) (h1) (by simp[go_sem,doO,stO,bxO,bestV,bRl,eStr]) (by simp[go_sem,doO,stO,bxO,bestV,bRl,eStr]) ?_
  repeat' (first|(fail_if_success with_reducible refine Owe.mk ?_);(simp(disch:=omega) [go_sem,doO,stO,bxO,bestV,bRl,eStr]))
  refine stepK_fis [(1000,10900)] [(10900,1000)] 20000 _ _ (Fits.mk' (by simp[go_sem,doO,stO,bxO,bestV,bRl,eStr,hml]) (by simp[go_sem,doO,stO,bxO,bestV,bRl,eStr,hml])) (by simp[go_sem,doO,stO,bxO,bestV,bRl,eStr,hml]) (by simp[go_sem,doO,stO,bxO,bestV,bRl,eStr,hml]) (h2) (by simp[go_sem,doO,stO,bxO,bestV,bRl,eStr,hml]) (by simp[go_sem,doO,stO,bxO,bestV,bRl,eStr,hml]) ?_
  repeat' (first|(refine awK fun _ _=>?_)|refine zHg ?_|(fail_if_success with_reducible refine Owe.mk ?_);(simp(disch:=omega) [go_sem,doO,stO,bxO,bestV,bRl,eStr,hlenS,eRlF]))
  refine endL_normal ⟨40,[],doO ⟨hT,bs⟩ vs l (some ⟨H,D⟩)⟩ [] (by refine Le.trans ?_ (Le.shareBox 1105 rfl (by decide) rfl rfl);exact(Le.sub4 rfl (by simp[go_sem,doO,stO,bxO,bestV,bRl,hlenS]))) (by simp[go_sem]) ⟨rfl,rfl⟩
theorem do11l_ok (r:Rl) (vs l:List ByteArray) (hvl:vs.length=l.length) (hlen:l.length≤5) (hvs:AscG strC vs) (hh:r.head.size≤1000000) (hb: ∀b∈r.body,b.atom.size≤1000000) (hl:r.body.length≤12) (hn: ¬l.length=0) (hb0: ¬r.body.length=0) (b:Rl) (hq:rlC (cndR r vs l) b<0):
 MCall Tryz.prog 38 [.ref 1101 0 l.length,.ptr 1102 0 0,.ptr 1103 0 0,.ptr 1104 0 0,.ptr 1105 0 0] (doO r vs l (some b)) (fun v o'=>v= .tup []∧o'=doO r vs l (some (cndR r vs l))):=by
 have hS:=sbl_asc (l:=l) hvs
 have hZ:=sbl_size (vs:=vs) (l:=l)
 unfold cndR at*
 obtain⟨hT,bs⟩:=r
 dsimp only at hh hb hl hb0
 have h1:=ApplyRule1_ok (sbl vs l) false hS hZ ⟨hT,bs⟩ hh hb (by dsimp only;omega) hb0
 dsimp only at h1
 have hx:tidyR (apR (sbl vs l) ⟨hT,bs⟩)=⟨apT (sbl vs l) hT,srtG ltC (bs.map (apB (sbl vs l)))⟩:=rfl
 rw[hx]at hq ⊢
 have h2:=sorted1_ok (apT (sbl vs l) hT) (bs.map (apB (sbl vs l))) (by rw[List.length_map];exact hl)
 rw[List.length_map]at h2
 have hsl:=srtG_len (c:=ltC) (bs.map (apB (sbl vs l)))
 rw[List.length_map]at hsl
 have hml:(bs.map (apB (sbl vs l))).length=bs.length:=List.length_map _
 generalize apT (sbl vs l) hT=H at*
 generalize srtG ltC (bs.map (apB (sbl vs l)))=D at*
 generalize bs.map (apB (sbl vs l))=m at*
 have h3:ACall Tryz.prog 12 [eRlF true false ⟨H,D⟩,eRl b] (fun r=>r=nt .i64 (rlC ⟨H,D⟩ b)):=cmpRl_ok _ b true false false false
 generalize rlC ⟨H,D⟩ b=c at*
 have hlenS:seg (D.map eLt++List.replicate (bs.length - D.length) zL) 0 D.length=D.map eLt:=seg_app (by simp)
 dsimp only[zL,bl]at hlenS
 clear hS hZ hx hb hh
 refine mcall_of_awpL Tryz.func38 Tryz.call38 rfl (by simp[Tryz.ntmps38]) ?_;simp only[Tryz.ntmps38,Tryz.results38]
 repeat' (first|(refine awK fun _ _=>?_)|refine zHg ?_|(fail_if_success with_reducible refine Owe.mk ?_);(simp(disch:=omega) [go_sem,doO,stO,bxO,bestV,bRl,eStr]))
 have hpos:0<vs.length:=by omega
 refine awp_for [0,2,3,4,10,11] [900] (fun i:Nat=> [(12,nt .i64 i),(6,if i<vs.length then .ref 900 0 i else .list false false ((sbl vs l).map eBd))]) (fun i:Nat=>(if i<vs.length then[(900,⟨true,false,false,3,((sbl vs l).take i).map eBd,0⟩)]else[])) (fun i:Nat=>vs.length - i) (fun i:Nat=>i≤vs.length) (0) (by refine Le.trans ?_ (Le.nil (i:=6) (T:=900) (es:=3) rfl);exact(Le.sub4 rfl (by simp[go_sem,doO,stO,bxO,bestV,bRl,eStr,hpos,List.take_zero,List.map_nil]))) ⟨?_⟩ ?_
 ·exact Nat.zero_le _
 intro i hi AA hAA;simp only[kL,Nat.reduceBEq,Nat.reduceEqDiff,if_true,if_false,List.cons_append,List.nil_append,List.append_nil]
 by_cases hlt:i<vs.length
 ·have hvt:i<l.length:=by omega
  have hnx:=sbl_next hlt hvt
  have hSl:=sbl_len hvl
  have htl:((sbl vs l).take i).length=i:=by rw[List.length_take];omega
  by_cases hla:i+1<vs.length
  ·generalize(sbl vs l).take i=X at*
   simp only[if_pos hlt]
   repeat' (first|(refine awK fun _ _=>?_)|refine zHg ?_|refine(hAA.next (i+1) (by refine Le.trans ?_ (Le.looseRow 900 rfl (by show(0:Nat)≠1;decide));exact(Le.sub4 rfl (by simp[go_sem,hla,hnx,loose_eBd,htl]))) (by omega) ?_)|(fail_if_success with_reducible refine Owe.mk ?_);(simp(disch:=omega) [go_sem,doO,stO,bxO,bestV,bRl,eStr,hlt,hvt,htl])|refine zAo ?_)
   all_goals(first|omega|skip)
   all_goals exact⟨by omega⟩
  ·have hlast:i+1=vs.length:=by omega
   have hall:(sbl vs l).take (i+1)=sbl vs l:=List.take_of_length_le (by omega)
   rw[hall]at hnx
   have hsgw:seg ((sbl vs l).map eBd) 0 (i+1)=(sbl vs l).map eBd:=by
    have e:i+1=((sbl vs l).map eBd).length:=by rw[List.length_map];omega
    rw[e];exact seg_whole
   have hmap:((sbl vs l).map eBd)=((sbl vs l).take i).map eBd++ [eBd ⟨vs[i],.mk l[i] []⟩]:=by
    conv=>lhs;rw[hnx,List.map_append]
    rfl
   rw[hmap]at hsgw
   generalize(sbl vs l).take i=X at*
   simp only[if_pos hlt]
   repeat' (first|(refine awK fun _ _=>?_)|refine zHg ?_|refine(hAA.next (i+1) (by refine Le.trans ?_ (Le.looseRow 900 rfl (by show(0:Nat)≠1;decide));refine Le.trans ?_ (Le.shareSlot 6 rfl rfl);exact(Le.sub4 rfl (by simp[go_sem,hla,hmap,hsgw,loose_eBd,htl]))) (by omega) ?_)|(fail_if_success with_reducible refine Owe.mk ?_);(simp(disch:=omega) [go_sem,doO,stO,bxO,bestV,bRl,eStr,hlt,hvt,htl])|refine zAo ?_)
   all_goals(first|omega|skip)
   all_goals exact⟨by omega⟩
 ·obtain rfl:i=vs.length:=by omega
  simp only[Nat.lt_irrefl,if_false]
  repeat' (first|(refine awK fun _ _=>?_)|refine zHg ?_|(fail_if_success with_reducible refine Owe.mk ?_);(simp(disch:=omega) [go_sem,doO,stO,bxO,bestV,bRl,eStr]))
  refine stepK_fis [] [] 10000 _ _ (Fits.mk' (by simp[go_sem,doO,stO,bxO,bestV,bRl,eStr]) (by simp[go_sem,doO,stO,bxO,bestV,bRl,eStr])) (by simp[go_sem,doO,stO,bxO,bestV,bRl,eStr]) (by simp[go_sem,doO,stO,bxO,bestV,bRl,eStr]) (h1) (by simp[go_sem,doO,stO,bxO,bestV,bRl,eStr]) (by simp[go_sem,doO,stO,bxO,bestV,bRl,eStr]) ?_
  repeat' (first|(fail_if_success with_reducible refine Owe.mk ?_);(simp(disch:=omega) [go_sem,doO,stO,bxO,bestV,bRl,eStr]))
  refine stepK_fis [(1000,10900)] [(10900,1000)] 20000 _ _ (Fits.mk' (by simp[go_sem,doO,stO,bxO,bestV,bRl,eStr,hml]) (by simp[go_sem,doO,stO,bxO,bestV,bRl,eStr,hml])) (by simp[go_sem,doO,stO,bxO,bestV,bRl,eStr,hml]) (by simp[go_sem,doO,stO,bxO,bestV,bRl,eStr,hml]) (h2) (by simp[go_sem,doO,stO,bxO,bestV,bRl,eStr,hml]) (by simp[go_sem,doO,stO,bxO,bestV,bRl,eStr,hml]) ?_
  repeat' (first|(refine awK fun _ _=>?_)|refine zHg ?_|refine stepK_is ?hl (h3) (by simp) ?_;(case hl=>(simp[go_sem,doO,stO,bxO,bestV,bRl,eStr,hlenS,hq,eRlF];done))|(fail_if_success with_reducible refine Owe.mk ?_);(simp(disch:=omega) [go_sem,doO,stO,bxO,bestV,bRl,eStr,hlenS,hq,eRlF]))
  refine endL_normal ⟨40,[],doO ⟨hT,bs⟩ vs l (some ⟨H,D⟩)⟩ [] (by refine Le.trans ?_ (Le.shareBox 1105 rfl (by decide) rfl rfl);exact(Le.sub4 rfl (by simp[go_sem,doO,stO,bxO,bestV,bRl,hlenS]))) (by simp[go_sem]) ⟨rfl,rfl⟩
theorem do11g_ok (r:Rl) (vs l:List ByteArray) (hvl:vs.length=l.length) (hlen:l.length≤5) (hvs:AscG strC vs) (hh:r.head.size≤1000000) (hb: ∀b∈r.body,b.atom.size≤1000000) (hl:r.body.length≤12) (hn: ¬l.length=0) (hb0: ¬r.body.length=0) (b:Rl) (hq: ¬rlC (cndR r vs l) b<0):
 MCall Tryz.prog 38 [.ref 1101 0 l.length,.ptr 1102 0 0,.ptr 1103 0 0,.ptr 1104 0 0,.ptr 1105 0 0] (doO r vs l (some b)) (fun v o'=>v= .tup []∧o'=doO r vs l (some b)):=by
 have hS:=sbl_asc (l:=l) hvs
 have hZ:=sbl_size (vs:=vs) (l:=l)
 unfold cndR at*
 obtain⟨hT,bs⟩:=r
 dsimp only at hh hb hl hb0
 have h1:=ApplyRule1_ok (sbl vs l) false hS hZ ⟨hT,bs⟩ hh hb (by dsimp only;omega) hb0
 dsimp only at h1
 have hx:tidyR (apR (sbl vs l) ⟨hT,bs⟩)=⟨apT (sbl vs l) hT,srtG ltC (bs.map (apB (sbl vs l)))⟩:=rfl
 rw[hx]at hq
 have h2:=sorted1_ok (apT (sbl vs l) hT) (bs.map (apB (sbl vs l))) (by rw[List.length_map];exact hl)
 rw[List.length_map]at h2
 have hsl:=srtG_len (c:=ltC) (bs.map (apB (sbl vs l)))
 rw[List.length_map]at hsl
 have hml:(bs.map (apB (sbl vs l))).length=bs.length:=List.length_map _
 generalize apT (sbl vs l) hT=H at*
 generalize srtG ltC (bs.map (apB (sbl vs l)))=D at*
 generalize bs.map (apB (sbl vs l))=m at*
 have h3:ACall Tryz.prog 12 [eRlF true false ⟨H,D⟩,eRl b] (fun r=>r=nt .i64 (rlC ⟨H,D⟩ b)):=cmpRl_ok _ b true false false false
 generalize rlC ⟨H,D⟩ b=c at*
 have hlenS:seg (D.map eLt++List.replicate (bs.length - D.length) zL) 0 D.length=D.map eLt:=seg_app (by simp)
 dsimp only[zL,bl]at hlenS
 clear hS hZ hx hb hh
 refine mcall_of_awpL Tryz.func38 Tryz.call38 rfl (by simp[Tryz.ntmps38]) ?_;simp only[Tryz.ntmps38,Tryz.results38]
 repeat' (first|(refine awK fun _ _=>?_)|refine zHg ?_|(fail_if_success with_reducible refine Owe.mk ?_);(simp(disch:=omega) [go_sem,doO,stO,bxO,bestV,bRl,eStr]))
 have hpos:0<vs.length:=by omega
 refine awp_for [0,2,3,4,10,11] [900] (fun i:Nat=> [(12,nt .i64 i),(6,if i<vs.length then .ref 900 0 i else .list false false ((sbl vs l).map eBd))]) (fun i:Nat=>(if i<vs.length then[(900,⟨true,false,false,3,((sbl vs l).take i).map eBd,0⟩)]else[])) (fun i:Nat=>vs.length - i) (fun i:Nat=>i≤vs.length) (0) (by refine Le.trans ?_ (Le.nil (i:=6) (T:=900) (es:=3) rfl);exact(Le.sub4 rfl (by simp[go_sem,doO,stO,bxO,bestV,bRl,eStr,hpos,List.take_zero,List.map_nil]))) ⟨?_⟩ ?_
 ·exact Nat.zero_le _
 intro i hi AA hAA;simp only[kL,Nat.reduceBEq,Nat.reduceEqDiff,if_true,if_false,List.cons_append,List.nil_append,List.append_nil]
 by_cases hlt:i<vs.length
 ·have hvt:i<l.length:=by omega
  have hnx:=sbl_next hlt hvt
  have hSl:=sbl_len hvl
  have htl:((sbl vs l).take i).length=i:=by rw[List.length_take];omega
  by_cases hla:i+1<vs.length
  ·generalize(sbl vs l).take i=X at*
   simp only[if_pos hlt]
   repeat' (first|(refine awK fun _ _=>?_)|refine zHg ?_|refine(hAA.next (i+1) (by refine Le.trans ?_ (Le.looseRow 900 rfl (by show(0:Nat)≠1;decide));exact(Le.sub4 rfl (by simp[go_sem,hla,hnx,loose_eBd,htl]))) (by omega) ?_)|(fail_if_success with_reducible refine Owe.mk ?_);(simp(disch:=omega) [go_sem,doO,stO,bxO,bestV,bRl,eStr,hlt,hvt,htl])|refine zAo ?_)
   all_goals(first|omega|skip)
   all_goals exact⟨by omega⟩
  ·have hlast:i+1=vs.length:=by omega
   have hall:(sbl vs l).take (i+1)=sbl vs l:=List.take_of_length_le (by omega)
   rw[hall]at hnx
   have hsgw:seg ((sbl vs l).map eBd) 0 (i+1)=(sbl vs l).map eBd:=by
    have e:i+1=((sbl vs l).map eBd).length:=by rw[List.length_map];omega
    rw[e];exact seg_whole
   have hmap:((sbl vs l).map eBd)=((sbl vs l).take i).map eBd++ [eBd ⟨vs[i],.mk l[i] []⟩]:=by
    conv=>lhs;rw[hnx,List.map_append]
    rfl
   rw[hmap]at hsgw
   generalize(sbl vs l).take i=X at*
   simp only[if_pos hlt]
   repeat' (first|(refine awK fun _ _=>?_)|refine zHg ?_|refine(hAA.next (i+1) (by refine Le.trans ?_ (Le.looseRow 900 rfl (by show(0:Nat)≠1;decide));refine Le.trans ?_ (Le.shareSlot 6 rfl rfl);exact(Le.sub4 rfl (by simp[go_sem,hla,hmap,hsgw,loose_eBd,htl]))) (by omega) ?_)|(fail_if_success with_reducible refine Owe.mk ?_);(simp(disch:=omega) [go_sem,doO,stO,bxO,bestV,bRl,eStr,hlt,hvt,htl])|refine zAo ?_)
   all_goals(first|omega|skip)
   all_goals exact⟨by omega⟩
 ·obtain rfl:i=vs.length:=by omega
  simp only[Nat.lt_irrefl,if_false]
  repeat' (first|(refine awK fun _ _=>?_)|refine zHg ?_|(fail_if_success with_reducible refine Owe.mk ?_);(simp(disch:=omega) [go_sem,doO,stO,bxO,bestV,bRl,eStr]))
  refine stepK_fis [] [] 10000 _ _ (Fits.mk' (by simp[go_sem,doO,stO,bxO,bestV,bRl,eStr]) (by simp[go_sem,doO,stO,bxO,bestV,bRl,eStr])) (by simp[go_sem,doO,stO,bxO,bestV,bRl,eStr]) (by simp[go_sem,doO,stO,bxO,bestV,bRl,eStr]) (h1) (by simp[go_sem,doO,stO,bxO,bestV,bRl,eStr]) (by simp[go_sem,doO,stO,bxO,bestV,bRl,eStr]) ?_
  repeat' (first|(fail_if_success with_reducible refine Owe.mk ?_);(simp(disch:=omega) [go_sem,doO,stO,bxO,bestV,bRl,eStr]))
  refine stepK_fis [(1000,10900)] [(10900,1000)] 20000 _ _ (Fits.mk' (by simp[go_sem,doO,stO,bxO,bestV,bRl,eStr,hml]) (by simp[go_sem,doO,stO,bxO,bestV,bRl,eStr,hml])) (by simp[go_sem,doO,stO,bxO,bestV,bRl,eStr,hml]) (by simp[go_sem,doO,stO,bxO,bestV,bRl,eStr,hml]) (h2) (by simp[go_sem,doO,stO,bxO,bestV,bRl,eStr,hml]) (by simp[go_sem,doO,stO,bxO,bestV,bRl,eStr,hml]) ?_
  repeat' (first|(refine awK fun _ _=>?_)|refine zHg ?_|refine stepK_is ?hl (h3) (by simp) ?_;(case hl=>(simp[go_sem,doO,stO,bxO,bestV,bRl,eStr,hlenS,hq,eRlF];done))|(fail_if_success with_reducible refine Owe.mk ?_);(simp(disch:=omega) [go_sem,doO,stO,bxO,bestV,bRl,eStr,hlenS,hq,eRlF]))
  refine endL_normal ⟨40,[],doO ⟨hT,bs⟩ vs l (some b)⟩ [] (Le.renSub [] [] (by simp[go_sem,doO,stO,bxO,bestV,bRl,eStr]) (by simp[go_sem,doO,stO,bxO,bestV,bRl,eStr]) (Le.sub4 rfl (by simp[go_sem,doO,stO,bxO,bestV,bRl,eStr]))) (by simp[go_sem,doO,stO,bxO,bestV,bRl,eStr]) ⟨rfl,rfl⟩
end Go.Proofs.YtkbglbcphjmiiaaGreatDoor
