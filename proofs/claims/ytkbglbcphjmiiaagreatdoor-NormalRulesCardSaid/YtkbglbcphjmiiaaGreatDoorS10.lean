import Derived.Test.YtkbglbcphjmiiaaGreatDoorS9
import Derived.Test.YtkbglbcphjmiiaaGreatDoorS5
import Derived.Test.YtkbglbcphjmiiaaGreatDoorS6
import Derived.Test.YtkbglbcphjmiiaaGreatDoorA12
set_option linter.unusedSimpArgs false
set_option linter.unusedVariables false
namespace Go.Proofs.YtkbglbcphjmiiaaGreatDoor
open Go.Ab
set_option maxRecDepth 100000
set_option maxHeartbeats 16000000
theorem swp_swp {α:Type} {l:List α} {i j:Nat} (hi:i<l.length) (hj:j<l.length):swp (swp l i j) i j=l:=by
 refine List.ext_getElem? fun k=>?_
 rw[swp_get (by rw[swp_len];exact hi) (by rw[swp_len];exact hj),swp_get hi hj,swp_get hi hj,swp_get hi hj]
 by_cases h1:k=j
 ·subst h1
  rw[if_pos rfl]
  by_cases h2:i=k
  ·subst h2;rw[if_pos rfl]
  ·rw[if_neg h2,if_pos rfl]
 ·rw[if_neg h1]
  by_cases h2:k=i
  ·subst h2;rw[if_pos rfl,if_pos rfl]
  ·rw[if_neg h2,if_neg h1,if_neg h2]
def tryB (r:Rl) (vs:List ByteArray) (B:Option Rl) (l:List ByteArray):Option Rl:=some (pickB (cndR r vs l) B)
theorem do_ok (r:Rl) (vs l:List ByteArray) (B:Option Rl) (hvl:vs.length=l.length) (hlen:l.length≤5) (hvs:AscG strC vs) (hh:r.head.size≤1000000) (hb: ∀b∈r.body,b.atom.size≤1000000) (hl:r.body.length≤12):
 MCall Tryz.prog 38 [.ref 1101 0 l.length,.ptr 1102 0 0,.ptr 1103 0 0,.ptr 1104 0 0,.ptr 1105 0 0] (doO r vs l B) (fun v o'=>v= .tup []∧o'=doO r vs l (tryB r vs B l)):=by
 unfold tryB
 cases B with
 |none=>
  show MCall _ _ _ _ (fun v o'=>v= .tup []∧o'=doO r vs l (some (cndR r vs l)))
  by_cases hn:l.length=0
  ·by_cases hb0:r.body.length=0
   ·exact do00n_ok r vs l hvl hlen hvs hh hb hl hn hb0
   ·exact do01n_ok r vs l hvl hlen hvs hh hb hl hn hb0
  ·by_cases hb0:r.body.length=0
   ·exact do10n_ok r vs l hvl hlen hvs hh hb hl hn hb0
   ·exact do11n_ok r vs l hvl hlen hvs hh hb hl hn hb0
 |some b=>
  have e:pickB (cndR r vs l) (some b)=if rlC (cndR r vs l) b<0 then cndR r vs l else b:=rfl
  rw[e]
  by_cases hq:rlC (cndR r vs l) b<0
  ·rw[if_pos hq]
   by_cases hn:l.length=0
   ·by_cases hb0:r.body.length=0
    ·exact do00l_ok r vs l hvl hlen hvs hh hb hl hn hb0 b hq
    ·exact do01l_ok r vs l hvl hlen hvs hh hb hl hn hb0 b hq
   ·by_cases hb0:r.body.length=0
    ·exact do10l_ok r vs l hvl hlen hvs hh hb hl hn hb0 b hq
    ·exact do11l_ok r vs l hvl hlen hvs hh hb hl hn hb0 b hq
  ·rw[if_neg hq]
   by_cases hn:l.length=0
   ·by_cases hb0:r.body.length=0
    ·exact do00g_ok r vs l hvl hlen hvs hh hb hl hn hb0 b hq
    ·exact do01g_ok r vs l hvl hlen hvs hh hb hl hn hb0 b hq
   ·by_cases hb0:r.body.length=0
    ·exact do10g_ok r vs l hvl hlen hvs hh hb hl hn hb0 b hq
    ·exact do11g_ok r vs l hvl hlen hvs hh hb hl hn hb0 b hq
abbrev doC:AV:= .clo 38 [.ptr 1102 0 0,.ptr 1103 0 0,.ptr 1104 0 0,.ptr 1105 0 0]
abbrev fmC:AV:= .clo 75 [.ptr 1110 0 0,.ptr 1111 0 0,.ptr 1112 0 0,.ptr 1113 0 0]
abbrev fmO (r:Rl) (vs l:List ByteArray) (B:Option Rl):Objs:=(1110,bxO 1 (nt .i64 vs.length))::(1111,bxO 1 doC)::(1112,⟨false,true,true,1,[.ref 1101 0 vs.length],0⟩)::(1113,bxO 1 fmC)::doO r vs l B
def blkL (k a:Nat) (l:List ByteArray) (d:Nat):List (List ByteArray):=(List.range d).flatMap fun e=>prmF k (a+1) (swp l a (a+e))
theorem blkL_next {k a:Nat} {l:List ByteArray} {d:Nat}:blkL k a l (d+1)=blkL k a l d++prmF k (a+1) (swp l a (a+d)):=by
 unfold blkL
 rw[List.range_succ,List.flatMap_append]
 simp
theorem set_self {l:List ByteArray} {a i:Nat} (h:i<l.length):((l.map eStr).set a (.sc (.string l[i])))[i]?=some (.sc (.string l[i])):=by
 rw[List.getElem?_set]
 by_cases e:a=i
 ·rw[if_pos e,if_pos (by rw[List.length_map];omega)]
 ·rw[if_neg e,List.getElem?_map,List.getElem?_eq_getElem h];rfl
theorem from_ok (r:Rl) (vs:List ByteArray) (hlen:vs.length≤5) (hvs:AscG strC vs) (hh:r.head.size≤1000000) (hb: ∀b∈r.body,b.atom.size≤1000000) (hl:r.body.length≤12): ∀(k a:Nat) (l:List ByteArray) (B:Option Rl),vs.length=l.length→a+k=vs.length→
 MCall Tryz.prog 75 [nt .i64 a,.ptr 1110 0 0,.ptr 1111 0 0,.ptr 1112 0 0,.ptr 1113 0 0] (fmO r vs l B) (fun v o'=>v= .tup []∧o'=fmO r vs l ((prmF k a l).foldl (tryB r vs) B))
 |0,a,l,B,hvl,hak=>by
  have hd:=do_ok r vs l B hvl (by omega) hvs hh hb hl
  rw[←hvl]at hd
  obtain rfl:a=vs.length:=by omega
  rw[prmF]
  show MCall _ _ _ _ (fun v o'=>v= .tup []∧o'=fmO r vs l (tryB r vs B l))
  generalize tryB r vs B l=C at*
  refine mcall_of_awpL Tryz.func75 Tryz.call75 rfl (by simp[Tryz.ntmps75]) ?_;simp only[Tryz.ntmps75,Tryz.results75]
  repeat' (first|(refine awK fun _ _=>?_)|refine zHg ?_|(fail_if_success with_reducible refine Owe.mk ?_);(simp(disch:=omega) [go_sem,fmO,doO,stO,bxO,doC,fmC,bestV]))
  refine stepK_fis [] [] 10000 _ _ (Fits.mk' (by simp[go_sem,fmO,doO,stO,bxO,bestV]) (by simp[go_sem,fmO,doO,stO,bxO,bestV])) (by simp[go_sem,fmO,doO,stO,bxO,bestV]) (by simp[go_sem,fmO,doO,stO,bxO,bestV]) (hd) (by simp[go_sem,fmO,doO,stO,bxO,bestV]) (by simp[go_sem,fmO,doO,stO,bxO,bestV]) ?_
  repeat' (first|(fail_if_success with_reducible refine Owe.mk ?_);(simp(disch:=omega) [go_sem,fmO,doO,stO,bxO,bestV]))
  refine endL_ret ⟨51,[],fmO r vs l C⟩ [] (Le.renSub [] [] (by simp[go_sem,fmO,doO,stO,bxO,bestV]) (by simp[go_sem,fmO,doO,stO,bxO,bestV]) (Le.sub4 rfl (by simp[go_sem,fmO,doO,stO,bxO,bestV]))) (by simp[go_sem,fmO,doO,stO,bxO,bestV]) ⟨rfl,rfl⟩
 |k+1,a,l,B,hvl,hak=>by
  have ih:=from_ok r vs hlen hvs hh hb hl k (a+1)
  rw[prmF]
  show MCall _ _ _ _ (fun v o'=>v= .tup []∧o'=fmO r vs l ((blkL k a l (k+1)).foldl (tryB r vs) B))
  generalize hR:(blkL k a l (k+1)).foldl (tryB r vs) B=R
  refine mcall_of_awpL Tryz.func75 Tryz.call75 rfl (by simp[Tryz.ntmps75]) ?_;simp only[Tryz.ntmps75,Tryz.results75]
  repeat' (first|(refine awK fun _ _=>?_)|refine zHg ?_|refine zqd ?_ ?_<;>(intro h;first|(exfalso;omega)|(simp only[h,zT]))|(fail_if_success with_reducible refine Owe.mk ?_);(simp(disch:=omega) [go_sem,fmO,doO,stO,bxO,doC,fmC,bestV]))
  all_goals(first|omega|skip)
  refine awp_for [0,1,3,4] [1110,1111,1112,1113,1101,1102,1103,1104,1105,1106] (fun x:Nat×Option Rl=> [(6,nt .i64 x.1)]) (fun x:Nat×Option Rl=>fmO r vs l x.2) (fun x:Nat×Option Rl=>vs.length - x.1) (fun x:Nat×Option Rl=>a≤x.1∧x.1≤vs.length∧x.2=(blkL k a l (x.1 - a)).foldl (tryB r vs) B) ((a,B)) (Le.sub4 rfl (by simp[go_sem,fmO,doO,stO,bxO,bestV])) ⟨?_⟩ ?_
  ·exact⟨Nat.le_refl _,by omega,by rw[Nat.sub_self];rfl⟩
  intro⟨i,C⟩ ⟨hi1,hi2,hC⟩ AA hAA;simp only[kL,Nat.reduceBEq,Nat.reduceEqDiff,if_true,if_false,List.cons_append,List.nil_append,List.append_nil]
  dsimp only at*
  by_cases hlt:i<vs.length
  ·have b1:a<l.length:=by omega
   have b2:i<l.length:=by omega
   have hsw1:=(swp_eq b1 b2).symm
   have hWl:(swp l a i).length=l.length:=swp_len _ _ _
   have hsw2:=swp_swp b1 b2
   have hnx:=blkL_next (k:=k) (a:=a) (l:=l) (d:=i - a)
   rw[show a+(i - a)=i by omega]at hnx
   have ih:=ih (swp l a i) C (by omega) (by omega)
   have hC':(prmF k (a+1) (swp l a i)).foldl (tryB r vs) C=(blkL k a l (i - a+1)).foldl (tryB r vs) B:=by rw[hnx,List.foldl_append,←hC]
   rw[hC']at ih
   generalize hC2:(blkL k a l (i - a+1)).foldl (tryB r vs) B=C' at*
   generalize swp l a i=W at*
   have c1:a<W.length:=by omega
   have c2:i<W.length:=by omega
   rw[swp_eq c1 c2]at hsw2
   have hst1:=set_self (a:=a) b2
   have hst2:=set_self (a:=a) c2
   clear hnx hC' hR
   repeat' (first|(refine awK fun _ _=>?_)|refine zHg ?_|(fail_if_success with_reducible refine Owe.mk ?_);(simp(disch:=omega) [go_sem,fmO,doO,stO,bxO,doC,fmC,bestV,hlt,b1,b2,eStr,hst1])|refine zAo ?_|refine zAny mix ?_|refine anyN_go ?_|refine zDone ?_|refine zQ 0 ?_|refine zQ 1 ?_|refine zQ 2 ?_|refine zQ 3 ?_|refine zQ 4 ?_|refine zQ 5 ?_|refine zQ 6 ?_|refine zQ 8 ?_|refine zQ 9 ?_|refine zQ 10 ?_|refine zQ 12 ?_|refine zQ 14 ?_|refine zAll ?_;show allI _ _ _ _ _ _ _|exact allI_zero|refine zSkip ?_|refine allI_do rfl ?_ ?_)
   all_goals refine stepK_fis [] [] 10000 _ _ (Fits.mk' (by simp[go_sem,fmO,doO,stO,bxO,bestV,set_eStr,hsw1,-List.map_set]) (by simp[go_sem,fmO,doO,stO,bxO,bestV,set_eStr,hsw1,-List.map_set])) (by simp[go_sem,fmO,doO,stO,bxO,bestV,set_eStr,hsw1,-List.map_set]) (by simp[go_sem,fmO,doO,stO,bxO,bestV,set_eStr,hsw1,-List.map_set]) (ih) (by simp[go_sem,fmO,doO,stO,bxO,bestV,set_eStr,hsw1,-List.map_set]) (by simp[go_sem,fmO,doO,stO,bxO,bestV,set_eStr,hsw1,-List.map_set]) ?_
   all_goals repeat' (first|refine zHg ?_|refine(hAA.next ((i+1,C')) (Le.sub4 rfl (by simp[go_sem,fmO,doO,stO,bxO,bestV,set_eStr,hsw2,-List.map_set])) (by(try dsimp only);omega) ?_)|(fail_if_success with_reducible refine Owe.mk ?_);(simp(disch:=omega) [go_sem,fmO,doO,stO,bxO,doC,fmC,bestV,c1,c2,eStr,hst2])|refine zAo ?_|refine zAny mix ?_|refine anyN_go ?_|refine zDone ?_|refine zQ 0 ?_|refine zQ 1 ?_|refine zQ 2 ?_|refine zQ 3 ?_|refine zQ 4 ?_|refine zQ 5 ?_|refine zQ 6 ?_|refine zQ 8 ?_|refine zQ 9 ?_|refine zQ 10 ?_|refine zQ 12 ?_|refine zQ 14 ?_|refine zAll ?_;show allI _ _ _ _ _ _ _|exact allI_zero|refine zSkip ?_|refine allI_do rfl ?_ ?_)
   all_goals(first|omega|skip)
   all_goals exact⟨⟨by omega,hlt,by rw[show i+1 - a=i - a+1 by omega,hC2]⟩⟩
  ·obtain rfl:i=vs.length:=by omega
   rw[show vs.length - a=k+1 by omega,hR]at hC
   subst hC
   repeat' (first|(refine awK fun _ _=>?_)|refine zHg ?_|(fail_if_success with_reducible refine Owe.mk ?_);(simp(disch:=omega) [go_sem,fmO,doO,stO,bxO,doC,fmC,bestV]))
   refine endL_normal ⟨51,[],fmO r vs l C⟩ [] (Le.renSub [] [] (by simp[go_sem,fmO,doO,stO,bxO,bestV]) (by simp[go_sem,fmO,doO,stO,bxO,bestV]) (Le.sub4 rfl (by simp[go_sem,fmO,doO,stO,bxO,bestV]))) (by simp[go_sem,fmO,doO,stO,bxO,bestV]) ⟨rfl,rfl⟩
theorem withL_all {lv:Int} {v:Bool} (l:List Tm):withL lv v l=l.all (withT lv v):=by
 induction l with
 |nil=>rfl
 |cons t r ih=>
  rw[List.all_cons,←ih]
  rfl
theorem with_ren {f:ByteArray→ByteArray}: ∀(t:Tm) (lv:Int),(∀v∈lvs t,varS v=true→varS (f v)=true)→withT lv true (renT f t)=withT lv true t:=by
 refine tm_ind fun t ih lv h=>?_
 obtain⟨n,ts⟩:=t
 simp only[args_mk]at ih
 rw[renT_mk]
 by_cases h0:ts.length=0
 ·obtain rfl:=List.eq_nil_of_length_eq_zero h0
  simp only[List.length_nil,if_true]
  rw[withT_mk,withT_mk]
  by_cases hv:varS n=true
  ·have:=h n (by rw[lvs_mk,if_pos h0];simp) hv
   rw[if_pos hv,this,hv]
   simp
  ·rw[if_neg hv]
 ·rw[if_neg h0,withT_mk,withT_mk,List.length_map]
  split
  ·rfl
  ·rw[withL_all,withL_all,List.all_map]
   congr 1
   refine Bool.eq_iff_iff.2 ?_
   rw[List.all_eq_true,List.all_eq_true]
   have e: ∀u∈ts,withT (lv - 1) true (renT f u)=withT (lv - 1) true u:=fun u hu=>ih u hu _ fun v hv=>h v (by
    rw[lvs_mk,if_neg h0]
    exact lvsS_mem.2 ⟨u,hu,hv⟩)
   exact⟨fun q u hu=>(e u hu).symm.trans (q u hu),fun q u hu=>(e u hu).trans (q u hu)⟩
def atmV (t:Tm):Bool:=nameS t.name&&withT 4 true t
theorem atmV_ren {f:ByteArray→ByteArray} {t:Tm} (h: ∀v∈lvs t,varS v=true→varS (f v)=true) (ht:atmV t=true):atmV (renT f t)=true:=by
 unfold atmV at*
 rw[Bool.and_eq_true]at ht ⊢
 refine⟨?_,(with_ren t 4 h).trans ht.2⟩
 obtain⟨n,ts⟩:=t
 rw[renT_mk]
 have hn:nameS n=true:=ht.1
 split
 ·have hv:varS n=false:=const_var (by unfold constS;rw[hn];rfl)
  rw[if_neg (by rw[hv];simp)]
  exact hn
 ·exact hn
def vldR (r:Rl):Bool:=decide (r.body.length≤8)&&(atmR r).all atmV
theorem vldR_iff {r:Rl}:vldR r=true↔r.body.length≤8∧atmV r.head=true∧ ∀b∈r.body,atmV b.atom=true:=by
 unfold vldR atmR
 rw[Bool.and_eq_true,decide_eq_true_eq,List.all_eq_true]
 simp
def nrmE (r:Rl):Int:=if vldR r=true then(if 5<(varsR r).length then 11 else 0)else 13
theorem nrmE_zero {r:Rl}:nrmE r=0↔vldR r=true∧(varsR r).length≤5:=by
 unfold nrmE
 split
 ·rename_i h
  split
  ·simp[h];omega
  ·simp[h];omega
 ·rename_i h
  simp[h]
theorem nrm_ren {r r':Rl} {f:ByteArray→ByteArray} (hi: ∀v∈varsR r,∀w∈varsR r,f v=f w→v=w) (hv: ∀v∈varsR r,varS (f v)=true)
 (hh:r'.head=renT f r.head) (hb: ∀b,b∈r'.body↔b∈(renR f r).body) (hl:r'.body.length≤8) (h0:nrmE r=0):nrmE r'=0∧nrmB r'=nrmB r:=by
 rw[nrmE_zero,vldR_iff]at h0
 obtain⟨⟨h1,h2,h3⟩,h4⟩:=h0
 have hp:=vars_ren hi hv hh hb
 refine⟨nrmE_zero.2 ⟨vldR_iff.2 ⟨hl,?_,fun b hb'=>?_⟩,by rw[hp.length_eq,List.length_map];exact h4⟩,nrmB_congr fun x=>(isC_ren hi hv hh hb x)⟩
 ·rw[hh]
  exact atmV_ren (fun v hm hvv=>hv v (mem_varsR.2 ⟨.inl hm,hvv⟩)) h2
 ·obtain⟨b0,hb0,rfl⟩:=List.mem_map.1 ((hb b).1 hb')
  exact atmV_ren (fun v hm hvv=>hv v (mem_varsR.2 ⟨.inr ⟨b0,hb0,hm⟩,hvv⟩)) (h3 b0 hb0)
theorem nmV_var {i:Nat} (h:i<5):varS (nmV i)=true:=by
 have:i=0∨i=1∨i=2∨i=3∨i=4:=by omega
 rcases this with rfl|rfl|rfl|rfl|rfl<;>decide+kernel
theorem nrm_twice {r:Rl} (h0:nrmE r=0):nrmE (nrmB r)=0∧nrmB (nrmB r)=nrmB r:=by
 obtain⟨f,h1,h2⟩:=nrmB_isC r
 have hz:=h0
 rw[nrmE_zero,vldR_iff]at hz
 have hn:((varsR r).map f).Nodup:=h1.nodup_iff.2 (nodup_map List.nodup_range fun a ha b hb e=>by
  rw[List.mem_range]at ha hb
  have h5:a<5:=by omega
  have h6:b<5:=by omega
  have h7:(a=0∨a=1∨a=2∨a=3∨a=4)∧(b=0∨b=1∨b=2∨b=3∨b=4):=by omega
  rcases h7 with⟨rfl|rfl|rfl|rfl|rfl,rfl|rfl|rfl|rfl|rfl⟩<;>first|rfl|(exact absurd e (by decide+kernel)))
 refine nrm_ren (f:=f) (inj_of_nodup hn) (fun v hv=>?_) (by rw[h2];rfl) (fun b=>?_) ?_ h0
 ·have:f v∈nmsN (varsR r).length:=h1.mem_iff.1 (List.mem_map.2 ⟨v,hv,rfl⟩)
  obtain⟨i,hi,e⟩:=List.mem_map.1 this
  rw[←e]
  rw[List.mem_range]at hi
  exact nmV_var (by omega)
 ·rw[h2]
  exact srtG_mem tot_L _ _
 ·rw[h2]
  have:=srtG_len (c:=ltC) (renR f r).body
  have e:(renR f r).body.length=r.body.length:=by unfold renR;simp
  show(srtG ltC (renR f r).body).length≤8
  omega
def rlsX:List Rl→Int
 | []=>0
 |r::q=>if nrmE r=0 then rlsX q else nrmE r
theorem rlsX_zero: ∀{l:List Rl},rlsX l=0↔ ∀r∈l,nrmE r=0
 | []=>by simp[rlsX]
 |r::q=>by
  rw[rlsX]
  split
  ·rename_i h
   rw[rlsX_zero]
   simp[h]
  ·rename_i h
   simp[h]
def rlsE (l:List Rl):Int:=if 128<l.length then 2 else rlsX l
def rlsR (l:List Rl):List Rl:=srtG rlC (l.map nrmB)
theorem rls_mem {l m:List Rl} (h: ∀x,x∈l↔x∈m) (hl:l.length≤128) (hm:m.length≤128):(rlsE l=0↔rlsE m=0)∧rlsR l=rlsR m:=by
 refine⟨?_,srtG_congr tot_R fun x=>?_⟩
 ·unfold rlsE
  rw[if_neg (by omega),if_neg (by omega),rlsX_zero,rlsX_zero]
  exact⟨fun q r hr=>q r ((h r).2 hr),fun q r hr=>q r ((h r).1 hr)⟩
 ·rw[List.mem_map,List.mem_map]
  constructor
  ·rintro⟨r,hr,e⟩;exact⟨r,(h r).1 hr,e⟩
  ·rintro⟨r,hr,e⟩;exact⟨r,(h r).2 hr,e⟩
structure SzR (r:Rl):Prop where
 head:r.head.size≤20
 body:r.body.length≤12
 atom: ∀b∈r.body,b.atom.size≤20
def atmP (r:Rl) (i:Nat):List Tm:=r.head::(r.body.take i).map Lt.atom
theorem atmP_next {r:Rl} {i:Nat} (h:i<r.body.length):atmP r (i+1)=atmP r i++ [r.body[i].atom]:=by
 unfold atmP;rw[take_next h,List.map_append];rfl
theorem atmP_len {r:Rl} {i:Nat} (h:i≤r.body.length):(atmP r i).length=i+1:=by
 unfold atmP;rw[List.length_cons,List.length_map,List.length_take];omega
theorem atmP_all (r:Rl):atmP r r.body.length=atmR r:=by unfold atmP atmR;rw[List.take_length]
theorem atmP_zero (r:Rl):atmP r 0= [r.head]:=rfl
theorem atoms_ok (r:Rl) (hl:r.body.length≤1000000):ACall Tryz.prog 35 [eRl r] (fun v=>v= .own 2 ((atmR r).map eTm)):=by
 rw[←atmP_all]
 have hz:=atmP_zero r
 have hz2:(atmP r 0).map eTm= [eT r.head]:=by rw[hz];simp[eTm_eq]
 refine acall_of_awp Tryz.func35 Tryz.call35 rfl (by simp[Tryz.ntmps35]) ?_;simp only[Tryz.ntmps35,Tryz.results35]
 repeat' (first|(refine awK fun _ _=>?_)|refine zHg ?_|(fail_if_success with_reducible refine Owe.mk ?_);(simp(disch:=omega) [go_sem]))
 refine awp_for [10,11] [8] (fun i:Nat=> [(12,nt .i64 i),(3,.ref 8 0 (i+1))]) (fun i:Nat=> [(8,⟨true,false,false,2,(atmP r i).map eTm,0⟩)]) (fun i:Nat=>r.body.length - i) (fun i:Nat=>i≤r.body.length) (0) (Le.sub4 rfl (by simp[go_sem,hz2])) ⟨?_⟩ ?_
 ·exact Nat.zero_le _
 intro i hi AA hAA;simp only[kL,Nat.reduceBEq,Nat.reduceEqDiff,if_true,if_false,List.cons_append,List.nil_append,List.append_nil]
 have hal:=atmP_len hi
 by_cases hlt:i<r.body.length
 ·have hnx:=atmP_next hlt
  have hne:(atmP r (i+1)).map eTm=(atmP r i).map eTm++ [eT r.body[i].atom]:=by rw[hnx,List.map_append];simp[eTm_eq]
  generalize(atmP r i)=A at*
  repeat' (first|(refine awK fun _ _=>?_)|refine zHg ?_|refine(hAA.next (i+1) (Le.sub4 rfl (by simp[go_sem,hne,hal])) (by(try dsimp only);omega) ?_)|(fail_if_success with_reducible refine Owe.mk ?_);(simp(disch:=omega) [go_sem,hlt,hal])|refine zAo ?_)
  all_goals(first|omega|skip)
  exact⟨hlt⟩
 ·obtain rfl:i=r.body.length:=by omega
  rw[←hal]
  repeat' (first|(refine awK fun _ _=>?_)|refine zHg ?_|refine end_ret [] ?_;simp[go_sem,hal]|(fail_if_success with_reducible refine Owe.mk ?_);(simp(disch:=omega) [go_sem,hal]))
theorem printable_ok (r:Rl) (hl:r.body.length≤1000000):ACall Tryz.prog 33 [eRl r] (fun v=>v=bl (vldR r)):=by
 have ha:=atoms_ok r hl
 have hal:(atmR r).length=r.body.length+1:=by unfold atmR;simp
 generalize hV:vldR r=V
 unfold vldR at hV
 by_cases h8:r.body.length≤8
 ·have h8': ¬(8:Int)<r.body.length:=by omega
  rw[decide_eq_true h8,Bool.true_and]at hV
  generalize atmR r=L at*
  refine acall_of_awp Tryz.func33 Tryz.call33 rfl (by simp[Tryz.ntmps33]) ?_;simp only[Tryz.ntmps33,Tryz.results33]
  repeat' (first|(refine awK fun _ _=>?_)|refine zHg ?_|refine stepK_is rfl (ha) (by simp) ?_|(fail_if_success with_reducible refine Owe.mk ?_);(simp(disch:=omega) [go_sem,h8']))
  refine awp_for [10,11] [] (fun i:Nat=> [(12,nt .i64 i)]) (fun i:Nat=> []) (fun i:Nat=>L.length - i) (fun i:Nat=>i≤L.length∧ ∀(k:Nat) (hk:k<L.length),k<i→atmV L[k]=true) (0) (Le.sub4 rfl (by simp[go_sem])) ⟨?_⟩ ?_
  ·exact⟨Nat.zero_le _,fun k _ hk=>absurd hk (Nat.not_lt_zero _)⟩
  intro i ⟨hi,hn⟩ AA hAA;simp only[kL,Nat.reduceBEq,Nat.reduceEqDiff,if_true,if_false,List.cons_append,List.nil_append,List.append_nil]
  by_cases hlt:i<L.length
  ·have h1:=Name_ok L[i].name
   have h2:=Valid_ok L[i]
   have hbad:atmV L[i]=false→V=false:=fun h=>by
    rw[←hV,List.all_eq_false]
    exact⟨_,List.getElem_mem hlt,by rw[h];simp⟩
   have hgo:atmV L[i]=true→ ∀(k:Nat) (hk:k<L.length),k<i+1→atmV L[k]=true:=fun h k hk hki=>by
    rcases Nat.lt_or_eq_of_le (Nat.le_of_lt_succ hki)with h'|rfl
    ·exact hn k hk h'
    ·exact h
   unfold atmV at hbad hgo
   clear hV hn
   cases q1:nameS L[i].name
   ·rw[q1]at h1 hbad
    obtain rfl:=hbad rfl
    repeat' (first|(refine awK fun _ _=>?_)|refine zHg ?_|refine end_ret [] ?_;simp[go_sem,hlt]|refine stepK_is rfl (h1) (by simp) ?_|(fail_if_success with_reducible refine Owe.mk ?_);(simp(disch:=omega) [go_sem,hlt]))
   ·rw[q1]at h1 hbad hgo
    cases q2:withT 4 true L[i]
    ·rw[q2]at h2 hbad
     obtain rfl:=hbad rfl
     repeat' (first|(refine awK fun _ _=>?_)|refine zHg ?_|refine end_ret [] ?_;simp[go_sem,hlt]|refine stepK_is rfl (h1) (by simp) ?_|refine stepK_is rfl (h2) (by simp) ?_|(fail_if_success with_reducible refine Owe.mk ?_);(simp(disch:=omega) [go_sem,hlt]))
    ·rw[q2]at h2 hgo
     have hgo:=hgo rfl
     repeat' (first|(refine awK fun _ _=>?_)|refine zHg ?_|refine stepK_is rfl (h1) (by simp) ?_|refine stepK_is rfl (h2) (by simp) ?_|refine(hAA.next (i+1) (Le.sub4 rfl (by simp[go_sem])) (by(try dsimp only);omega) ?_)|(fail_if_success with_reducible refine Owe.mk ?_);(simp(disch:=omega) [go_sem,hlt]))
     all_goals(first|omega|skip)
     exact⟨hlt,hgo⟩
  ·obtain rfl:i=L.length:=by omega
   have hu:V=true:=by
    rw[←hV,List.all_eq_true]
    intro t ht
    obtain⟨k,hk,rfl⟩:=List.mem_iff_getElem.1 ht
    exact hn k hk hk
   subst hu
   repeat' (first|(refine awK fun _ _=>?_)|refine zHg ?_|refine end_ret [] ?_;simp[go_sem]|(fail_if_success with_reducible refine Owe.mk ?_);(simp(disch:=omega) [go_sem]))
 ·have h8':(8:Int)<r.body.length:=by omega
  rw[decide_eq_false h8,Bool.false_and]at hV
  subst hV
  refine acall_of_awp Tryz.func33 Tryz.call33 rfl (by simp[Tryz.ntmps33]) ?_;simp only[Tryz.ntmps33,Tryz.results33]
  repeat' (first|(refine awK fun _ _=>?_)|refine zHg ?_|refine end_ret [] ?_;simp[go_sem,h8']|(fail_if_success with_reducible refine Owe.mk ?_);(simp(disch:=omega) [go_sem,h8']))
def digB (n:Nat):ByteArray:=⟨#[UInt8.ofNat (48+n)]⟩
theorem small10_ok (n:Nat) (h:1≤n∧n≤5):ACall Tryz.prog 169 [nt .i64 n] (fun r=>r= .sc (.string (digB n))):=by
 have hc:n=1∨n=2∨n=3∨n=4∨n=5:=by omega
 rcases hc with rfl|rfl|rfl|rfl|rfl
 all_goals refine acall_of_awp Tryz.func169 Tryz.call169 rfl (by simp[Tryz.ntmps169]) ?_;simp only[Tryz.ntmps169,Tryz.results169]
 all_goals repeat' (first|(refine awK fun _ _=>?_)|refine zHg ?_|refine end_ret [] ?_;simp[go_sem]|(fail_if_success with_reducible refine Owe.mk ?_);(simp(disch:=omega) [go_sem]))
 all_goals kernel_rfl
theorem FormatInt_ok (n:Nat) (h:1≤n∧n≤5):ACall Tryz.prog 150 [nt .i64 n,nt .i64 10] (fun r=>r= .sc (.string (digB n))):=by
 have h1:=small10_ok n h
 have a1:(0:Int)≤n:=by omega
 have a2:(n:Int)<100:=by omega
 generalize digB n=q at*
 refine acall_of_awp Tryz.func150 Tryz.call150 rfl (by simp[Tryz.ntmps150]) ?_;simp only[Tryz.ntmps150,Tryz.results150]
 repeat' (first|(refine awK fun _ _=>?_)|refine zHg ?_|refine end_ret [] ?_;simp[go_sem,a1,a2]|refine stepK_is rfl (h1) (by simp) ?_|(fail_if_success with_reducible refine Owe.mk ?_);(simp(disch:=omega) [go_sem,a1,a2]))
theorem Itoa0_ok (n:Nat) (h:1≤n∧n≤5):ACall Tryz.prog 120 [nt .i64 n] (fun r=>r= .sc (.string (digB n))):=by
 have h1:=FormatInt_ok n h
 generalize digB n=q at*
 refine acall_of_awp Tryz.func120 Tryz.call120 rfl (by simp[Tryz.ntmps120]) ?_;simp only[Tryz.ntmps120,Tryz.results120]
 repeat' (first|(refine awK fun _ _=>?_)|refine zHg ?_|refine end_ret [] ?_;simp[go_sem]|refine stepK_is rfl (h1) (by simp) ?_|(fail_if_success with_reducible refine Owe.mk ?_);(simp(disch:=omega) [go_sem]))
theorem Itoa_ok (n:Nat) (h:1≤n∧n≤5):ACall Tryz.prog 74 [nt .i64 n] (fun r=>r= .sc (.string (digB n))):=by
 have h1:=Itoa0_ok n h
 generalize digB n=q at*
 refine acall_of_awp Tryz.func74 Tryz.call74 rfl (by simp[Tryz.ntmps74]) ?_;simp only[Tryz.ntmps74,Tryz.results74]
 repeat' (first|(refine awK fun _ _=>?_)|refine zHg ?_|refine end_ret [] ?_;simp[go_sem]|refine stepK_is rfl (h1) (by simp) ?_|(fail_if_success with_reducible refine Owe.mk ?_);(simp(disch:=omega) [go_sem]))
def nmP (n i:Nat):List ByteArray:=(nmsN n).take i++List.replicate (n - i) ⟨#[]⟩
theorem nmP_zero (n:Nat):nmP n 0=List.replicate n ⟨#[]⟩:=by unfold nmP;simp
theorem nmP_all (n:Nat):nmP n n=nmsN n:=by unfold nmP;rw[Nat.sub_self,List.take_of_length_le (by rw[nmsN_len];exact Nat.le_refl _)];simp
theorem nmP_len {n i:Nat} (h:i≤n):(nmP n i).length=n:=by unfold nmP;rw[List.length_append,List.length_take,nmsN_len,List.length_replicate];omega
theorem nmP_step {n i:Nat} (h:i<n):(nmP n i).set i (nmV i)=nmP n (i+1):=by
 unfold nmP
 have hl:((nmsN n).take i).length=i:=by rw[List.length_take,nmsN_len];omega
 have hi:i<(nmsN n).length:=by rw[nmsN_len];exact h
 rw[List.set_append_right _ _ (by omega),hl,Nat.sub_self,take_next hi,List.append_assoc]
 congr 1
 rw[show n - i=n - (i+1)+1 by omega,List.replicate_succ,List.set_cons_zero]
 congr 1
 simp[nmsN]
theorem nmV_cat {i:Nat} (h:i<5):(⟨#[86]⟩:ByteArray)++digB (i+1)=nmV i:=by
 have hc:i=0∨i=1∨i=2∨i=3∨i=4:=by omega
 rcases hc with rfl|rfl|rfl|rfl|rfl<;>rfl
abbrev dnO (r:Rl) (vs:List ByteArray) (B:Option Rl):Objs:= [(1102,bxO 1 (.ref 1106 0 vs.length)),(1103,bxO 3 (eRl r)),(1104,bxO 1 (bl B.isNone)),(1105,bxO 3 (bestV B)),(1106,stO vs)]
theorem orders_ok (r:Rl) (vs:List ByteArray) (hlen:vs.length≤5) (hvs:AscG strC vs) (hh:r.head.size≤1000000) (hb: ∀b∈r.body,b.atom.size≤1000000) (hl:r.body.length≤12):
 MCall Tryz.prog 37 [nt .i64 vs.length,doC] (dnO r vs none) (fun v o'=>v= .tup []∧o'=dnO r vs ((prmF vs.length 0 (nmsN vs.length)).foldl (tryB r vs) none)):=by
 have hf:=from_ok r vs hlen hvs hh hb hl vs.length 0 (nmsN vs.length) none (by rw[nmsN_len]) (by omega)
 generalize(prmF vs.length 0 (nmsN vs.length)).foldl (tryB r vs) none=C at*
 have hz:(nmP vs.length 0).map eStr=List.replicate vs.length (.sc (.string ⟨#[]⟩)):=by rw[nmP_zero,List.map_replicate];rfl
 refine mcall_of_awpL Tryz.func37 Tryz.call37 rfl (by simp[Tryz.ntmps37]) ?_;simp only[Tryz.ntmps37,Tryz.results37]
 repeat' (first|(refine awK fun _ _=>?_)|refine zHg ?_|(fail_if_success with_reducible refine Owe.mk ?_);(simp(disch:=omega) [go_sem,dnO,stO,bxO,doC,bestV,bRl])|refine zAo ?_)
 refine awp_for [2,3,4,10] [8,4] (fun i:Nat=> [(11,nt .i64 i)]) (fun i:Nat=> [(8,⟨true,false,false,1,(nmP vs.length i).map eStr,0⟩),(4,⟨false,true,false,1,[.ref 8 0 vs.length],0⟩)]) (fun i:Nat=>vs.length - i) (fun i:Nat=>i≤vs.length) (0) (by refine Le.trans ?_ (Le.frz 4 rfl (by show(0:Nat)≠1;decide));exact(Le.sub4 rfl (by simp[go_sem,hz,dnO,stO,bxO,doC,bestV,bRl]))) ⟨?_⟩ ?_
 ·exact Nat.zero_le _
 intro i hi AA hAA;simp only[kL,Nat.reduceBEq,Nat.reduceEqDiff,if_true,if_false,List.cons_append,List.nil_append,List.append_nil]
 have hpl:=nmP_len hi
 by_cases hlt:i<vs.length
 ·have hit:=Itoa_ok (i+1) ⟨by omega,by omega⟩
  have hct:=nmV_cat (i:=i) (by omega)
  have hst:=nmP_step hlt
  have hlt2:i<(nmP vs.length i).length:=by omega
  generalize nmP vs.length i=P at*
  have hqs:(digB (i+1)).size=1:=rfl
  generalize digB (i+1)=q at*
  generalize nmV i=w at*
  repeat' (first|(refine awK fun _ _=>?_)|refine zHg ?_|refine dstepK_is rfl (hit) rfl (by simp) ?_|refine(hAA.next (i+1) (Le.sub4 rfl (by simp[go_sem,hst,set_eStr,-List.map_set])) (by(try dsimp only);omega) ?_)|(fail_if_success with_reducible refine Owe.mk ?_);(simp(disch:=omega) [go_sem,hlt,hlt2,hct,eStr])|refine zAo ?_|refine zDr 7 mix ?_)
  all_goals(first|omega|skip)
  all_goals exact⟨hlt⟩
 ·obtain rfl:i=vs.length:=by omega
  rw[nmP_all]at hpl ⊢
  repeat' (first|(refine awK fun _ _=>?_)|refine zHg ?_|(fail_if_success with_reducible refine Owe.mk ?_);(simp(disch:=omega) [go_sem,dnO,stO,bxO,doC,bestV,bRl,hpl]))
  refine stepK_fis [(1110,2),(1111,3),(1112,4),(1113,6),(1101,8)] [(2,1110),(3,1111),(4,1112),(6,1113),(8,1101)] 10000 _ _ (Fits.mk' (by simp[go_sem,fmO,doO,dnO,stO,bxO,doC,fmC,bestV,bRl]) (by simp[go_sem,fmO,doO,dnO,stO,bxO,doC,fmC,bestV,bRl])) (by simp[go_sem,fmO,doO,dnO,stO,bxO,doC,fmC,bestV,bRl]) (by simp[go_sem,fmO,doO,dnO,stO,bxO,doC,fmC,bestV,bRl]) (hf) (by simp[go_sem,fmO,doO,dnO,stO,bxO,doC,fmC,bestV,bRl]) (by simp[go_sem,fmO,doO,dnO,stO,bxO,doC,fmC,bestV,bRl]) ?_
  repeat' (first|(fail_if_success with_reducible refine Owe.mk ?_);(simp(disch:=omega) [go_sem,dnO,stO,bxO,doC,bestV,bRl]))
  refine endL_normal ⟨25,[],dnO r vs C⟩ [] (Le.renSub [] [] (by simp[go_sem,dnO,stO,bxO,doC,bestV,bRl]) (by simp[go_sem,dnO,stO,bxO,doC,bestV,bRl]) (Le.sub4 rfl (by simp[go_sem,dnO,stO,bxO,doC,bestV,bRl]))) (by simp[go_sem,dnO,stO,bxO,doC,bestV,bRl]) ⟨rfl,rfl⟩
theorem fold_some (r:Rl) (vs:List ByteArray): ∀(L:List (List ByteArray)) (b:Rl),L.foldl (tryB r vs) (some b)=some (minG rlC b (L.map (cndR r vs)))
 | [],b=>rfl
 |l::L,b=>by
  rw[List.foldl_cons]
  show L.foldl (tryB r vs) (some (if rlC (cndR r vs l) b<0 then cndR r vs l else b))=_
  rw[fold_some r vs L]
  rfl
theorem fold_best (r:Rl):(prmF (varsR r).length 0 (nmsN (varsR r).length)).foldl (tryB r (svR r)) none=some (nrmB r):=by
 have hne:prmF (varsR r).length 0 (nmsN (varsR r).length)≠ []:=fun h=>by
  have:nmsN (varsR r).length∈prmF (varsR r).length 0 (nmsN (varsR r).length):=(mem_prmF _ 0 _ _ (by rw[nmsN_len];omega)).2 ⟨.refl _,rfl⟩
  rw[h]at this
  simp at this
 unfold nrmB
 generalize prmF (varsR r).length 0 (nmsN (varsR r).length)=L at*
 cases L with
 |nil=>exact absurd rfl hne
 |cons l L=>
  rw[List.foldl_cons]
  show L.foldl (tryB r (svR r)) (some (cndR r (svR r) l))=_
  rw[fold_some]
  rfl
theorem sv_of {r:Rl} {m:List ByteArray} (hp:m.Perm (varsR r)) (hs:SrtOn strC m 0 (varsR r).length):m=svR r:=by
 have hn:m.Nodup:=hp.nodup_iff.2 (varsR_nodup r)
 refine ascG_uniq tot_S (List.pairwise_iff_getElem.2 fun i j hi hj hij=>?_) (srtG_asc tot_S _) fun x=>?_
 ·have h1:=hs i j m[i] m[j] (Nat.zero_le _) hij (by rw[←hp.length_eq];exact hj) (List.getElem?_eq_getElem hi) (List.getElem?_eq_getElem hj)
  rcases Int.lt_or_eq_of_le h1 with h|h
  ·exact h
  ·have e:=strC_zero.1 h
   exact absurd e (List.pairwise_iff_getElem.1 hn i j hi hj hij)
 ·rw[hp.mem_iff];exact(srtG_mem tot_S _ x).symm
theorem lvs_sum (r:Rl) (h:SzR r):(lvsS (atmR r)).length≤1000:=by
 have key: ∀l:List Tm,(∀t∈l,t.size≤20)→(lvsS l).length≤20*l.length:=by
  intro l
  induction l with
  |nil=>intro _;simp[lvsS]
  |cons t q ih=>
   intro hq
   have e:lvsS (t::q)=lvs t++lvsS q:=rfl
   rw[e,List.length_append,List.length_cons]
   have h1:=lvs_size t
   have h2:=hq t (by simp)
   have h3:=ih fun u hu=>hq u (by simp[hu])
   omega
 have h1:=key (atmR r) (fun t ht=>by
  rcases List.mem_cons.1 ht with rfl|ht
  ·exact h.head
  ·obtain⟨b,hb,rfl⟩:=List.mem_map.1 ht
   exact h.atom b hb)
 have h2:(atmR r).length=r.body.length+1:=by unfold atmR;simp
 have:=h.body
 omega
def nrmR (r:Rl):Rl:=if nrmE r=0 then nrmB r else zR
theorem Rule_ok (r:Rl) (hz:SzR r):ACall Tryz.prog 14 [eRl r] (fun v=>v= .tup [eRl (nrmR r),nt .i64 (nrmE r)]):=by
 have hb:=hz.body
 have hp:=printable_ok r (by omega)
 have ha:=atoms_ok r (by omega)
 have hv:=Vars_ok (atmR r) true false (by have:=lvs_sum r hz;omega)
 have e:varsT (atmR r)=varsR r:=rfl
 rw[e]at hv
 unfold nrmR
 by_cases hvl:vldR r=true
 ·rw[hvl]at hp
  by_cases h5:5<(varsR r).length
  ·have e1:nrmE r=11:=by unfold nrmE;rw[if_pos hvl,if_pos h5]
   rw[e1,if_neg (by decide)]
   have h5':(5:Int)<(varsR r).length:=by omega
   refine ACall.looseT (x:= .agg [.sc (.string ⟨#[]⟩),.list false true [],.list false true []]) rfl ?_
   generalize varsR r=V at*
   generalize atmR r=A at*
   have hlenT:True:=trivial
   refine acall_of_awp Tryz.func14 Tryz.call14 rfl (by simp[Tryz.ntmps14]) ?_;simp only[Tryz.ntmps14,Tryz.results14]
   repeat' (first|(refine awK fun _ _=>?_)|refine zHg ?_|refine end_ret [] ?_;simp[go_sem,h5',hlenT]|refine stepK_is rfl (hp) (by simp) ?_|refine stepK_is rfl (ha) (by simp) ?_|refine stepK_is ?hl (hv) (by simp) ?_;(case hl=>(simp[go_sem,h5',hlenT];done))|(fail_if_success with_reducible refine Owe.mk ?_);(simp(disch:=omega) [go_sem,h5',hlenT]))
  ·have e1:nrmE r=0:=by unfold nrmE;rw[if_pos hvl,if_neg h5]
   rw[e1,if_pos rfl]
   have h5': ¬(5:Int)<(varsR r).length:=by omega
   have hs:=SortS_ok (varsR r) (by omega)
   have ho:=orders_ok r (svR r) (by rw[(svR_perm r).length_eq];omega) (srtG_asc tot_S _) (by have:=hz.head;omega) (fun b hb=>by have:=hz.atom b hb;omega) hb
   rw[(svR_perm r).length_eq,fold_best]at ho
   have hsv:=(svR_perm r).length_eq
   have hlenT:True:=trivial
   refine acall_of_awp Tryz.func14 Tryz.call14 rfl (by simp[Tryz.ntmps14]) ?_;simp only[Tryz.ntmps14,Tryz.results14]
   repeat' (first|(refine awK fun _ _=>?_)|refine zHg ?_|refine stepK_is rfl (hp) (by simp) ?_|refine stepK_is rfl (ha) (by simp) ?_|refine stepK_is ?hl (hv) (by simp) ?_;(case hl=>(simp[go_sem,h5',hlenT];done))|(fail_if_success with_reducible refine Owe.mk ?_);(simp(disch:=omega) [go_sem,h5',hlenT]))
   refine stepK_fex [(1000,13)] [(13,1000)] 10000 _ _ (Fits.mk' (by simp[go_sem]) (by simp[go_sem])) (by simp[go_sem]) (by simp[go_sem]) (hs) (by simp[go_sem]) (by intros;simp[go_sem]) ?_;intro m hm
   obtain rfl:=sv_of hm.1 hm.2
   repeat' (first|(refine awK fun _ _=>?_)|refine zHg ?_|(fail_if_success with_reducible refine Owe.mk ?_);(simp(disch:=omega) [go_sem,h5']))
   refine stepK_fis [(1102,4),(1103,1),(1104,6),(1105,5),(1106,13)] [(4,1102),(1,1103),(6,1104),(5,1105),(13,1106)] 20000 _ _ (Fits.mk' (by simp[go_sem,dnO,stO,bxO,doC,bestV,bRl,hsv]) (by simp[go_sem,dnO,stO,bxO,doC,bestV,bRl,hsv])) (by simp[go_sem,dnO,stO,bxO,doC,bestV,bRl,hsv]) (by simp[go_sem,dnO,stO,bxO,doC,bestV,bRl,hsv]) (ho) (by simp[go_sem,dnO,stO,bxO,doC,bestV,bRl,hsv]) (by simp[go_sem,dnO,stO,bxO,doC,bestV,bRl,hsv]) ?_
   repeat' (first|(refine awK fun _ _=>?_)|refine zHg ?_|refine end_ret [] ?_;simp[go_sem,dnO,stO,bxO,bestV,bRl]|(fail_if_success with_reducible refine Owe.mk ?_);(simp(disch:=omega) [go_sem,dnO,stO,bxO,bestV,bRl]))
 ·have e1:nrmE r=13:=by unfold nrmE;rw[if_neg hvl]
  rw[e1,if_neg (by decide)]
  rw[Bool.not_eq_true]at hvl
  rw[hvl]at hp
  refine ACall.looseT (x:= .agg [.sc (.string ⟨#[]⟩),.list false true [],.list false true []]) rfl ?_
  refine acall_of_awp Tryz.func14 Tryz.call14 rfl (by simp[Tryz.ntmps14]) ?_;simp only[Tryz.ntmps14,Tryz.results14]
  repeat' (first|(refine awK fun _ _=>?_)|refine zHg ?_|refine end_ret [] ?_;simp[go_sem]|refine stepK_is rfl (hp) (by simp) ?_|(fail_if_success with_reducible refine Owe.mk ?_);(simp(disch:=omega) [go_sem]))
set_option maxHeartbeats 8000000
set_option maxHeartbeats 16000000
set_option maxHeartbeats 8000000
def sameB (a b:Rl):Bool:=if nrmE a=0 then(if nrmE b=0 then decide (rlC (nrmR a) (nrmR b)=0)else false)else false
def sameE (a b:Rl):Int:=if nrmE a=0 then(if nrmE b=0 then 0 else nrmE b)else nrmE a
theorem Same_ok (a b:Rl) (ha:SzR a) (hb:SzR b):ACall Tryz.prog 16 [eRl a,eRl b] (fun v=>v= .tup [bl (sameB a b),nt .i64 (sameE a b)]):=by
 have h1:=Rule_ok a ha
 have h2:=Rule_ok b hb
 have h3:=cmpRl_ok (nrmR a) (nrmR b) false false false false
 unfold sameB sameE
 generalize nrmR a=x at*
 generalize nrmR b=y at*
 generalize nrmE a=e at*
 generalize nrmE b=f at*
 generalize rlC x y=c at*
 by_cases he:e=0
 ·subst he
  by_cases hf:f=0
  ·subst hf
   simp only[if_true]
   refine acall_of_awp Tryz.func16 Tryz.call16 rfl (by simp[Tryz.ntmps16]) ?_;simp only[Tryz.ntmps16,Tryz.results16]
   repeat' (first|(refine awK fun _ _=>?_)|refine zHg ?_|refine end_ret [] ?_;simp[go_sem]|refine stepK_is rfl (h1) (by simp) ?_|refine stepK_is rfl (h2) (by simp) ?_|refine stepK_is rfl (h3) (by simp) ?_|(fail_if_success with_reducible refine Owe.mk ?_);(simp(disch:=omega) [go_sem]))
  ·simp only[if_true,if_neg hf]
   refine acall_of_awp Tryz.func16 Tryz.call16 rfl (by simp[Tryz.ntmps16]) ?_;simp only[Tryz.ntmps16,Tryz.results16]
   repeat' (first|(refine awK fun _ _=>?_)|refine zHg ?_|refine end_ret [] ?_;simp[go_sem,hf]|refine stepK_is rfl (h1) (by simp) ?_|refine stepK_is rfl (h2) (by simp) ?_|(fail_if_success with_reducible refine Owe.mk ?_);(simp(disch:=omega) [go_sem,hf]))
 ·simp only[if_neg he]
  refine acall_of_awp Tryz.func16 Tryz.call16 rfl (by simp[Tryz.ntmps16]) ?_;simp only[Tryz.ntmps16,Tryz.results16]
  repeat' (first|(refine awK fun _ _=>?_)|refine zHg ?_|refine end_ret [] ?_;simp[go_sem,he]|refine stepK_is rfl (h1) (by simp) ?_|(fail_if_success with_reducible refine Owe.mk ?_);(simp(disch:=omega) [go_sem,he]))
instance:DecidableEq Lt:=fun a b=>decidable_of_iff (ltC a b=0) (tot_L.zero a b)
instance:DecidableEq Rl:=fun a b=>decidable_of_iff (rlC a b=0) (tot_R.zero a b)
theorem plainRule_ok (a b:Rl) (hl:a.body.length≤1000000):ACall Tryz.prog 18 [eRl a,eRl b] (fun v=>v=bl (decide (a=b))):=by
 obtain⟨h,ys⟩:=a
 obtain⟨g,bs⟩:=b
 dsimp only at hl
 have h1:=plainTerm_ok h g
 generalize hV:decide ((⟨h,ys⟩:Rl)=⟨g,bs⟩)=V
 cases q1:eqT h g
 ·rw[q1]at h1
  have hu:V=false:=by
   rw[←hV,decide_eq_false_iff_not]
   intro e
   have e1:=congrArg Rl.head e
   rw[(eqT_iff h g).2 e1]at q1
   cases q1
  subst hu
  refine acall_of_awp Tryz.func18 Tryz.call18 rfl (by simp[Tryz.ntmps18]) ?_;simp only[Tryz.ntmps18,Tryz.results18]
  repeat' (first|(refine awK fun _ _=>?_)|refine zHg ?_|refine end_ret [] ?_;simp[go_sem]|refine stepK_is rfl (h1) (by simp) ?_|(fail_if_success with_reducible refine Owe.mk ?_);(simp(disch:=omega) [go_sem]))
 ·rw[q1]at h1
  have hh:=(eqT_iff h g).1 q1
  subst hh
  by_cases hn:ys.length=bs.length
  ·have hn': ¬(ys.length:Int)≠bs.length:=by omega
   refine acall_of_awp Tryz.func18 Tryz.call18 rfl (by simp[Tryz.ntmps18]) ?_;simp only[Tryz.ntmps18,Tryz.results18]
   repeat' (first|(refine awK fun _ _=>?_)|refine zHg ?_|refine stepK_is rfl (h1) (by simp) ?_|(fail_if_success with_reducible refine Owe.mk ?_);(simp(disch:=omega) [go_sem,hn]))
   all_goals(first|(exfalso;omega)|skip)
   refine awp_for [2,3,23] [] (fun i:Nat=> [(24,nt .i64 i)]) (fun i:Nat=> []) (fun i:Nat=>bs.length - i) (fun i:Nat=>i≤bs.length∧ ∀(k:Nat) (hk:k<ys.length) (hk':k<bs.length),k<i→ys[k]=bs[k]) (0) (Le.sub4 rfl (by simp[go_sem])) ⟨?_⟩ ?_
   ·exact⟨Nat.zero_le _,fun k _ _ hk=>absurd hk (Nat.not_lt_zero _)⟩
   intro i ⟨hi,hs⟩ AA hAA;simp only[kL,Nat.reduceBEq,Nat.reduceEqDiff,if_true,if_false,List.cons_append,List.nil_append,List.append_nil]
   by_cases hlt:i<bs.length
   ·have hla:i<ys.length:=by omega
    have h2:=plainTerm_ok ys[i].atom bs[i].atom
    by_cases hq:ys[i]=bs[i]
    ·have hneg:ys[i].neg=bs[i].neg:=by rw[hq]
     rw[hq,(eqT_iff _ _).2 rfl]at h2
     rw[←hq]at h2
     have h2':=h2
     rw[hq]at h2'
     repeat' (first|(refine awK fun _ _=>?_)|refine zHg ?_|refine dstepK_is rfl (h2') rfl (by simp) ?_|refine(hAA.next (i+1) (Le.sub4 rfl (by simp[go_sem])) (by(try dsimp only);omega) ?_)|(fail_if_success with_reducible refine Owe.mk ?_);(simp(disch:=omega) [go_sem,hlt,hla,hq])|refine zDr 29 mix ?_)
     all_goals(first|omega|skip)
     all_goals exact⟨hlt,fun k hk hk' hki=>by rcases Nat.lt_or_eq_of_le (Nat.le_of_lt_succ hki)with h|rfl;exact hs k hk hk' h;exact hq⟩
    ·have hu:V=false:=by
      rw[←hV,decide_eq_false_iff_not]
      intro e
      have e2:=congrArg Rl.body e
      dsimp only at e2
      subst e2
      exact hq rfl
     subst hu
     clear hs hV
     by_cases hneg:ys[i].neg=bs[i].neg
     ·have hat:eqT ys[i].atom bs[i].atom=false:=by
       rw[Bool.eq_false_iff]
       intro e
       apply hq
       have e3:=(eqT_iff _ _).1 e
       generalize ys[i]=x at*
       generalize bs[i]=y at*
       cases x;cases y
       dsimp only at hneg e3
       rw[hneg,e3]
      rw[hat]at h2
      repeat' (first|(refine awK fun _ _=>?_)|refine zHg ?_|refine end_ret [] ?_;simp[go_sem,hlt,hla,hneg]|refine dstepK_is rfl (h2) rfl (by simp) ?_|(fail_if_success with_reducible refine Owe.mk ?_);(simp(disch:=omega) [go_sem,hlt,hla,hneg])|refine zDr 29 mix ?_)
     ·repeat' (first|(refine awK fun _ _=>?_)|refine zHg ?_|refine zdn ?_ ?_<;>(intro h;first|(simp only[h,zT])|skip)|refine end_ret [] ?_;simp[go_sem,hlt,hla,hneg]|(fail_if_success with_reducible refine Owe.mk ?_);(simp(disch:=omega) [go_sem,hlt,hla,hneg])|refine zDr 29 mix ?_)
      all_goals exact absurd (by assumption) hneg
   ·obtain rfl:i=bs.length:=by omega
    have hu:V=true:=by
     rw[←hV,decide_eq_true_eq]
     congr 1
     exact List.ext_getElem hn fun k h1 h2=>hs k h1 h2 h2
    subst hu
    repeat' (first|(refine awK fun _ _=>?_)|refine zHg ?_|refine end_ret [] ?_;simp[go_sem]|(fail_if_success with_reducible refine Owe.mk ?_);(simp(disch:=omega) [go_sem]))
  ·have hu:V=false:=by
    rw[←hV,decide_eq_false_iff_not]
    intro e
    exact hn (congrArg (fun z:Rl=>z.body.length) e)
   subst hu
   refine acall_of_awp Tryz.func18 Tryz.call18 rfl (by simp[Tryz.ntmps18]) ?_;simp only[Tryz.ntmps18,Tryz.results18]
   repeat' (first|(refine awK fun _ _=>?_)|refine zHg ?_|refine zqn ?_ ?_<;>(intro h;first|(exfalso;omega)|(simp only[h,zT]))|refine end_ret [] ?_;simp[go_sem,hn]|refine stepK_is rfl (h1) (by simp) ?_|(fail_if_success with_reducible refine Owe.mk ?_);(simp(disch:=omega) [go_sem,hn]))
   all_goals(first|(exfalso;omega)|skip)
theorem spell_ge {s:ByteArray} {p q r:Int×Int} (h:spellS s p q r=true) (hp:40≤p.1) (hq:40≤q.1) (hr:40≤r.1): ∀b∈bytesS s,40≤b.toNat:=by
 intro b hb
 obtain⟨i,hi,he⟩:=bytes_bt hb
 have:=(spell_facts h).2.2 i hi
 omega
theorem word_ge {s:ByteArray} (h:constS s=true∨varS s=true): ∀b∈bytesS s,40≤b.toNat:=by
 intro b hb
 rcases h with h|h
 ·unfold constS at h
  rw[Bool.or_eq_true]at h
  rcases h with h|h
  ·unfold nameS at h
   simp only[Bool.and_eq_true]at h
   exact spell_ge h.1.1.1 (by decide) (by decide) (by decide) b hb
  ·unfold numS at h
   split at h
   ·rename_i hc
    obtain⟨_,hd⟩:=hc
    unfold digs at hd
    simp only[List.all_eq_true,List.mem_range,decide_eq_true_eq]at hd
    obtain⟨i,hi,he⟩:=bytes_bt hb
    have:=hd i hi
    omega
   ·cases h
 ·unfold varS at h
  exact spell_ge h (by decide) (by decide) (by decide) b hb
theorem txt_ge: ∀t:Tm,∀lv:Int,withT lv true t=true→ ∀b∈txt t,40≤b.toNat:=by
 refine tm_ind fun t ih lv h b hb=>?_
 obtain⟨s,ts⟩:=t
 simp only[args_mk]at ih
 rw[withT_mk]at h
 split at h
 ·cases h
 ·rw[txt_mk]at hb
  split at h
  ·rename_i h0
   rw[if_pos h0]at hb
   simp only[Bool.true_and,Bool.or_eq_true]at h
   exact word_ge h b hb
  ·rename_i h0
   rw[if_neg h0]at hb
   rw[Bool.and_eq_true,withL_all,List.all_eq_true]at h
   have hS: ∀l:List Tm,(∀t∈l,∀b∈txt t,40≤b.toNat)→ ∀b∈txtS l,40≤b.toNat:=by
    intro l
    induction l with
    |nil=>intro _ b hb;simp[txtS]at hb
    |cons t q ihq=>
     intro hl b hb
     simp only[txtS,List.mem_cons,List.mem_append]at hb
     rcases hb with rfl|hb|hb
     ·decide
     ·exact hl t (by simp) b hb
     ·exact ihq (fun u hu=>hl u (by simp[hu])) b hb
   rw[List.mem_append,List.mem_cons,List.mem_append,List.mem_singleton]at hb
   rcases hb with hb|rfl|hb|rfl
   ·exact word_ge (.inl (by unfold constS;rw[h.1];rfl)) b hb
   ·decide
   ·exact hS ts (fun t ht=>ih t ht _ (h.2 t ht)) b (List.mem_of_mem_tail hb)
   ·decide
def btx:List Lt→List UInt8
 | []=> []
 |b::q=>(if b.neg=true then[32,110,111,116]else[])++32::(txt b.atom++btx q)
def rtx (r:Rl):List UInt8:=txt r.head++btx r.body
def spc (l:List UInt8):Prop:=l= []∨ ∃q,l=32::q
theorem btx_spc (l:List Lt):spc (btx l):=by
 cases l with
 |nil=>exact .inl rfl
 |cons b q=>
  refine .inr ?_
  unfold btx
  split
  ·exact⟨[110,111,116]++32::(txt b.atom++btx q),rfl⟩
  ·exact⟨txt b.atom++btx q,rfl⟩
theorem ge_span: ∀{a b x y:List UInt8},(∀c∈a,40≤c.toNat)→(∀c∈b,40≤c.toNat)→spc x→spc y→a++x=b++y→a=b∧x=y
 | [],[],_,_,_,_,_,_,h=>⟨rfl,h⟩
 | [],d::b,x,y,_,hb,hx,_,h=>by
  rcases hx with rfl|⟨q,rfl⟩
  ·simp at h
  ·simp only[List.nil_append,List.cons_append,List.cons.injEq]at h
   have:=hb d (by simp)
   rw[←h.1]at this
   exact absurd this (by decide)
 |c::a,[],x,y,ha,_,_,hy,h=>by
  rcases hy with rfl|⟨q,rfl⟩
  ·simp at h
  ·simp only[List.nil_append,List.cons_append,List.cons.injEq]at h
   have:=ha c (by simp)
   rw[h.1]at this
   exact absurd this (by decide)
 |c::a,d::b,x,y,ha,hb,hx,hy,h=>by
  simp only[List.cons_append,List.cons.injEq]at h
  obtain⟨rfl,h⟩:=h
  obtain⟨rfl,rfl⟩:=ge_span (fun c hc=>ha c (by simp[hc])) (fun c hc=>hb c (by simp[hc])) hx hy h
  exact⟨rfl,rfl⟩
theorem txt_not {t:Tm} (h:atmV t=true):txt t≠ [110,111,116]:=by
 obtain⟨s,ts⟩:=t
 unfold atmV at h
 rw[Bool.and_eq_true]at h
 intro e
 rw[txt_mk]at e
 have hn:=h.1
 split at e
 ·have:s=sNot:=bytes_inj e
  unfold nameS at hn
  have hn:nameS s=true:=hn
  rw[this]at hn
  revert hn
  decide+kernel
 ·have hl:=congrArg List.reverse e
  simp[List.reverse_append]at hl
theorem btx_inj: ∀{a b:List Lt},(∀x∈a,atmV x.atom=true)→(∀x∈b,atmV x.atom=true)→btx a=btx b→a=b
 | [],[],_,_,_=>rfl
 | [],y::q,_,_,h=>by
  unfold btx at h
  split at h<;>simp at h
 |x::p,[],_,_,h=>by
  unfold btx at h
  split at h<;>simp at h
 |x::p,y::q,ha,hb,h=>by
  have hx:=ha x (by simp)
  have hy:=hb y (by simp)
  have wx:withT 4 true x.atom=true:=by unfold atmV at hx;rw[Bool.and_eq_true]at hx;exact hx.2
  have wy:withT 4 true y.atom=true:=by unfold atmV at hy;rw[Bool.and_eq_true]at hy;exact hy.2
  have gx:=txt_ge _ _ wx
  have gy:=txt_ge _ _ wy
  have gn: ∀c∈([110,111,116]:List UInt8),40≤c.toNat:=by decide
  have fin:x.neg=y.neg→txt x.atom++btx p=txt y.atom++btx q→x::p=y::q:=fun e1 e2=>by
   obtain⟨e3,e4⟩:=ge_span gx gy (btx_spc p) (btx_spc q) e2
   have e5:=(txt_inj wx wy).1 e3
   have e6:=btx_inj (fun z hz=>ha z (by simp[hz])) (fun z hz=>hb z (by simp[hz])) e4
   rw[e6]
   congr 1
   cases x;cases y
   dsimp only at e1 e5
   rw[e1,e5]
  have hs: ∀(t:Tm) (l:List Lt),spc (32::(txt t++btx l)):=fun t l=> .inr ⟨_,rfl⟩
  unfold btx at h
  cases hnx:x.neg<;>cases hny:y.neg<;>rw[hnx,hny]at h
  ·simp only[Bool.false_eq_true,if_false,List.nil_append,List.cons.injEq,true_and]at h
   exact fin (by rw[hnx,hny]) h
  ·simp only[Bool.false_eq_true,if_false,if_true,List.nil_append,List.cons_append,List.cons.injEq,true_and]at h
   obtain⟨e,_⟩:=ge_span (b:= [110,111,116]) gx gn (btx_spc p) (hs _ _) h
   exact absurd e (txt_not hx)
  ·simp only[Bool.false_eq_true,if_false,if_true,List.nil_append,List.cons_append,List.cons.injEq,true_and]at h
   obtain⟨e,_⟩:=ge_span (a:= [110,111,116]) gn gy (hs _ _) (btx_spc q) h
   exact absurd e.symm (txt_not hy)
  ·simp only[if_true,List.cons_append,List.nil_append,List.cons.injEq,true_and]at h
   exact fin (by rw[hnx,hny]) h
theorem rtx_inj {a b:Rl} (ha:vldR a=true) (hb:vldR b=true) (h:rtx a=rtx b):a=b:=by
 obtain⟨_,a2,a3⟩:=vldR_iff.1 ha
 obtain⟨_,b2,b3⟩:=vldR_iff.1 hb
 have wa:withT 4 true a.head=true:=by unfold atmV at a2;rw[Bool.and_eq_true]at a2;exact a2.2
 have wb:withT 4 true b.head=true:=by unfold atmV at b2;rw[Bool.and_eq_true]at b2;exact b2.2
 unfold rtx at h
 obtain⟨e1,e2⟩:=ge_span (txt_ge _ _ wa) (txt_ge _ _ wb) (btx_spc _) (btx_spc _) h
 have e3:=(txt_inj wa wb).1 e1
 have e4:=btx_inj a3 b3 e2
 cases a;cases b
 dsimp only at e3 e4
 rw[e3,e4]
theorem txt_ne {t:Tm} (h:atmV t=true):txt t≠ []:=by
 obtain⟨s,ts⟩:=t
 unfold atmV at h
 rw[Bool.and_eq_true]at h
 intro e
 rw[txt_mk]at e
 have hw:=(name_word h.1).1
 split at e
 ·have h0:(bytesS s).length=0:=by rw[e];rfl
  rw[bytesS_len]at h0
  have hs:(Tm.mk s ts).name=s:=rfl
  rw[hs]at hw
  omega
 ·simp at e
theorem btx_app: ∀a b:List Lt,btx (a++b)=btx a++btx b
 | [],_=>rfl
 |x::a,b=>by
  rw[List.cons_append,btx,btx,btx_app a b]
  simp
end Go.Proofs.YtkbglbcphjmiiaaGreatDoor
