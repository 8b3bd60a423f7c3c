import Derived.Test.YtkbglbcphjmiiaaGreatDoorS12
import Derived.Test.YtkbglbcphjmiiaaGreatDoorS3
import Derived.Test.YtkbglbcphjmiiaaGreatDoorA9
set_option linter.unusedSimpArgs false
set_option linter.unusedVariables false
namespace Go.Proofs.YtkbglbcphjmiiaaGreatDoor
open Go.Ab Go.RowKit
set_option maxRecDepth 100000
set_option maxHeartbeats 8000000
theorem nodup_le {α:Type} [DecidableEq α]: ∀{A B:List α},A.Nodup→(∀x∈A,x∈B)→A.length≤B.length
 | [],_,_,_=>Nat.zero_le _
 |x::A,B,hn,hm=>by
  obtain⟨h1,h2⟩:=List.nodup_cons.1 hn
  have hx:=hm x (by simp)
  have ih:=nodup_le (A:=A) (B:=B.erase x) h2 fun y hy=>(List.mem_erase_of_ne (by rintro rfl;exact h1 hy)).2 (hm y (by simp[hy]))
  rw[List.length_erase_of_mem hx]at ih
  have:=List.length_pos_of_mem hx
  rw[List.length_cons];omega
def rotP (l:List Rl) (t i:Nat):List Rl:=(List.range i).map fun k=>l.getD ((k+t) % l.length) zR
theorem rotP_zero (l:List Rl) (t:Nat):rotP l t 0= []:=rfl
theorem rotP_len (l:List Rl) (t i:Nat):(rotP l t i).length=i:=by unfold rotP;simp
theorem rotP_next {l:List Rl} {t i:Nat} (h:(i+t) % l.length<l.length):rotP l t (i+1)=rotP l t i++ [l[(i+t) % l.length]]:=by
 unfold rotP
 rw[List.range_succ,List.map_append,List.map_singleton,List.getD_eq_getElem?_getD,List.getElem?_eq_getElem h]
 rfl
theorem rotP_mem {l:List Rl} {t:Nat} (h0:0<l.length) (x:Rl):x∈rotP l t l.length↔x∈l:=by
 unfold rotP
 rw[List.mem_map]
 constructor
 ·rintro⟨k,hk,rfl⟩
  have h:=Nat.mod_lt (k+t) h0
  rw[List.getD_eq_getElem?_getD,List.getElem?_eq_getElem h]
  exact List.getElem_mem h
 ·intro hx
  obtain⟨j,hj,rfl⟩:=List.mem_iff_getElem.1 hx
  refine⟨(j+(l.length - t % l.length)) % l.length,List.mem_range.2 (Nat.mod_lt _ h0),?_⟩
  have ht:=Nat.mod_lt t h0
  have e:((j+(l.length - t % l.length)) % l.length+t) % l.length=j:=by
   rw[Nat.mod_add_mod]
   have e2:t=l.length*(t / l.length)+t % l.length:=(Nat.div_add_mod t l.length).symm
   have e3:j+(l.length - t % l.length)+t=j+l.length*(t / l.length+1):=by
    rw[Nat.mul_add,Nat.mul_one]
    omega
   rw[e3,Nat.add_mul_mod_self_left,Nat.mod_eq_of_lt hj]
  rw[e,List.getD_eq_getElem?_getD,List.getElem?_eq_getElem hj]
  rfl
theorem NormalTurned_of (haw:ACall Tryz.prog 11 [] (fun r=>r=bl true)) (l:List Rl) (t:Nat) (ha:(∀r∈l,okRl r)∧l.length≤maxRow) (ht:t≤255):
 ACall Tryz.prog 9 [.list false false (l.map eRl),nt .u8 t] (fun r=>r=bl true):=by
 have s1:=smallsD_ok l false ha.1 ha.2
 cases q1:smallRs 12 l
 ·rw[q1]at s1
  refine acall_of_awp Tryz.func9 Tryz.call9 rfl (by simp[Tryz.ntmps9]) ?_;simp only[Tryz.ntmps9,Tryz.results9]
  repeat' (first|(refine awK fun _ _=>?_)|refine zHg ?_|refine end_ret [] ?_;simp[go_sem]|refine stepK_is rfl (s1) (by simp) ?_|refine stepK_is rfl (haw) (by simp) ?_|(fail_if_success with_reducible refine Owe.mk ?_);(simp(disch:=omega) [go_sem]))
 ·by_cases h0:l.length=0
  ·rw[q1]at s1
   refine acall_of_awp Tryz.func9 Tryz.call9 rfl (by simp[Tryz.ntmps9]) ?_;simp only[Tryz.ntmps9,Tryz.results9]
   repeat' (first|(refine awK fun _ _=>?_)|refine zHg ?_|refine end_ret [] ?_;simp[go_sem,h0]|refine stepK_is rfl (s1) (by simp) ?_|refine stepK_is rfl (haw) (by simp) ?_|(fail_if_success with_reducible refine Owe.mk ?_);(simp(disch:=omega) [go_sem,h0]))
  ·have zl:=sz_of q1
   have ll:=len_of q1
   rw[q1]at s1
   have hp:0<l.length:=by omega
   have hmt:=Nat.mod_lt t hp
   obtain⟨m,hm⟩: ∃m,m=rotP l t l.length++ [l[t % l.length]]:=⟨_,rfl⟩
   have hml:m.length=l.length+1:=by rw[hm,List.length_append,rotP_len];rfl
   have hmm: ∀x,x∈l↔x∈m:=fun x=>by
    rw[hm,List.mem_append,rotP_mem hp,List.mem_singleton]
    constructor
    ·exact .inl
    ·rintro(h|rfl)
     ·exact h
     ·exact List.getElem_mem hmt
   have zm: ∀r∈m,SzR r:=fun r hr=>zl r ((hmm r).2 hr)
   have hdm: ∀i,(outN m i).length≤12:=fun i=>by
    have h1:=nodup_le (outN_nodup m i) (B:=l.map nrmB) fun x hx=>by
     obtain⟨r,hr,rfl⟩:=List.mem_map.1 (outN_mem.1 hx)
     exact List.mem_map.2 ⟨r,(hmm r).2 (List.mem_of_mem_take hr),rfl⟩
    rw[List.length_map]at h1
    omega
   obtain⟨e1,e2⟩:=rls_mem hmm (by omega) (by omega)
   have h1:=Rules_ok l false false (by omega) (out_len ll) zl
   have h2:=Rules_ok m true false (by omega) hdm zm
   have h3:=Equal_ok l m false false true false (by omega) (by omega) (out_len ll) hdm zl zm
   have hz: ∀x∈rlsR l,x.body.length≤1000000:=fun x hx=>by
    have:=(sz_rls zl x hx).body
    omega
   have h5:=plainRules_ok (rlsR l) (rlsR l) true false true false hz
   rw[decide_eq_true rfl]at h5
   have h6:ACall Tryz.prog 21 [.list false true [],.list false true []] (fun r=>r=bl true):=by
    have:=plainRules_ok [] [] false true false true (by simp)
    rw[decide_eq_true rfl]at this
    exact this
   have hrm: ∀i:Nat,((i:Int)+t).tmod l.length=(((i+t) % l.length:Nat):Int):=fun i=>by
    rw[←Int.natCast_add,←Int.ofNat_tmod]
   have hr0:(t:Int).tmod l.length=((t % l.length:Nat):Int):=by rw[←Int.ofNat_tmod]
   have hn0: ¬(l.length:Int)=0:=by omega
   have hne: ¬l= []:=fun h=>h0 (by rw[h];rfl)
   unfold rlsV at h1 h2
   unfold eqRB eqRE at h3
   rw[←e2]at h2 h3
   have hlenT:True:=trivial
   have hzr:=rotP_zero l t
   have hmr:m.map eRl=(rotP l t l.length).map eRl++ [eRl l[t % l.length]]:=by rw[hm];simp
   rw[hmr]at h2 h3
   refine acall_of_awp Tryz.func9 Tryz.call9 rfl (by simp[Tryz.ntmps9]) ?_;simp only[Tryz.ntmps9,Tryz.results9]
   repeat' (first|(refine awK fun _ _=>?_)|refine zHg ?_|refine stepK_is rfl (s1) (by simp) ?_|(fail_if_success with_reducible refine Owe.mk ?_);(simp(disch:=omega) [go_sem,h0]))
   refine awp_for [0,1] [900] (fun i:Nat=> [(6,nt .i64 i),(5,.ref 900 0 i)]) (fun i:Nat=> [(900,⟨true,false,false,3,(rotP l t i).map eRl,0⟩)]) (fun i:Nat=>l.length - i) (fun i:Nat=>i≤l.length) (0) (by refine Le.trans ?_ (Le.nil (i:=5) (T:=900) (es:=3) rfl);exact(Le.sub4 rfl (by simp[go_sem,hzr,List.map_nil]))) ⟨?_⟩ ?_
   ·exact Nat.zero_le _
   intro i hi AA hAA;simp only[kL,Nat.reduceBEq,Nat.reduceEqDiff,if_true,if_false,List.cons_append,List.nil_append,List.append_nil]
   have hrl:=rotP_len l t i
   by_cases hlt:i<l.length
   ·have hmi:=Nat.mod_lt (i+t) hp
    have hnx:=rotP_next (l:=l) (t:=t) (i:=i) hmi
    have hri:=hrm i
    clear h1 h2 h3 h5 h6 s1 hrm
    generalize rotP l t i=P at*
    generalize(i+t) % l.length=j at*
    repeat' (first|(refine awK fun _ _=>?_)|refine zHg ?_|refine(hAA.next (i+1) (Le.sub4 rfl (by simp[go_sem,hnx,hrl])) (by(try dsimp only);omega) ?_)|(fail_if_success with_reducible refine Owe.mk ?_);(simp(disch:=omega) [go_sem,hlt,hri,hn0,hne,hmi,hrl])|refine zAo ?_|fail)
    all_goals(first|omega|skip)
    all_goals exact⟨hlt⟩
   ·obtain rfl:i=l.length:=by omega
    clear s1 hrm hmm zm hdm hml hm hmr
    generalize rotP l t l.length=P at*
    generalize t % l.length=j at*
    generalize rlsR l=x at*
    by_cases hf:rlsE l=0
    ·have hg:=e1.1 hf
     rw[hf,if_pos rfl]at h1
     rw[hg,if_pos rfl]at h2
     rw[hf,hg]at h3
     simp only[if_true,decide_true]at h3
     clear e1 e2 hf hg h6
     repeat' (first|(refine awK fun _ _=>?_)|refine zHg ?_|refine end_ret [] ?_;simp[go_sem,hlenT,hr0,hn0,hne,hmt,hrl]|refine stepK_is rfl (h1) (by simp) ?_|refine stepK_is rfl (haw) (by simp) ?_|refine stepK_is ?hl (h2) (by simp) ?_;(case hl=>(simp[go_sem,hlenT,hr0,hn0,hne,hmt,hrl];done))|refine stepK_is ?hl (h3) (by simp) ?_;(case hl=>(simp[go_sem,hlenT,hr0,hn0,hne,hmt,hrl];done))|refine stepK_is ?hl (h5) (by simp) ?_;(case hl=>(simp[go_sem,hlenT,hr0,hn0,hne,hmt,hrl];done))|(fail_if_success with_reducible refine Owe.mk ?_);(simp(disch:=omega) [go_sem,hlenT,hr0,hn0,hne,hmt,hrl])|refine zAo ?_|fail)
    ·have hg: ¬rlsE m=0:=fun h=>hf (e1.2 h)
     rw[if_neg hf]at h1
     rw[if_neg hg]at h2
     simp only[if_neg hf]at h3
     clear e1 e2 h5
     generalize rlsE l=f at*
     generalize rlsE m=g at*
     repeat' (first|(refine awK fun _ _=>?_)|refine zHg ?_|refine end_ret [] ?_;simp[go_sem,hlenT,hr0,hn0,hne,hmt,hrl,hf,hg]|refine stepK_is rfl (h1) (by simp) ?_|refine stepK_is rfl (h6) (by simp) ?_|refine stepK_is rfl (haw) (by simp) ?_|refine stepK_is ?hl (h2) (by simp) ?_;(case hl=>(simp[go_sem,hlenT,hr0,hn0,hne,hmt,hrl,hf,hg];done))|refine stepK_is ?hl (h3) (by simp) ?_;(case hl=>(simp[go_sem,hlenT,hr0,hn0,hne,hmt,hrl,hf,hg];done))|(fail_if_success with_reducible refine Owe.mk ?_);(simp(disch:=omega) [go_sem,hlenT,hr0,hn0,hne,hmt,hrl,hf,hg])|refine zAo ?_|fail)
def skipN (c:Int→Bool) (s:ByteArray):Nat→Nat→Nat
 |0,i=>i
 |k+1,i=>if i<s.size∧c (bt s i)=true then skipN c s k (i+1)else i
def skipF (c:Int→Bool) (s:ByteArray) (i:Nat):Nat:=skipN c s (s.size - i) i
theorem skipF_on {c s} {i:Nat} (h:i<s.size) (hc:c (bt s i)=true):skipF c s i=skipF c s (i+1):=by
 unfold skipF
 rw[show s.size - i=(s.size - (i+1))+1 by omega,skipN,if_pos ⟨h,hc⟩]
theorem skipF_no {c s} {i:Nat} (h: ¬(i<s.size∧c (bt s i)=true)):skipF c s i=i:=by
 unfold skipF
 cases s.size - i with
 |zero=>rfl
 |succ k=>rw[skipN,if_neg h]
theorem skipN_ge {c s}: ∀k i,i≤skipN c s k i
 |0,i=>Nat.le_refl i
 |k+1,i=>by
  unfold skipN
  split
  ·exact Nat.le_trans (Nat.le_succ i) (skipN_ge k (i+1))
  ·exact Nat.le_refl i
theorem skipF_ge {c s i}:i≤skipF c s i:=skipN_ge _ _
theorem skipN_le {c} {s:ByteArray}: ∀k i,i≤s.size→skipN c s k i≤s.size
 |0,i,h=>h
 |k+1,i,h=>by
  unfold skipN
  split
  ·exact skipN_le k (i+1) (by omega)
  ·exact h
theorem skipF_le {c} {s:ByteArray} {i:Nat} (h:i≤s.size):skipF c s i≤s.size:=skipN_le _ _ h
def isBl (c:Int):Bool:=decide (c=32)||decide (c=10)
def isWd (c:Int):Bool:=decide (c=45)||(decide (48≤c)&&decide (c≤57))||(decide (97≤c)&&decide (c≤122))||(decide (65≤c)&&decide (c≤90))
def blF (s:ByteArray) (i:Nat):Nat:=skipF isBl s i
def wdT (s:ByteArray) (i:Nat):Nat:=skipF isWd s (blF s i)
def wdF (s:ByteArray) (i:Nat):ByteArray:=s.extract (blF s i) (wdT s i)
def sgB (s:ByteArray) (c:Int) (i:Nat):Bool:=decide (blF s i<s.size)&&decide (bt s (blF s i)=c)
def sgT (s:ByteArray) (c:Int) (i:Nat):Nat:=if sgB s c i=true then blF s i+1 else blF s i
theorem blF_ge {s i}:i≤blF s i:=skipF_ge
theorem wdT_ge {s i}:i≤wdT s i:=Nat.le_trans blF_ge skipF_ge
theorem sgT_ge {s c i}:i≤sgT s c i:=by
 unfold sgT;split
 ·exact Nat.le_succ_of_le blF_ge
 ·exact blF_ge
theorem blF_le {s:ByteArray} {i:Nat} (h:i≤s.size):blF s i≤s.size:=skipF_le h
theorem wdT_le {s:ByteArray} {i:Nat} (h:i≤s.size):wdT s i≤s.size:=skipF_le (blF_le h)
theorem sgT_le {s:ByteArray} {c:Int} {i:Nat} (h:i≤s.size):sgT s c i≤s.size:=by
 unfold sgT;split
 ·rename_i hb
  unfold sgB at hb
  simp only[Bool.and_eq_true,decide_eq_true_eq]at hb
  omega
 ·exact blF_le h
theorem sgT_gt {s c i} (h:sgB s c i=true):i<sgT s c i:=by
 unfold sgT;rw[if_pos h];exact Nat.lt_succ_of_le blF_ge
theorem sgB_lt {s:ByteArray} {c:Int} {i:Nat} (h:sgB s c i=true):i<s.size:=by
 unfold sgB at h
 simp only[Bool.and_eq_true,decide_eq_true_eq]at h
 exact Nat.lt_of_le_of_lt blF_ge h.1
mutual
def tmN (s:ByteArray):Nat→ByteArray→Nat→Tm×Nat
 |0,w,i=>(.mk w [],i)
 |f+1,w,i=>if sgB s 40 i=true then
  (.mk w (agN s f [] (sgT s 40 i)).1,sgT s 41 (agN s f [] (sgT s 40 i)).2)
  else(.mk w [],sgT s 40 i)
def agN (s:ByteArray):Nat→List Tm→Nat→List Tm×Nat
 |0,a,i=>(a,i)
 |f+1,a,i=>if i<s.size then
  if sgB s 44 (tmN s f (wdF s i) (wdT s i)).2=true then agN s f (a++ [(tmN s f (wdF s i) (wdT s i)).1]) (sgT s 44 (tmN s f (wdF s i) (wdT s i)).2)
  else(a++ [(tmN s f (wdF s i) (wdT s i)).1],sgT s 44 (tmN s f (wdF s i) (wdT s i)).2)
  else(a,i)
end
theorem tmN_ge (s:ByteArray): ∀f,(∀w i,i≤(tmN s f w i).2)∧(∀a i,i≤(agN s f a i).2)
 |0=>⟨fun _ _=>Nat.le_refl _,fun _ _=>Nat.le_refl _⟩
 |f+1=>by
  obtain⟨h1,h2⟩:=tmN_ge s f
  constructor
  ·intro w i
   unfold tmN
   split
   ·exact Nat.le_trans sgT_ge (Nat.le_trans (h2 [] _) sgT_ge)
   ·exact sgT_ge
  ·intro a i
   unfold agN
   split
   ·split
    ·exact Nat.le_trans wdT_ge (Nat.le_trans (h1 _ _) (Nat.le_trans sgT_ge (h2 _ _)))
    ·exact Nat.le_trans wdT_ge (Nat.le_trans (h1 _ _) sgT_ge)
   ·exact Nat.le_refl _
theorem tmN_le (s:ByteArray): ∀f,(∀w i,i≤s.size→(tmN s f w i).2≤s.size)∧(∀a i,i≤s.size→(agN s f a i).2≤s.size)
 |0=>⟨fun _ _ h=>h,fun _ _ h=>h⟩
 |f+1=>by
  obtain⟨h1,h2⟩:=tmN_le s f
  constructor
  ·intro w i h
   unfold tmN
   split
   ·exact sgT_le (h2 [] _ (sgT_le h))
   ·exact sgT_le h
  ·intro a i h
   unfold agN
   split
   ·split
    ·exact h2 _ _ (sgT_le (h1 _ _ (wdT_le h)))
    ·exact sgT_le (h1 _ _ (wdT_le h))
   ·exact h
theorem tmN_fuel (s:ByteArray): ∀f f',(∀w i,2*(s.size - i)<f→2*(s.size - i)<f'→tmN s f w i=tmN s f' w i)∧(∀a i,2*(s.size - i)+1<f→2*(s.size - i)+1<f'→agN s f a i=agN s f' a i)
 |0,_=>⟨fun _ _ h=>absurd h (Nat.not_lt_zero _),fun _ _ h=>absurd h (Nat.not_lt_zero _)⟩
 |_+1,0=>⟨fun _ _ _ h=>absurd h (Nat.not_lt_zero _),fun _ _ _ h=>absurd h (Nat.not_lt_zero _)⟩
 |f+1,f'+1=>by
  obtain⟨h1,h2⟩:=tmN_fuel s f f'
  constructor
  ·intro w i ha hb
   unfold tmN
   split
   ·rename_i hs
    have:=sgT_gt hs
    have:=sgB_lt hs
    rw[h2 [] (sgT s 40 i) (by omega) (by omega)]
   ·rfl
  ·intro a i ha hb
   unfold agN
   split
   ·rename_i hi
    have hw:=wdT_ge (s:=s) (i:=i)
    rw[h1 (wdF s i) (wdT s i) (by omega) (by omega)]
    split
    ·rename_i hs
     have:=sgT_gt hs
     have:=(tmN_ge s f').1 (wdF s i) (wdT s i)
     exact h2 _ _ (by omega) (by omega)
    ·rfl
   ·rfl
def tmF (s:ByteArray) (w:ByteArray) (i:Nat):Tm×Nat:=tmN s (2*s.size+2) w i
def agF (s:ByteArray) (a:List Tm) (i:Nat):List Tm×Nat:=agN s (2*s.size+2) a i
theorem tmF_no {s w i} (h:sgB s 40 i=false):tmF s w i=(.mk w [],sgT s 40 i):=by
 unfold tmF;rw[tmN,if_neg (by simp[h])]
theorem tmF_on {s w i} (h:sgB s 40 i=true):tmF s w i=(.mk w (agF s [] (sgT s 40 i)).1,sgT s 41 (agF s [] (sgT s 40 i)).2):=by
 unfold tmF agF
 have:=sgT_gt h
 have:=sgB_lt h
 rw[tmN,if_pos h,(tmN_fuel s (2*s.size+1) (2*s.size+2)).2 [] _ (by omega) (by omega)]
theorem agF_end {s:ByteArray} {a:List Tm} {i:Nat} (h: ¬i<s.size):agF s a i=(a,i):=by
 unfold agF;rw[agN,if_neg h]
theorem agF_no {s:ByteArray} {a:List Tm} {i:Nat} (h:i<s.size) (hs:sgB s 44 (tmF s (wdF s i) (wdT s i)).2=false):agF s a i=(a++ [(tmF s (wdF s i) (wdT s i)).1],sgT s 44 (tmF s (wdF s i) (wdT s i)).2):=by
 unfold agF
 have hw:=wdT_ge (s:=s) (i:=i)
 rw[agN,if_pos h,(tmN_fuel s (2*s.size+1) (2*s.size+2)).1 (wdF s i) (wdT s i) (by omega) (by omega)]
 rw[←tmF,if_neg (by simp[hs])]
theorem agF_on {s:ByteArray} {a:List Tm} {i:Nat} (h:i<s.size) (hs:sgB s 44 (tmF s (wdF s i) (wdT s i)).2=true):agF s a i=agF s (a++ [(tmF s (wdF s i) (wdT s i)).1]) (sgT s 44 (tmF s (wdF s i) (wdT s i)).2):=by
 have hw:=wdT_ge (s:=s) (i:=i)
 have h3:i≤(tmF s (wdF s i) (wdT s i)).2:=Nat.le_trans hw ((tmN_ge s _).1 _ _)
 have h4:=sgT_gt hs
 unfold agF
 rw[agN,if_pos h,(tmN_fuel s (2*s.size+1) (2*s.size+2)).1 (wdF s i) (wdT s i) (by omega) (by omega)]
 rw[←tmF,if_pos hs,(tmN_fuel s (2*s.size+1) (2*s.size+2)).2 _ _ (by omega) (by omega)]
theorem tmF_ge {s w i}:i≤(tmF s w i).2:=(tmN_ge s _).1 w i
theorem tmF_le {s:ByteArray} {w i} (h:i≤s.size):(tmF s w i).2≤s.size:=(tmN_le s _).1 w i h
open Go.Ab
abbrev notS:ByteArray:=⟨#[110,111,116]⟩
def ltA (s:ByteArray) (i:Nat):Bool×ByteArray×Nat:=
 if wdF s (wdT s i)=notS then(true,wdF s (wdT s (wdT s i)),wdT s (wdT s (wdT s i)))else(false,wdF s (wdT s i),wdT s (wdT s i))
def rlN (s:ByteArray):Nat→List Lt→Nat→List Lt×Nat
 |0,a,i=>(a,i)
 |f+1,a,i=>if i<s.size then
  if sgB s 46 i=true then(a,sgT s 46 i)
  else if(ltA s (sgT s 46 i)).2.1.size=0 then(a,(ltA s (sgT s 46 i)).2.2)
  else rlN s f (a++ [⟨(ltA s (sgT s 46 i)).1,(tmF s (ltA s (sgT s 46 i)).2.1 (ltA s (sgT s 46 i)).2.2).1⟩]) (tmF s (ltA s (sgT s 46 i)).2.1 (ltA s (sgT s 46 i)).2.2).2
  else(a,i)
theorem wd_gt {s:ByteArray} {i:Nat} (h:(wdF s i).size≠0):i<wdT s i:=by
 have h1:=blF_ge (s:=s) (i:=i)
 have h2:blF s i≤wdT s i:=skipF_ge
 unfold wdF at h
 rw[ByteArray.size_extract]at h
 omega
theorem ltA_ge {s:ByteArray} {i:Nat}:i≤(ltA s i).2.2:=by
 unfold ltA
 have h1:=wdT_ge (s:=s) (i:=i)
 have h2:=wdT_ge (s:=s) (i:=wdT s i)
 have h3:=wdT_ge (s:=s) (i:=wdT s (wdT s i))
 split
 ·show i≤wdT s (wdT s (wdT s i));omega
 ·show i≤wdT s (wdT s i);omega
theorem ltA_gt {s:ByteArray} {i:Nat} (h:(ltA s i).2.1.size≠0):i<(ltA s i).2.2:=by
 unfold ltA at*
 have h1:=wdT_ge (s:=s) (i:=i)
 have h2:=wdT_ge (s:=s) (i:=wdT s i)
 split at h
 ·rename_i hc
  rw[if_pos hc]
  have h3:=wd_gt h
  show i<wdT s (wdT s (wdT s i));omega
 ·rename_i hc
  rw[if_neg hc]
  have h3:=wd_gt h
  show i<wdT s (wdT s i);omega
theorem ltA_le {s:ByteArray} {i:Nat} (h:i≤s.size):(ltA s i).2.2≤s.size:=by
 unfold ltA
 split
 ·exact wdT_le (wdT_le (wdT_le h))
 ·exact wdT_le (wdT_le h)
theorem rlN_fuel (s:ByteArray): ∀(f f':Nat) (a:List Lt) (i:Nat),s.size - i<f→s.size - i<f'→rlN s f a i=rlN s f' a i
 |0,_,_,_,h,_=>absurd h (Nat.not_lt_zero _)
 |_+1,0,_,_,_,h=>absurd h (Nat.not_lt_zero _)
 |f+1,f'+1,a,i,h,h'=>by
  rw[rlN,rlN]
  split
  ·split
   ·rfl
   ·split
    ·rfl
    ·rename_i hi _ hz
     have h1:=ltA_gt hz
     have h2:=sgT_ge (s:=s) (c:=46) (i:=i)
     have h3:=tmF_ge (s:=s) (w:=(ltA s (sgT s 46 i)).2.1) (i:=(ltA s (sgT s 46 i)).2.2)
     exact rlN_fuel s f f' _ _ (by omega) (by omega)
  ·rfl
def rlF (s:ByteArray) (a:List Lt) (i:Nat):List Lt×Nat:=rlN s (s.size+1) a i
theorem rlF_end {s:ByteArray} {a:List Lt} {i:Nat} (h: ¬i<s.size):rlF s a i=(a,i):=by unfold rlF;rw[rlN,if_neg h]
theorem rlF_dot {s:ByteArray} {a:List Lt} {i:Nat} (h:i<s.size) (hd:sgB s 46 i=true):rlF s a i=(a,sgT s 46 i):=by unfold rlF;rw[rlN,if_pos h,if_pos hd]
theorem rlF_void {s:ByteArray} {a:List Lt} {i:Nat} (h:i<s.size) (hd:sgB s 46 i=false) (hz:(ltA s (sgT s 46 i)).2.1.size=0):rlF s a i=(a,(ltA s (sgT s 46 i)).2.2):=by
 unfold rlF;rw[rlN,if_pos h,if_neg (by simp[hd]),if_pos hz]
theorem rlF_go {s:ByteArray} {a:List Lt} {i:Nat} (h:i<s.size) (hd:sgB s 46 i=false) (hz: ¬(ltA s (sgT s 46 i)).2.1.size=0):
 rlF s a i=rlF s (a++ [⟨(ltA s (sgT s 46 i)).1,(tmF s (ltA s (sgT s 46 i)).2.1 (ltA s (sgT s 46 i)).2.2).1⟩]) (tmF s (ltA s (sgT s 46 i)).2.1 (ltA s (sgT s 46 i)).2.2).2:=by
 have h1:=ltA_gt hz
 have h2:=sgT_ge (s:=s) (c:=46) (i:=i)
 have h3:=tmF_ge (s:=s) (w:=(ltA s (sgT s 46 i)).2.1) (i:=(ltA s (sgT s 46 i)).2.2)
 unfold rlF
 rw[rlN,if_pos h,if_neg (by simp[hd]),if_neg hz]
 exact rlN_fuel s _ _ _ _ (by omega) (by omega)
def ruF (s:ByteArray) (w:ByteArray) (i:Nat):Rl×Nat:=(⟨(tmF s w i).1,(rlF s [] (tmF s w i).2).1⟩,(rlF s [] (tmF s w i).2).2)
theorem rlN_ge (s:ByteArray): ∀(f:Nat) (a:List Lt) (i:Nat),i≤(rlN s f a i).2
 |0,a,i=>by rw[rlN];exact Nat.le_refl i
 |f+1,a,i=>by
  rw[rlN]
  by_cases h:i<s.size
  ·rw[if_pos h]
   have h1:=sgT_ge (s:=s) (c:=46) (i:=i)
   have h2:=ltA_ge (s:=s) (i:=sgT s 46 i)
   by_cases hd:sgB s 46 i=true
   ·rw[if_pos hd];exact h1
   ·rw[if_neg hd]
    generalize ltA s (sgT s 46 i)=q at*
    by_cases hz:q.2.1.size=0
    ·rw[if_pos hz];exact Nat.le_trans h1 h2
    ·rw[if_neg hz]
     have h3:=tmF_ge (s:=s) (w:=q.2.1) (i:=q.2.2)
     generalize tmF s q.2.1 q.2.2=u at*
     have h4:=rlN_ge s f (a++ [⟨q.1,u.1⟩]) u.2
     omega
  ·rw[if_neg h];exact Nat.le_refl i
theorem rlN_le (s:ByteArray): ∀(f:Nat) (a:List Lt) (i:Nat),i≤s.size→(rlN s f a i).2≤s.size
 |0,a,i,h=>by rw[rlN];exact h
 |f+1,a,i,h=>by
  rw[rlN]
  by_cases hi:i<s.size
  ·rw[if_pos hi]
   have h1:=sgT_le (s:=s) (c:=46) h
   have h2:=ltA_le h1
   by_cases hd:sgB s 46 i=true
   ·rw[if_pos hd];exact h1
   ·rw[if_neg hd]
    generalize ltA s (sgT s 46 i)=q at*
    by_cases hz:q.2.1.size=0
    ·rw[if_pos hz];exact h2
    ·rw[if_neg hz]
     have h3:=tmF_le (s:=s) (w:=q.2.1) h2
     generalize tmF s q.2.1 q.2.2=u at*
     exact rlN_le s f (a++ [⟨q.1,u.1⟩]) u.2 h3
  ·rw[if_neg hi];exact h
theorem ruF_ge {s w i}:i≤(ruF s w i).2:=Nat.le_trans tmF_ge (rlN_ge s _ _ _)
theorem ruF_le {s:ByteArray} {w i} (h:i≤s.size):(ruF s w i).2≤s.size:=rlN_le s _ _ _ (tmF_le h)
def rdN (s:ByteArray):Nat→List Rl→Nat→List Rl
 |0,a,_=>a
 |f+1,a,i=>if(wdF s i).size=0 then a else rdN s f (a++ [(ruF s (wdF s i) (wdT s i)).1]) (ruF s (wdF s i) (wdT s i)).2
theorem rdN_fuel (s:ByteArray): ∀(f f':Nat) (a:List Rl) (i:Nat),i≤s.size→s.size - i<f→s.size - i<f'→rdN s f a i=rdN s f' a i
 |0,_,_,_,_,h,_=>absurd h (Nat.not_lt_zero _)
 |_+1,0,_,_,_,_,h=>absurd h (Nat.not_lt_zero _)
 |f+1,f'+1,a,i,hi,h,h'=>by
  rw[rdN,rdN]
  split
  ·rfl
  ·rename_i hz
   have h1:=wd_gt hz
   have h2:=ruF_ge (s:=s) (w:=wdF s i) (i:=wdT s i)
   have h3:=wdT_le (s:=s) hi
   exact rdN_fuel s f f' _ _ (ruF_le h3) (by omega) (by omega)
def rdF (s:ByteArray) (a:List Rl) (i:Nat):List Rl:=rdN s (s.size+1) a i
theorem rdF_end {s:ByteArray} {a:List Rl} {i:Nat} (h:(wdF s i).size=0):rdF s a i=a:=by unfold rdF;rw[rdN,if_pos h]
theorem rdF_go {s:ByteArray} {a:List Rl} {i:Nat} (hi:i≤s.size) (h: ¬(wdF s i).size=0):rdF s a i=rdF s (a++ [(ruF s (wdF s i) (wdT s i)).1]) (ruF s (wdF s i) (wdT s i)).2:=by
 have h1:=wd_gt h
 have h2:=ruF_ge (s:=s) (w:=wdF s i) (i:=wdT s i)
 have h3:=wdT_le (s:=s) hi
 unfold rdF
 rw[rdN,if_neg h]
 exact rdN_fuel s _ _ _ _ (ruF_le h3) (by omega) (by omega)
set_option maxRecDepth 100000
set_option maxHeartbeats 8000000
abbrev rdA (s:ByteArray) (i:Nat):AObj:=⟨false,false,true,2,[.agg [.sc (.string s),nt .i64 i]],0⟩
abbrev rdO (s:ByteArray) (i:Nat):Objs:= [(1000,rdA s i)]
theorem rdBlank_ok (s:ByteArray) (i:Nat) (hs:s.size≤1000000) (hi:i≤s.size):MCall Tryz.prog 99 [.ptr 1000 0 0] (rdO s i) (fun r o'=>r= .tup []∧o'=rdO s (blF s i)):=by
 refine mcall_of_awpL Tryz.func99 Tryz.call99 rfl (by simp[Tryz.ntmps99]) ?_;simp only[Tryz.ntmps99,Tryz.results99]
 repeat' (first|(fail_if_success with_reducible refine Owe.mk ?_);(simp(disch:=omega) [go_sem,rdO,rdA]))
 refine awp_for [0] [1000] (fun j:Nat=> []) (fun j:Nat=> [(1000,rdA s j)]) (fun j:Nat=>s.size - j) (fun j:Nat=>j≤s.size∧blF s j=blF s i) (i) (Le.sub4 rfl (by simp[go_sem,rdO,rdA])) ⟨?_⟩ ?_
 ·exact⟨hi,rfl⟩
 intro j ⟨hj,he⟩ AA hAA;simp only[kL,Nat.reduceBEq,Nat.reduceEqDiff,if_true,if_false,List.cons_append,List.nil_append,List.append_nil]
 by_cases h1:j<s.size
 ·by_cases h2:bt s j=32
  ·repeat' (first|(refine awK fun _ _=>?_)|refine zHg ?_|refine(hAA.next (j+1) (Le.sub4 rfl (by simp[go_sem])) (by(try dsimp only);omega) ?_)|(fail_if_success with_reducible refine Owe.mk ?_);(simp(disch:=omega) [go_sem,h1,h2,rdA])|refine zDr 34 mix ?_|fail)
   exact⟨h1,by rw[←he];exact(skipF_on h1 (by simp[isBl,h2])).symm⟩
  ·by_cases h3:bt s j=10
   ·repeat' (first|(refine awK fun _ _=>?_)|refine zHg ?_|refine(hAA.next (j+1) (Le.sub4 rfl (by simp[go_sem])) (by(try dsimp only);omega) ?_)|(fail_if_success with_reducible refine Owe.mk ?_);(simp(disch:=omega) [go_sem,h1,h2,h3,rdA])|refine zDr 34 mix ?_|fail)
    exact⟨h1,by rw[←he];exact(skipF_on h1 (by simp[isBl,h3])).symm⟩
   ·have hz:blF s i=j:=by rw[←he];exact skipF_no (by simp[isBl,h2,h3])
    rw[hz]
    repeat' (first|(refine awK fun _ _=>?_)|refine zHg ?_|(fail_if_success with_reducible refine Owe.mk ?_);(simp(disch:=omega) [go_sem,h1,h2,h3,rdA])|refine zDr 34 mix ?_|fail)
    refine endL_normal ⟨43,[],rdO s j⟩ [] (Le.renSub [] [] (by simp[go_sem,rdO,rdA]) (by simp[go_sem,rdO,rdA]) (Le.sub4 rfl (by simp[go_sem,rdO,rdA]))) (by simp[go_sem,rdO,rdA]) ⟨rfl,rfl⟩
 ·have hz:blF s i=j:=by rw[←he];exact skipF_no (by simp[h1])
  rw[hz]
  repeat' (first|(refine awK fun _ _=>?_)|refine zHg ?_|(fail_if_success with_reducible refine Owe.mk ?_);(simp(disch:=omega) [go_sem,h1,rdA])|refine zDr 34 mix ?_|fail)
  refine endL_normal ⟨43,[],rdO s j⟩ [] (Le.renSub [] [] (by simp[go_sem,rdO,rdA]) (by simp[go_sem,rdO,rdA]) (Le.sub4 rfl (by simp[go_sem,rdO,rdA]))) (by simp[go_sem,rdO,rdA]) ⟨rfl,rfl⟩
theorem rdSign_ok (s:ByteArray) (i:Nat) (c:Int) (hs:s.size≤1000000) (hi:i≤s.size):MCall Tryz.prog 101 [.ptr 1000 0 0,nt .u8 c] (rdO s i) (fun r o'=>r=bl (sgB s c i)∧o'=rdO s (sgT s c i)):=by
 have hb:=rdBlank_ok s i hs hi
 have hle:=blF_le (s:=s) hi
 unfold sgT sgB
 generalize blF s i=j at*
 refine mcall_of_awpL Tryz.func101 Tryz.call101 rfl (by simp[Tryz.ntmps101]) ?_;simp only[Tryz.ntmps101,Tryz.results101]
 repeat' (first|(refine awK fun _ _=>?_)|refine zHg ?_|(fail_if_success with_reducible refine Owe.mk ?_);(simp(disch:=omega) [go_sem,rdO,rdA]))
 refine stepK_fis [] [] 10000 _ _ (Fits.mk' (by simp[go_sem,rdO,rdA]) (by simp[go_sem,rdO,rdA])) (by simp[go_sem,rdO,rdA]) (by simp[go_sem,rdO,rdA]) (hb) (by simp[go_sem,rdO,rdA]) (by simp[go_sem,rdO,rdA]) ?_
 by_cases h1:j<s.size
 ·by_cases h2:bt s j=c
  ·repeat' (first|(refine awK fun _ _=>?_)|refine zHg ?_|(fail_if_success with_reducible refine Owe.mk ?_);(simp(disch:=omega) [go_sem,h1,h2,rdO,rdA])|refine zDr 23 mix ?_|fail)
   refine endL_ret ⟨37,[(4,bl true)],rdO s (j+1)⟩ [bl true] (Le.renSub [] [] (by simp[go_sem,rdO,rdA]) (by simp[go_sem,rdO,rdA]) (Le.sub4 rfl (by simp[go_sem,rdO,rdA]))) (by simp[go_sem,rdO,rdA]) ⟨rfl,rfl⟩
  ·repeat' (first|(refine awK fun _ _=>?_)|refine zHg ?_|(fail_if_success with_reducible refine Owe.mk ?_);(simp(disch:=omega) [go_sem,h1,h2,rdO,rdA])|refine zDr 23 mix ?_|fail)
   refine endL_ret ⟨37,[(4,bl false)],rdO s j⟩ [bl false] (Le.renSub [] [] (by simp[go_sem,rdO,rdA]) (by simp[go_sem,rdO,rdA]) (Le.sub4 rfl (by simp[go_sem,rdO,rdA]))) (by simp[go_sem,rdO,rdA]) ⟨rfl,rfl⟩
 ·repeat' (first|(refine awK fun _ _=>?_)|refine zHg ?_|(fail_if_success with_reducible refine Owe.mk ?_);(simp(disch:=omega) [go_sem,h1,rdO,rdA])|refine zDr 23 mix ?_|fail)
  refine endL_ret ⟨37,[(4,bl false)],rdO s j⟩ [bl false] (Le.renSub [] [] (by simp[go_sem,rdO,rdA]) (by simp[go_sem,rdO,rdA]) (Le.sub4 rfl (by simp[go_sem,rdO,rdA]))) (by simp[go_sem,rdO,rdA]) ⟨rfl,rfl⟩
set_option maxHeartbeats 16000000
theorem isWd_no {c:Int} (h:isWd c=false): ¬c=45∧(48≤c→ ¬c≤57)∧(97≤c→ ¬c≤122)∧(65≤c→ ¬c≤90):=by
 unfold isWd at h
 simp only[Bool.or_eq_false_iff,Bool.and_eq_false_iff,decide_eq_false_iff_not]at h
 refine⟨h.1.1.1,?_,?_,?_⟩<;>omega
theorem isWd_yes {c:Int} (h:isWd c=true):c=45∨(48≤c∧c≤57)∨(97≤c∧c≤122)∨(65≤c∧c≤90):=by
 unfold isWd at h
 simp only[Bool.or_eq_true,Bool.and_eq_true,decide_eq_true_eq]at h
 omega
theorem rdWord_ok (s:ByteArray) (i:Nat) (hs:s.size≤1000000) (hi:i≤s.size):MCall Tryz.prog 56 [.ptr 1000 0 0] (rdO s i) (fun r o'=>r= .sc (.string (wdF s i))∧o'=rdO s (wdT s i)):=by
 have hb:=rdBlank_ok s i hs hi
 have hle:=blF_le (s:=s) hi
 unfold wdF wdT
 generalize blF s i=k at*
 refine mcall_of_awpL Tryz.func56 Tryz.call56 rfl (by simp[Tryz.ntmps56]) ?_;simp only[Tryz.ntmps56,Tryz.results56]
 repeat' (first|(refine awK fun _ _=>?_)|refine zHg ?_|(fail_if_success with_reducible refine Owe.mk ?_);(simp(disch:=omega) [go_sem,rdO,rdA]))
 refine stepK_fis [] [] 10000 _ _ (Fits.mk' (by simp[go_sem,rdO,rdA]) (by simp[go_sem,rdO,rdA])) (by simp[go_sem,rdO,rdA]) (by simp[go_sem,rdO,rdA]) (hb) (by simp[go_sem,rdO,rdA]) (by simp[go_sem,rdO,rdA]) ?_
 repeat' (first|(refine awK fun _ _=>?_)|refine zHg ?_|(fail_if_success with_reducible refine Owe.mk ?_);(simp(disch:=omega) [go_sem,rdO,rdA]))
 refine awp_for [0,3] [1000] (fun j:Nat=> []) (fun j:Nat=> [(1000,rdA s j)]) (fun j:Nat=>s.size - j) (fun j:Nat=>k≤j∧j≤s.size∧skipF isWd s j=skipF isWd s k) (k) (Le.sub4 rfl (by simp[go_sem,rdO,rdA])) ⟨?_⟩ ?_
 ·exact⟨Nat.le_refl _,hle,rfl⟩
 intro j ⟨hkj,hj,he⟩ AA hAA;simp only[kL,Nat.reduceBEq,Nat.reduceEqDiff,if_true,if_false,List.cons_append,List.nil_append,List.append_nil]
 by_cases h1:j<s.size
 ·cases h2:isWd (bt s j)
  ·have hz:skipF isWd s k=j:=by rw[←he];exact skipF_no (by simp[h2])
   obtain⟨n1,n2,n3,n4⟩:=isWd_no h2
   clear he h2
   generalize skipF isWd s k=z at*
   subst z
   by_cases a3:65≤bt s j
   ·have a1:48≤bt s j:=by omega
    have b1:=n2 a1
    have b3:=n4 a3
    by_cases a2:97≤bt s j
    ·have b2:=n3 a2
     repeat' (first|(refine awK fun _ _=>?_)|refine zHg ?_|(fail_if_success with_reducible refine Owe.mk ?_);(simp(disch:=omega) [go_sem,h1,n1,a1,a2,a3,b1,b2,b3,rdA])|refine zAo ?_|refine zDr 11 mix ?_|refine zDr 94 mix ?_|fail)
     refine endL_ret ⟨121,[(2,.sc (.string (s.extract k j)))],rdO s j⟩ [.sc (.string (s.extract k j))] (Le.renSub [] [] (by simp[go_sem,rdO,rdA]) (by simp[go_sem,rdO,rdA]) (Le.sub4 rfl (by simp[go_sem,rdO,rdA]))) (by simp[go_sem,rdO,rdA]) ⟨rfl,rfl⟩
    ·repeat' (first|(refine awK fun _ _=>?_)|refine zHg ?_|(fail_if_success with_reducible refine Owe.mk ?_);(simp(disch:=omega) [go_sem,h1,n1,a1,a2,a3,b1,b3,rdA])|refine zAo ?_|refine zDr 11 mix ?_|refine zDr 94 mix ?_|fail)
     refine endL_ret ⟨121,[(2,.sc (.string (s.extract k j)))],rdO s j⟩ [.sc (.string (s.extract k j))] (Le.renSub [] [] (by simp[go_sem,rdO,rdA]) (by simp[go_sem,rdO,rdA]) (Le.sub4 rfl (by simp[go_sem,rdO,rdA]))) (by simp[go_sem,rdO,rdA]) ⟨rfl,rfl⟩
   ·have a2: ¬97≤bt s j:=by omega
    by_cases a1:48≤bt s j
    ·have b1:=n2 a1
     repeat' (first|(refine awK fun _ _=>?_)|refine zHg ?_|(fail_if_success with_reducible refine Owe.mk ?_);(simp(disch:=omega) [go_sem,h1,n1,a1,a2,a3,b1,rdA])|refine zAo ?_|refine zDr 11 mix ?_|refine zDr 94 mix ?_|fail)
     refine endL_ret ⟨121,[(2,.sc (.string (s.extract k j)))],rdO s j⟩ [.sc (.string (s.extract k j))] (Le.renSub [] [] (by simp[go_sem,rdO,rdA]) (by simp[go_sem,rdO,rdA]) (Le.sub4 rfl (by simp[go_sem,rdO,rdA]))) (by simp[go_sem,rdO,rdA]) ⟨rfl,rfl⟩
    ·repeat' (first|(refine awK fun _ _=>?_)|refine zHg ?_|(fail_if_success with_reducible refine Owe.mk ?_);(simp(disch:=omega) [go_sem,h1,n1,a1,a2,a3,rdA])|refine zAo ?_|refine zDr 11 mix ?_|refine zDr 94 mix ?_|fail)
     refine endL_ret ⟨121,[(2,.sc (.string (s.extract k j)))],rdO s j⟩ [.sc (.string (s.extract k j))] (Le.renSub [] [] (by simp[go_sem,rdO,rdA]) (by simp[go_sem,rdO,rdA]) (Le.sub4 rfl (by simp[go_sem,rdO,rdA]))) (by simp[go_sem,rdO,rdA]) ⟨rfl,rfl⟩
  ·have hnx:=skipF_on h1 h2
   have h3:=isWd_yes h2
   rw[he]at hnx
   rcases h3 with h3|⟨a1,b1⟩|⟨a2,b2⟩|⟨a3,b3⟩
   ·repeat' (first|(refine awK fun _ _=>?_)|refine zHg ?_|refine(hAA.next (j+1) (Le.sub4 rfl (by simp[go_sem])) (by(try dsimp only);omega) ?_)|(fail_if_success with_reducible refine Owe.mk ?_);(simp(disch:=omega) [go_sem,h1,h3,rdA])|refine zDr 94 mix ?_|fail)
    exact⟨by omega,by omega,hnx.symm⟩
   ·have n1: ¬bt s j=45:=by omega
    repeat' (first|(refine awK fun _ _=>?_)|refine zHg ?_|refine(hAA.next (j+1) (Le.sub4 rfl (by simp[go_sem])) (by(try dsimp only);omega) ?_)|(fail_if_success with_reducible refine Owe.mk ?_);(simp(disch:=omega) [go_sem,h1,n1,a1,b1,rdA])|refine zDr 94 mix ?_|fail)
    exact⟨by omega,by omega,hnx.symm⟩
   ·have n1: ¬bt s j=45:=by omega
    have a1:48≤bt s j:=by omega
    have b1: ¬bt s j≤57:=by omega
    repeat' (first|(refine awK fun _ _=>?_)|refine zHg ?_|refine(hAA.next (j+1) (Le.sub4 rfl (by simp[go_sem])) (by(try dsimp only);omega) ?_)|(fail_if_success with_reducible refine Owe.mk ?_);(simp(disch:=omega) [go_sem,h1,n1,a1,b1,a2,b2,rdA])|refine zDr 94 mix ?_|fail)
    exact⟨by omega,by omega,hnx.symm⟩
   ·have n1: ¬bt s j=45:=by omega
    have a1:48≤bt s j:=by omega
    have b1: ¬bt s j≤57:=by omega
    have a2: ¬97≤bt s j:=by omega
    repeat' (first|(refine awK fun _ _=>?_)|refine zHg ?_|refine(hAA.next (j+1) (Le.sub4 rfl (by simp[go_sem])) (by(try dsimp only);omega) ?_)|(fail_if_success with_reducible refine Owe.mk ?_);(simp(disch:=omega) [go_sem,h1,n1,a1,b1,a2,a3,b3,rdA])|refine zDr 94 mix ?_|fail)
    exact⟨by omega,by omega,hnx.symm⟩
 ·have hz:skipF isWd s k=j:=by rw[←he];exact skipF_no (by simp[h1])
  clear he
  generalize skipF isWd s k=z at*
  subst z
  repeat' (first|(refine awK fun _ _=>?_)|refine zHg ?_|(fail_if_success with_reducible refine Owe.mk ?_);(simp(disch:=omega) [go_sem,h1,rdA])|refine zAo ?_|refine zDr 11 mix ?_|refine zDr 94 mix ?_|fail)
  refine endL_ret ⟨121,[(2,.sc (.string (s.extract k j)))],rdO s j⟩ [.sc (.string (s.extract k j))] (Le.renSub [] [] (by simp[go_sem,rdO,rdA]) (by simp[go_sem,rdO,rdA]) (Le.sub4 rfl (by simp[go_sem,rdO,rdA]))) (by simp[go_sem,rdO,rdA]) ⟨rfl,rfl⟩
theorem rdTerm_ok (s:ByteArray) (hs:s.size≤1000000): ∀(n i:Nat) (w:ByteArray),s.size - i<n→i≤s.size→MCall Tryz.prog 100 [.ptr 1000 0 0,.sc (.string w)] (rdO s i) (fun r o'=>r=eT (tmF s w i).1∧o'=rdO s (tmF s w i).2)
 |0,i,w,hn,hi=>absurd hn (Nat.not_lt_zero _)
 |n+1,i,w,hn,hi=>by
  have ih:=rdTerm_ok s hs n
  have hsg:=rdSign_ok s i 40 hs hi
  have hle:=sgT_le (s:=s) (c:=40) hi
  cases hb:sgB s 40 i
  ·rw[tmF_no hb]
   rw[hb]at hsg
   refine MCall.loose (x:= .agg [.sc (.string w),.list false true []]) (o2:=(4,⟨false,false,false,2,[.agg [.sc (.string w),.list false true []]],0⟩)::rdO s (sgT s 40 i)) ?_ (by simp[go_sem]) (by simp[go_sem]) (by simp[go_sem])
   generalize sgT s 40 i=j at*
   refine mcall_of_awpL Tryz.func100 Tryz.call100 rfl (by simp[Tryz.ntmps100]) ?_;simp only[Tryz.ntmps100,Tryz.results100]
   skip
   repeat' (first|(refine awK fun _ _=>?_)|refine zHg ?_|(fail_if_success with_reducible refine Owe.mk ?_);(simp(disch:=omega) [go_sem,rdO,rdA]))
   refine stepK_fis [] [] 10000 _ _ (Fits.mk' (by simp[go_sem,rdO,rdA]) (by simp[go_sem,rdO,rdA])) (by simp[go_sem,rdO,rdA]) (by simp[go_sem,rdO,rdA]) (hsg) (by simp[go_sem,rdO,rdA]) (by simp[go_sem,rdO,rdA]) ?_
   repeat' (first|refine zHg ?_|(fail_if_success with_reducible refine Owe.mk ?_);(simp(disch:=omega) [go_sem,rdO,rdA]))
   refine endL_ret ⟨39,[(4,.ptr 4 0 0)],(4,⟨false,false,false,2,[.agg [.sc (.string w),.list false true []]],0⟩)::rdO s j⟩ [.agg [.sc (.string w),.list false true []]] (Le.renSub [] [] (by simp[go_sem,rdO,rdA]) (by simp[go_sem,rdO,rdA]) (Le.sub4 rfl (by simp[go_sem,rdO,rdA]))) (by simp[go_sem,rdO,rdA]) ⟨rfl,rfl⟩
  ·rw[tmF_on hb]
   rw[hb]at hsg
   have hgt:=sgT_gt hb
   generalize sgT s 40 i=j at*
   dsimp only
   generalize hG:agF s [] j=G at*
   have hY:eT (.mk w G.1)=Ab.loose (.agg [.sc (.string w),.list false (decide (G.1.length=0)) (G.1.map eTm)]):=rfl
   rw[hY]
   have key:MCall Tryz.prog 100 [.ptr 1000 0 0,.sc (.string w)] (rdO s i) (fun r o'=>r= .agg [.sc (.string w),if G.1.length=0 then .list false true []else .ref 900 0 G.1.length]∧o'=(4,⟨false,false,false,2,[.agg [.sc (.string w),if G.1.length=0 then .list false true []else .ref 900 0 G.1.length]],0⟩)::(1000,rdA s (sgT s 41 G.2))::(if G.1.length=0 then[]else[(900,⟨true,false,false,2,G.1.map eTm,0⟩)])):=by
    refine mcall_of_awpL Tryz.func100 Tryz.call100 rfl (by simp[Tryz.ntmps100]) ?_;simp only[Tryz.ntmps100,Tryz.results100]
    skip
    repeat' (first|(refine awK fun _ _=>?_)|refine zHg ?_|(fail_if_success with_reducible refine Owe.mk ?_);(simp(disch:=omega) [go_sem,rdO,rdA]))
    refine stepK_fis [] [] 10000 _ _ (Fits.mk' (by simp[go_sem,rdO,rdA]) (by simp[go_sem,rdO,rdA])) (by simp[go_sem,rdO,rdA]) (by simp[go_sem,rdO,rdA]) (hsg) (by simp[go_sem,rdO,rdA]) (by simp[go_sem,rdO,rdA]) ?_
    repeat' (first|(refine awK fun _ _=>?_)|refine zHg ?_|(fail_if_success with_reducible refine Owe.mk ?_);(simp(disch:=omega) [go_sem,rdO,rdA]))
    refine awp_for [0,4,5] [5,900,1000] (fun y:List Tm×Nat=> []) (fun y:List Tm×Nat=>(5,⟨false,false,false,2,[.agg [.sc (.string w),if y.1.length=0 then .list false true []else .ref 900 0 y.1.length]],0⟩)::(1000,rdA s y.2)::(if y.1.length=0 then[]else[(900,⟨true,false,false,2,y.1.map eTm,0⟩)])) (fun y:List Tm×Nat=>s.size - y.2) (fun y:List Tm×Nat=>i<y.2∧y.2≤s.size∧y.1.length≤y.2∧agF s y.1 y.2=G) (([],j)) (Le.sub4 rfl (by simp[go_sem,rdO,rdA])) ⟨?_⟩ ?_
    ·exact⟨hgt,hle,Nat.zero_le _,hG⟩
    intro y ⟨hy1,hy2,hy3,hag⟩ AA hAA;simp only[kL,Nat.reduceBEq,Nat.reduceEqDiff,if_true,if_false,List.cons_append,List.nil_append,List.append_nil]
    obtain⟨a,k⟩:=y
    dsimp only at hy1 hy2 hy3 hag ⊢
    clear hG
    by_cases hlt:k<s.size
    ·have hwd:=rdWord_ok s k hs hy2
     have hwl:=wdT_le (s:=s) hy2
     have hwg:=wdT_ge (s:=s) (i:=k)
     have ht:=ih (wdT s k) (wdF s k) (by omega) hwl
     have htl:=tmF_le (s:=s) (w:=wdF s k) hwl
     have htg:=tmF_ge (s:=s) (w:=wdF s k) (i:=wdT s k)
     have hcm:=rdSign_ok s (tmF s (wdF s k) (wdT s k)).2 44 hs htl
     have hcl:=sgT_le (s:=s) (c:=44) htl
     have hlim:a.length≤1000000:=by omega
     cases hc:sgB s 44 (tmF s (wdF s k) (wdT s k)).2
     ·rw[agF_no hlt hc]at hag
      subst hag
      rw[hc]at hcm
      have hsz:=rdSign_ok s (sgT s 44 (tmF s (wdF s k) (wdT s k)).2) 41 hs hcl
      generalize sgT s 44 (tmF s (wdF s k) (wdT s k)).2=k3 at*
      generalize tmF s (wdF s k) (wdT s k)=q at*
      generalize wdF s k=wd at*
      generalize wdT s k=k1 at*
      obtain⟨tm,k2⟩:=q
      dsimp only at*
      generalize sgT s 41 k3=k4 at*
      by_cases h0:a.length=0
      ·obtain rfl:=List.eq_nil_of_length_eq_zero h0
       repeat' (first|(refine awK fun _ _=>?_)|refine zHg ?_|(fail_if_success with_reducible refine Owe.mk ?_);(simp(disch:=omega) [go_sem,hlt,rdO,rdA])|refine zDr 10 mix ?_|fail)
       refine stepK_fis [] [] 10000 _ _ (Fits.mk' (by simp[go_sem,rdO,rdA]) (by simp[go_sem,rdO,rdA])) (by simp[go_sem,rdO,rdA]) (by simp[go_sem,rdO,rdA]) (hwd) (by simp[go_sem,rdO,rdA]) (by simp[go_sem,rdO,rdA]) ?_
       repeat' (first|(refine awK fun _ _=>?_)|refine zHg ?_|(fail_if_success with_reducible refine Owe.mk ?_);(simp(disch:=omega) [go_sem,hlt,rdO,rdA])|refine zAny mix ?_|refine anyN_go ?_|refine zQ 0 ?_|refine zQ 2 ?_|refine zQ 3 ?_|refine zAll ?_;show allI _ _ _ _ _ _ _|exact allI_zero|refine zSkip ?_|refine allI_do rfl ?_ ?_)
       all_goals refine stepK_fis [] [] 10000 _ _ (Fits.mk' (by simp[go_sem,rdO,rdA]) (by simp[go_sem,rdO,rdA])) (by simp[go_sem,rdO,rdA]) (by simp[go_sem,rdO,rdA]) (ht) (by simp[go_sem,rdO,rdA]) (by simp[go_sem,rdO,rdA]) ?_
       all_goals repeat' (first|(refine awK fun _ _=>?_)|refine zHg ?_|(fail_if_success with_reducible refine Owe.mk ?_);(simp(disch:=omega) [go_sem,hlt,rdO,rdA])|refine anyN_go ?_|refine zDone ?_|refine zQ 7 ?_|refine zAll ?_;show allI _ _ _ _ _ _ _|exact allI_zero|refine zSkip ?_|refine allI_do rfl ?_ ?_)
       all_goals refine stepK_fis [] [] 10000 _ _ (Fits.mk' (by simp[go_sem,rdO,rdA]) (by simp[go_sem,rdO,rdA])) (by simp[go_sem,rdO,rdA]) (by simp[go_sem,rdO,rdA]) (hcm) (by simp[go_sem,rdO,rdA]) (by simp[go_sem,rdO,rdA]) ?_
       all_goals repeat' (first|(refine awK fun _ _=>?_)|refine zHg ?_|(fail_if_success with_reducible refine Owe.mk ?_);(simp(disch:=omega) [go_sem,hlt,rdO,rdA]))
       all_goals refine stepK_fis [] [] 10000 _ _ (Fits.mk' (by simp[go_sem,rdO,rdA]) (by simp[go_sem,rdO,rdA])) (by simp[go_sem,rdO,rdA]) (by simp[go_sem,rdO,rdA]) (hsz) (by simp[go_sem,rdO,rdA]) (by simp[go_sem,rdO,rdA]) ?_
       all_goals repeat' (first|(refine awK fun _ _=>?_)|refine zHg ?_|(fail_if_success with_reducible refine Owe.mk ?_);(simp(disch:=omega) [go_sem,hlt,rdO,rdA]))
       all_goals refine endL_ret ⟨39,[(4,.ptr 4 0 0)],(4,⟨false,false,false,2,[.agg [.sc (.string w),.ref 900 0 1]],0⟩)::(1000,rdA s k4):: [(900,⟨true,false,false,2,[eT tm],0⟩)]⟩ [.agg [.sc (.string w),.ref 900 0 1]] (Le.renSub [(31,900)] [(900,31)] (by simp[go_sem,rdO,rdA]) (by simp[go_sem,rdO,rdA]) (Le.sub4 rfl (by simp[go_sem,rdO,rdA]))) (by simp[go_sem,rdO,rdA]) ⟨rfl,rfl⟩
      ·
       repeat' (first|(refine awK fun _ _=>?_)|refine zHg ?_|(fail_if_success with_reducible refine Owe.mk ?_);(simp(disch:=omega) [go_sem,hlt,h0,rdO,rdA])|refine zDr 10 mix ?_|fail)
       refine stepK_fis [] [] 10000 _ _ (Fits.mk' (by simp[go_sem,rdO,rdA]) (by simp[go_sem,rdO,rdA])) (by simp[go_sem,rdO,rdA]) (by simp[go_sem,rdO,rdA]) (hwd) (by simp[go_sem,rdO,rdA]) (by simp[go_sem,rdO,rdA]) ?_
       repeat' (first|(refine awK fun _ _=>?_)|refine zHg ?_|(fail_if_success with_reducible refine Owe.mk ?_);(simp(disch:=omega) [go_sem,hlt,h0,rdO,rdA])|refine zAny mix ?_|refine anyN_go ?_|refine zQ 0 ?_|refine zQ 2 ?_|refine zQ 3 ?_|refine zAll ?_;show allI _ _ _ _ _ _ _|exact allI_zero|refine zSkip ?_|refine allI_do rfl ?_ ?_)
       all_goals refine stepK_fis [] [] 10000 _ _ (Fits.mk' (by simp[go_sem,rdO,rdA]) (by simp[go_sem,rdO,rdA])) (by simp[go_sem,rdO,rdA]) (by simp[go_sem,rdO,rdA]) (ht) (by simp[go_sem,rdO,rdA]) (by simp[go_sem,rdO,rdA]) ?_
       all_goals repeat' (first|(refine awK fun _ _=>?_)|refine zHg ?_|(fail_if_success with_reducible refine Owe.mk ?_);(simp(disch:=omega) [go_sem,hlt,h0,rdO,rdA])|refine zAo ?_|refine anyN_go ?_|refine zDone ?_|refine zQ 7 ?_|refine zAll ?_;show allI _ _ _ _ _ _ _|exact allI_zero|refine zSkip ?_|refine allI_do rfl ?_ ?_)
       all_goals refine stepK_fis [] [] 10000 _ _ (Fits.mk' (by simp[go_sem,rdO,rdA]) (by simp[go_sem,rdO,rdA])) (by simp[go_sem,rdO,rdA]) (by simp[go_sem,rdO,rdA]) (hcm) (by simp[go_sem,rdO,rdA]) (by simp[go_sem,rdO,rdA]) ?_
       all_goals repeat' (first|(refine awK fun _ _=>?_)|refine zHg ?_|(fail_if_success with_reducible refine Owe.mk ?_);(simp(disch:=omega) [go_sem,hlt,h0,rdO,rdA]))
       all_goals refine stepK_fis [] [] 10000 _ _ (Fits.mk' (by simp[go_sem,rdO,rdA]) (by simp[go_sem,rdO,rdA])) (by simp[go_sem,rdO,rdA]) (by simp[go_sem,rdO,rdA]) (hsz) (by simp[go_sem,rdO,rdA]) (by simp[go_sem,rdO,rdA]) ?_
       all_goals repeat' (first|(refine awK fun _ _=>?_)|refine zHg ?_|(fail_if_success with_reducible refine Owe.mk ?_);(simp(disch:=omega) [go_sem,hlt,h0,rdO,rdA]))
       all_goals refine endL_ret ⟨39,[(4,.ptr 4 0 0)],(4,⟨false,false,false,2,[.agg [.sc (.string w),.ref 900 0 (a.length+1)]],0⟩)::(1000,rdA s k4):: [(900,⟨true,false,false,2,a.map eTm++ [eT tm],0⟩)]⟩ [.agg [.sc (.string w),.ref 900 0 (a.length+1)]] (Le.renSub [] [] (by simp[go_sem,rdO,rdA]) (by simp[go_sem,rdO,rdA]) (Le.sub4 rfl (by simp[go_sem,rdO,rdA]))) (by simp[go_sem,rdO,rdA]) ⟨rfl,rfl⟩
     ·rw[agF_on hlt hc]at hag
      have hcg:=sgT_gt hc
      rw[hc]at hcm
      generalize sgT s 44 (tmF s (wdF s k) (wdT s k)).2=k3 at*
      generalize tmF s (wdF s k) (wdT s k)=q at*
      generalize wdF s k=wd at*
      generalize wdT s k=k1 at*
      obtain⟨tm,k2⟩:=q
      dsimp only at*
      by_cases h0:a.length=0
      ·obtain rfl:=List.eq_nil_of_length_eq_zero h0
       repeat' (first|(refine awK fun _ _=>?_)|refine zHg ?_|(fail_if_success with_reducible refine Owe.mk ?_);(simp(disch:=omega) [go_sem,hlt,rdO,rdA])|refine zDr 10 mix ?_|fail)
       refine stepK_fis [] [] 10000 _ _ (Fits.mk' (by simp[go_sem,rdO,rdA]) (by simp[go_sem,rdO,rdA])) (by simp[go_sem,rdO,rdA]) (by simp[go_sem,rdO,rdA]) (hwd) (by simp[go_sem,rdO,rdA]) (by simp[go_sem,rdO,rdA]) ?_
       repeat' (first|(refine awK fun _ _=>?_)|refine zHg ?_|(fail_if_success with_reducible refine Owe.mk ?_);(simp(disch:=omega) [go_sem,hlt,rdO,rdA])|refine zAny mix ?_|refine anyN_go ?_|refine zQ 0 ?_|refine zQ 2 ?_|refine zQ 3 ?_|refine zAll ?_;show allI _ _ _ _ _ _ _|exact allI_zero|refine zSkip ?_|refine allI_do rfl ?_ ?_)
       all_goals refine stepK_fis [] [] 10000 _ _ (Fits.mk' (by simp[go_sem,rdO,rdA]) (by simp[go_sem,rdO,rdA])) (by simp[go_sem,rdO,rdA]) (by simp[go_sem,rdO,rdA]) (ht) (by simp[go_sem,rdO,rdA]) (by simp[go_sem,rdO,rdA]) ?_
       all_goals repeat' (first|(refine awK fun _ _=>?_)|refine zHg ?_|(fail_if_success with_reducible refine Owe.mk ?_);(simp(disch:=omega) [go_sem,hlt,rdO,rdA])|refine anyN_go ?_|refine zDone ?_|refine zQ 7 ?_|refine zAll ?_;show allI _ _ _ _ _ _ _|exact allI_zero|refine zSkip ?_|refine allI_do rfl ?_ ?_)
       all_goals refine stepK_fis [] [] 10000 _ _ (Fits.mk' (by simp[go_sem,rdO,rdA]) (by simp[go_sem,rdO,rdA])) (by simp[go_sem,rdO,rdA]) (by simp[go_sem,rdO,rdA]) (hcm) (by simp[go_sem,rdO,rdA]) (by simp[go_sem,rdO,rdA]) ?_
       all_goals repeat' (first|refine zHg ?_|refine(hAA.next (([tm],k3)) (Le.renSub [(31,900)] [(900,31)] (by simp[go_sem]) (by simp[go_sem]) (Le.sub4 rfl (by simp[go_sem]))) (by(try dsimp only);omega) ?_)|(fail_if_success with_reducible refine Owe.mk ?_);(simp(disch:=omega) [go_sem,hlt,rdO,rdA]))
       all_goals(first|omega|skip)
       all_goals exact⟨by omega,by omega,by simp;omega,hag⟩
      ·
       repeat' (first|(refine awK fun _ _=>?_)|refine zHg ?_|(fail_if_success with_reducible refine Owe.mk ?_);(simp(disch:=omega) [go_sem,hlt,h0,rdO,rdA])|refine zDr 10 mix ?_|fail)
       refine stepK_fis [] [] 10000 _ _ (Fits.mk' (by simp[go_sem,rdO,rdA]) (by simp[go_sem,rdO,rdA])) (by simp[go_sem,rdO,rdA]) (by simp[go_sem,rdO,rdA]) (hwd) (by simp[go_sem,rdO,rdA]) (by simp[go_sem,rdO,rdA]) ?_
       repeat' (first|(refine awK fun _ _=>?_)|refine zHg ?_|(fail_if_success with_reducible refine Owe.mk ?_);(simp(disch:=omega) [go_sem,hlt,h0,rdO,rdA])|refine zAny mix ?_|refine anyN_go ?_|refine zQ 0 ?_|refine zQ 2 ?_|refine zQ 3 ?_|refine zAll ?_;show allI _ _ _ _ _ _ _|exact allI_zero|refine zSkip ?_|refine allI_do rfl ?_ ?_)
       all_goals refine stepK_fis [] [] 10000 _ _ (Fits.mk' (by simp[go_sem,rdO,rdA]) (by simp[go_sem,rdO,rdA])) (by simp[go_sem,rdO,rdA]) (by simp[go_sem,rdO,rdA]) (ht) (by simp[go_sem,rdO,rdA]) (by simp[go_sem,rdO,rdA]) ?_
       all_goals repeat' (first|(refine awK fun _ _=>?_)|refine zHg ?_|(fail_if_success with_reducible refine Owe.mk ?_);(simp(disch:=omega) [go_sem,hlt,h0,rdO,rdA])|refine zAo ?_|refine anyN_go ?_|refine zDone ?_|refine zQ 7 ?_|refine zAll ?_;show allI _ _ _ _ _ _ _|exact allI_zero|refine zSkip ?_|refine allI_do rfl ?_ ?_)
       all_goals refine stepK_fis [] [] 10000 _ _ (Fits.mk' (by simp[go_sem,rdO,rdA]) (by simp[go_sem,rdO,rdA])) (by simp[go_sem,rdO,rdA]) (by simp[go_sem,rdO,rdA]) (hcm) (by simp[go_sem,rdO,rdA]) (by simp[go_sem,rdO,rdA]) ?_
       all_goals repeat' (first|refine zHg ?_|refine(hAA.next ((a++ [tm],k3)) (Le.sub4 rfl (by simp[go_sem])) (by(try dsimp only);omega) ?_)|(fail_if_success with_reducible refine Owe.mk ?_);(simp(disch:=omega) [go_sem,hlt,h0,rdO,rdA]))
       all_goals(first|omega|skip)
       all_goals exact⟨by omega,by omega,by simp;omega,hag⟩
    ·rw[agF_end hlt]at hag
     subst hag
     have hsz:=rdSign_ok s k 41 hs hy2
     dsimp only at*
     generalize sgT s 41 k=k4 at*
     by_cases h0:a.length=0
     ·obtain rfl:=List.eq_nil_of_length_eq_zero h0
      repeat' (first|(refine awK fun _ _=>?_)|refine zHg ?_|(fail_if_success with_reducible refine Owe.mk ?_);(simp(disch:=omega) [go_sem,hlt,rdO,rdA])|refine zDr 10 mix ?_|fail)
      refine stepK_fis [] [] 10000 _ _ (Fits.mk' (by simp[go_sem,rdO,rdA]) (by simp[go_sem,rdO,rdA])) (by simp[go_sem,rdO,rdA]) (by simp[go_sem,rdO,rdA]) (hsz) (by simp[go_sem,rdO,rdA]) (by simp[go_sem,rdO,rdA]) ?_
      repeat' (first|(refine awK fun _ _=>?_)|refine zHg ?_|(fail_if_success with_reducible refine Owe.mk ?_);(simp(disch:=omega) [go_sem,hlt,rdO,rdA]))
      refine endL_ret ⟨39,[(4,.ptr 4 0 0)],(4,⟨false,false,false,2,[.agg [.sc (.string w),.list false true []]],0⟩)::(1000,rdA s k4):: []⟩ [.agg [.sc (.string w),.list false true []]] (Le.renSub [] [] (by simp[go_sem,rdO,rdA]) (by simp[go_sem,rdO,rdA]) (Le.sub4 rfl (by simp[go_sem,rdO,rdA]))) (by simp[go_sem,rdO,rdA]) ⟨rfl,rfl⟩
     ·repeat' (first|(refine awK fun _ _=>?_)|refine zHg ?_|(fail_if_success with_reducible refine Owe.mk ?_);(simp(disch:=omega) [go_sem,hlt,h0,rdO,rdA])|refine zDr 10 mix ?_|fail)
      refine stepK_fis [] [] 10000 _ _ (Fits.mk' (by simp[go_sem,rdO,rdA]) (by simp[go_sem,rdO,rdA])) (by simp[go_sem,rdO,rdA]) (by simp[go_sem,rdO,rdA]) (hsz) (by simp[go_sem,rdO,rdA]) (by simp[go_sem,rdO,rdA]) ?_
      repeat' (first|(refine awK fun _ _=>?_)|refine zHg ?_|(fail_if_success with_reducible refine Owe.mk ?_);(simp(disch:=omega) [go_sem,hlt,h0,rdO,rdA]))
      refine endL_ret ⟨39,[(4,.ptr 4 0 0)],(4,⟨false,false,false,2,[.agg [.sc (.string w),.ref 900 0 a.length]],0⟩)::(1000,rdA s k4):: [(900,⟨true,false,false,2,a.map eTm,0⟩)]⟩ [.agg [.sc (.string w),.ref 900 0 a.length]] (Le.renSub [] [] (by simp[go_sem,rdO,rdA]) (by simp[go_sem,rdO,rdA]) (Le.sub4 rfl (by simp[go_sem,rdO,rdA]))) (by simp[go_sem,rdO,rdA]) ⟨rfl,rfl⟩
   by_cases h0:G.1.length=0
   ·have hn:=List.eq_nil_of_length_eq_zero h0
    simp only[hn,List.length_nil,if_true,decide_true,List.map_nil]at key ⊢
    exact key.shared rfl (by simp[go_sem]) (by simp[go_sem]) (by simp[go_sem])
   ·simp only[h0,if_false,decide_false]at key ⊢
    refine key.shared (s':=?_) (y:= .agg [.sc (.string w),.list false false (G.1.map eTm)]) (by simp[go_sem,seg];rfl) (by simp[go_sem]) (by simp[go_sem]) (by simp[go_sem])
abbrev rdB (s:ByteArray) (i:Nat):AObj:=⟨false,false,false,2,[.agg [.sc (.string s),nt .i64 i]],0⟩
end Go.Proofs.YtkbglbcphjmiiaaGreatDoor
