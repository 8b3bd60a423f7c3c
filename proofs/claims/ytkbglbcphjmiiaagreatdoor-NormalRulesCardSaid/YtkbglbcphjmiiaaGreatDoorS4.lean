import Derived.Test.YtkbglbcphjmiiaaGreatDoorS3
import Derived.Test.YtkbglbcphjmiiaaGreatDoorS2
import Derived.Test.YtkbglbcphjmiiaaGreatDoorA5
set_option linter.unusedSimpArgs false
set_option linter.unusedVariables false
namespace Go.Proofs.YtkbglbcphjmiiaaGreatDoor
open Go.Ab
set_option maxRecDepth 100000
set_option maxHeartbeats 8000000
def idxS (l:List ByteArray) (s:ByteArray):Int:=if l.findIdx (fun u=>decide (u=s))<l.length then l.findIdx (fun u=>decide (u=s))else -1
theorem idxS_at {l:List ByteArray} {s:ByteArray} {i:Nat} (h:i<l.length) (he:l[i]=s) (hn: ∀(k:Nat) (hk:k<l.length),k<i→ ¬l[k]=s):idxS l s=i:=by
 have e:l.findIdx (fun u=>decide (u=s))=i:=by
  rw[List.findIdx_eq h]
  exact⟨by simp[he],fun j hj=>by simpa using hn j (by omega) hj⟩
 unfold idxS
 rw[e,if_pos h]
theorem idxS_none {l:List ByteArray} {s:ByteArray} (hn: ∀(k:Nat) (hk:k<l.length),k<l.length→ ¬l[k]=s):idxS l s= -1:=by
 unfold idxS
 rw[if_neg]
 intro h
 have:=List.findIdx_getElem (w:=h)
 simp only[decide_eq_true_eq]at this
 exact hn _ h h this
theorem idxS_mem {l:List ByteArray} {s:ByteArray}:0≤idxS l s↔s∈l:=by
 unfold idxS
 by_cases h:s∈l
 ·have:l.findIdx (fun u=>decide (u=s))<l.length:=by
   rw[List.findIdx_lt_length];exact⟨s,h,by simp⟩
  rw[if_pos this]
  simp[h]
 ·rw[if_neg]
  ·simp[h]
  ·rw[List.findIdx_lt_length]
   rintro⟨u,hu,he⟩
   simp only[decide_eq_true_eq]at he
   exact h (he▸hu)
theorem Index_ok (l:List ByteArray) (s:ByteArray) (le fu:Bool):ACall Tryz.prog 108 [.list le fu (l.map eStr),.sc (.string s)] (fun r=>r=nt .i64 (idxS l s)):=by
 refine ACall.bound (i:=0) rfl Tryz.call108 fun hb=>?_
 rw[List.length_map]at hb
 have hb:l.length≤140737488355328:=hb
 generalize hR:idxS l s=R
 refine acall_of_awp Tryz.func108 Tryz.call108 rfl (by simp[Tryz.ntmps108]) ?_;simp only[Tryz.ntmps108,Tryz.results108]
 repeat' (first|(refine awK fun _ _=>?_)|refine zHg ?_|(fail_if_success with_reducible refine Owe.mk ?_);(simp(disch:=omega) [go_sem]))
 refine awp_for [0,1,7] [] (fun i:Nat=> [(8,nt .i64 i)]) (fun i:Nat=> []) (fun i:Nat=>l.length - i) (fun i:Nat=>i≤l.length∧ ∀(k:Nat) (hk:k<l.length),k<i→ ¬l[k]=s) (0) (Le.sub4 rfl (by simp[go_sem])) ⟨?_⟩ ?_
 ·exact⟨Nat.zero_le _,fun k _ hk=>absurd hk (Nat.not_lt_zero _)⟩
 intro i ⟨hi,hn⟩ AA hAA;simp only[kL,Nat.reduceBEq,Nat.reduceEqDiff,if_true,if_false,List.cons_append,List.nil_append,List.append_nil]
 by_cases hlt:i<l.length
 ·by_cases hq:l[i]=s
  ·have hu:=idxS_at hlt hq hn
   rw[hR]at hu
   subst hu
   have hq':s=l[i]:=hq.symm
   repeat' (first|(refine awK fun _ _=>?_)|refine zHg ?_|refine end_ret [] ?_;simp[go_sem,hlt,eStr,hq']|(fail_if_success with_reducible refine Owe.mk ?_);(simp(disch:=omega) [go_sem,hlt,eStr,hq']))
  ·have hq': ¬s=l[i]:=fun h=>hq h.symm
   repeat' (first|(refine awK fun _ _=>?_)|refine zHg ?_|refine(hAA.next (i+1) (Le.sub4 rfl (by simp[go_sem])) (by(try dsimp only);omega) ?_)|(fail_if_success with_reducible refine Owe.mk ?_);(simp(disch:=omega) [go_sem,hlt,eStr,hq']))
   all_goals(first|omega|skip)
   exact⟨hlt,fun k hk hki=>by rcases Nat.lt_or_eq_of_le (Nat.le_of_lt_succ hki)with h|rfl;exact hn k hk h;exact hq⟩
 ·obtain rfl:i=l.length:=by omega
  have hu:=idxS_none hn
  rw[hR]at hu
  subst hu
  repeat' (first|(refine awK fun _ _=>?_)|refine zHg ?_|refine end_ret [] ?_;simp[go_sem]|(fail_if_success with_reducible refine Owe.mk ?_);(simp(disch:=omega) [go_sem]))
def hasS (l:List ByteArray) (s:ByteArray):Bool:=l.any fun u=>decide (u=s)
theorem hasS_iff {l:List ByteArray} {s:ByteArray}:hasS l s=true↔s∈l:=by
 unfold hasS
 rw[List.any_eq_true]
 constructor
 ·rintro⟨u,hu,he⟩
  simp only[decide_eq_true_eq]at he
  exact he▸hu
 ·intro h
  exact⟨s,h,by simp⟩
theorem Contains_ok (l:List ByteArray) (s:ByteArray) (le fu:Bool):ACall Tryz.prog 71 [.list le fu (l.map eStr),.sc (.string s)] (fun r=>r=bl (hasS l s)):=by
 have h:=Index_ok l s le fu
 rw[show hasS l s=decide (0≤idxS l s)from by rw[Bool.eq_iff_iff,hasS_iff,decide_eq_true_eq];exact idxS_mem.symm]
 generalize idxS l s=R at*
 refine acall_of_awp Tryz.func71 Tryz.call71 rfl (by simp[Tryz.ntmps71]) ?_;simp only[Tryz.ntmps71,Tryz.results71]
 repeat' (first|(refine awK fun _ _=>?_)|refine zHg ?_|refine end_ret [] ?_;simp[go_sem]|refine stepK_is rfl (h) (by simp) ?_|(fail_if_success with_reducible refine Owe.mk ?_);(simp(disch:=omega) [go_sem]))
def addV (acc:List ByteArray) (s:ByteArray):List ByteArray:=if varS s=true∧hasS acc s=false then acc++ [s]else acc
def varsT (l:List Tm):List ByteArray:=(lvsS l).foldl addV []
def fdV (acc:List ByteArray) (l:List ByteArray) (i:Nat):List ByteArray:=(l.take i).foldl addV acc
theorem fdV_zero {acc l}:fdV acc l 0=acc:=rfl
theorem fdV_next {acc l} {i:Nat} (h:i<l.length):fdV acc l (i+1)=addV (fdV acc l i) l[i]:=by
 unfold fdV
 rw[take_next h,List.foldl_append];rfl
theorem fdV_all {acc l}:fdV acc l l.length=l.foldl addV acc:=by unfold fdV;rw[List.take_length]
theorem varsT_next {l:List Tm} {i:Nat} (h:i<l.length):varsT (l.take (i+1))=fdV (varsT (l.take i)) (lvs l[i]) (lvs l[i]).length:=by
 unfold varsT
 rw[lvsS_next h,List.foldl_append,fdV_all]
theorem addV_le (acc:List ByteArray) (s:ByteArray):(addV acc s).length≤acc.length+1:=by
 unfold addV;split<;>simp
theorem fdV_le {acc l:List ByteArray}: ∀i,(fdV acc l i).length≤acc.length+i
 |0=>Nat.le_refl _
 |i+1=>by
  by_cases h:i<l.length
  ·rw[fdV_next h]
   have:=addV_le (fdV acc l i) l[i]
   have:=fdV_le (acc:=acc) (l:=l) i
   omega
  ·have e:fdV acc l (i+1)=fdV acc l i:=by unfold fdV;rw[List.take_of_length_le (by omega),List.take_of_length_le (by omega)]
   rw[e]
   have:=fdV_le (acc:=acc) (l:=l) i
   omega
theorem varsT_le (l:List Tm):(varsT l).length≤(lvsS l).length:=by
 have:=fdV_le (acc:= []) (l:=lvsS l) (lvsS l).length
 rw[fdV_all]at this
 unfold varsT
 simpa using this
theorem varsT_nil:varsT []= []:=rfl
theorem lvsS_get {l:List Tm} {i:Nat} (h:i<l.length):(lvs l[i]).length≤(lvsS l).length:=by
 have:=lvsS_take_le l (i+1)
 rw[lvsS_next h,List.length_append]at this
 omega
theorem Vars_ok (l:List Tm) (le fu:Bool) (hb:(lvsS l).length≤1000000):ACall Tryz.prog 34 [.list le fu (l.map eTm)] (fun r=>r= .own 1 ((varsT l).map eStr)):=by
 have hge:=lvsS_ge l
 refine ACall.own_nil ?_
 refine acall_of_awp Tryz.func34 Tryz.call34 rfl (by simp[Tryz.ntmps34]) ?_;simp only[Tryz.ntmps34,Tryz.results34]
 repeat' (first|(refine awK fun _ _=>?_)|refine zHg ?_|(fail_if_success with_reducible refine Owe.mk ?_);(simp(disch:=omega) [go_sem]))
 refine awp_for [8,9] [900] (fun i:Nat=> [(10,nt .i64 i),(3,.ref 900 0 (varsT (l.take i)).length)]) (fun i:Nat=> [(900,⟨true,false,false,1,(varsT (l.take i)).map eStr,0⟩)]) (fun i:Nat=>l.length - i) (fun i:Nat=>i≤l.length) (0) (by refine Le.trans ?_ (Le.nil (i:=3) (T:=900) (es:=1) rfl);exact(Le.sub4 rfl (by simp[go_sem,varsT_nil,List.take_zero,List.map_nil]))) ⟨?_⟩ ?_
 ·exact Nat.zero_le _
 intro i hi AA hAA;simp only[kL,Nat.reduceBEq,Nat.reduceEqDiff,if_true,if_false,List.cons_append,List.nil_append,List.append_nil]
 by_cases hlt:i<l.length
 ·have hB:=hAA
  have hlv:=lvsS_get hlt
  have hcl:=leaves_ok l[i] (by omega)
  have hn:=varsT_next hlt
  have hl0:=varsT_le (l.take i)
  have hl2:=lvsS_take_le l (i+1)
  rw[lvsS_next hlt,List.length_append]at hl2
  generalize varsT (l.take i)=A at*
  generalize lvs l[i]=L at*
  repeat' (first|(refine awK fun _ _=>?_)|refine zHg ?_|refine stepK_is rfl (hcl) (by simp) ?_|(fail_if_success with_reducible refine Owe.mk ?_);(simp(disch:=omega) [go_sem,hlt]))
  refine awp_for [8,9,10,15,16] [900,5] (fun j:Nat=> [(17,nt .i64 j),(3,.ref 900 0 (fdV A L j).length)]) (fun j:Nat=> [(900,⟨true,false,false,1,(fdV A L j).map eStr,0⟩)]) (fun j:Nat=>L.length - j) (fun j:Nat=>j≤L.length) (0) (Le.renSub [] [] (by simp[go_sem,fdV_zero]) (by simp[go_sem,fdV_zero]) (Le.sub4 rfl (by simp[go_sem,fdV_zero]))) ⟨?_⟩ ?_
  ·exact Nat.zero_le _
  intro j hj AA hAA;simp only[kL,Nat.reduceBEq,Nat.reduceEqDiff,if_true,if_false,List.cons_append,List.nil_append,List.append_nil]
  by_cases hjl:j<L.length
  ·have hlenT:True:=trivial
   have h1:=Variable_ok L[j]
   have h2:=Contains_ok (fdV A L j) L[j] true false
   have hz:=fdV_next (acc:=A) hjl
   have hfl:=fdV_le (acc:=A) (l:=L) j
   unfold addV at hz
   by_cases hv:varS L[j]=true
   ·by_cases hm:hasS (fdV A L j) L[j]=true
    ·rw[if_neg (by simp[hm])]at hz
     rw[hv]at h1
     rw[hm]at h2
     generalize fdV A L j=X at*
     repeat' (first|(refine awK fun _ _=>?_)|refine zHg ?_|refine stepK_is rfl (h1) (by simp) ?_|refine stepK_is ?hl (h2) (by simp) ?_;(case hl=>(simp[go_sem,hjl,eStr,hlenT];done))|refine(hAA.next (j+1) (Le.sub4 rfl (by simp[go_sem,hz])) (by(try dsimp only);omega) ?_)|(fail_if_success with_reducible refine Owe.mk ?_);(simp(disch:=omega) [go_sem,hjl,eStr,hlenT]))
     all_goals(first|omega|skip)
     exact⟨hjl⟩
    ·have hm:=Bool.eq_false_iff.2 hm
     rw[if_pos ⟨hv,hm⟩]at hz
     rw[hv]at h1
     rw[hm]at h2
     generalize fdV A L j=X at*
     repeat' (first|(refine awK fun _ _=>?_)|refine zHg ?_|refine stepK_is rfl (h1) (by simp) ?_|refine stepK_is ?hl (h2) (by simp) ?_;(case hl=>(simp[go_sem,hjl,eStr,hlenT];done))|refine(hAA.next (j+1) (Le.sub4 rfl (by simp[go_sem,hz,eStr])) (by(try dsimp only);omega) ?_)|(fail_if_success with_reducible refine Owe.mk ?_);(simp(disch:=omega) [go_sem,hjl,eStr,hlenT])|refine zAo ?_)
     all_goals(first|omega|skip)
     exact⟨hjl⟩
   ·rw[if_neg (by simp[hv])]at hz
    rw[show varS L[j]=false from by simpa using hv]at h1
    generalize fdV A L j=X at*
    repeat' (first|(refine awK fun _ _=>?_)|refine zHg ?_|refine stepK_is rfl (h1) (by simp) ?_|refine(hAA.next (j+1) (Le.sub4 rfl (by simp[go_sem,hz])) (by(try dsimp only);omega) ?_)|(fail_if_success with_reducible refine Owe.mk ?_);(simp(disch:=omega) [go_sem,hjl,eStr,hlenT]))
    all_goals(first|omega|skip)
    exact⟨hjl⟩
  ·obtain rfl:j=L.length:=by omega
   rw[←hn]
   repeat' (first|(refine awK fun _ _=>?_)|refine zHg ?_|refine(hB.next (i+1) (Le.sub4 rfl (by simp[go_sem])) (by(try dsimp only);omega) ?_)|(fail_if_success with_reducible refine Owe.mk ?_);(simp(disch:=omega) [go_sem]))
   all_goals(first|omega|skip)
   exact⟨hlt⟩
 ·obtain rfl:i=l.length:=by omega
  rw[List.take_length]
  repeat' (first|(refine awK fun _ _=>?_)|refine zHg ?_|refine end_ret [] ?_;simp[go_sem]|(fail_if_success with_reducible refine Owe.mk ?_);(simp(disch:=omega) [go_sem]))
def nb (b:Bool):Int:=if b=true then 1 else 0
theorem tot_N:Tot (fun a b:Bool=>ord (nb a) (nb b)):=
 ⟨fun a b=>ord_range _ _,fun a b=>ord_neg _ _,fun a b d=>ord_TR _ _ _,fun a b=>by rw[ord_zero];cases a<;>cases b<;>decide⟩
def ltC (a b:Lt):Int:=thn (ord (nb a.neg) (nb b.neg)) (cmpT a.atom b.atom)
theorem tot_L:Tot ltC:=tot_N.two tot_T Lt.neg Lt.atom fun x y h k=>by cases x;cases y;cases h;cases k;rfl
def rlC (a b:Rl):Int:=thn (cmpT a.head b.head) (lexC ltC a.body b.body)
theorem tot_R:Tot rlC:=tot_T.two tot_L.lex Rl.head Rl.body fun x y h k=>by cases x;cases y;cases h;cases k;rfl
def atmR (r:Rl):List Tm:=r.head::r.body.map Lt.atom
def varsR (r:Rl):List ByteArray:=varsT (atmR r)
theorem fold_addV: ∀(l acc:List ByteArray),acc.Nodup→(l.foldl addV acc).Nodup∧ ∀x,x∈l.foldl addV acc↔x∈acc∨(x∈l∧varS x=true)
 | [],acc,h=>⟨h,fun x=>by simp⟩
 |s::l,acc,h=>by
  have h1:(addV acc s).Nodup∧ ∀x,x∈addV acc s↔x∈acc∨(x=s∧varS x=true):=by
   unfold addV
   split
   ·rename_i hc
    have hn:s∉acc:=fun hm=>by rw[hasS_iff.2 hm]at hc;exact absurd hc.2 (by simp)
    refine⟨List.nodup_append.2 ⟨h,by simp,fun a ha b hb=>?_⟩,fun x=>?_⟩
    ·simp only[List.mem_singleton]at hb
     subst hb
     rintro rfl
     exact hn ha
    ·rw[List.mem_append,List.mem_singleton]
     constructor
     ·rintro(e|rfl)
      ·exact .inl e
      ·exact .inr ⟨rfl,hc.1⟩
     ·rintro(e|⟨e,_⟩)
      ·exact .inl e
      ·exact .inr e
   ·rename_i hc
    refine⟨h,fun x=>⟨.inl,?_⟩⟩
    rintro(e|⟨rfl,hv⟩)
    ·exact e
    ·rw[←hasS_iff]
     cases hh:hasS acc x
     ·exact absurd ⟨hv,hh⟩ hc
     ·rfl
  obtain⟨h2,h3⟩:=fold_addV l (addV acc s) h1.1
  refine⟨h2,fun x=>?_⟩
  rw[List.foldl_cons,h3 x,h1.2 x,List.mem_cons]
  constructor
  ·rintro((e|⟨e,v⟩)|⟨e,v⟩)
   ·exact .inl e
   ·exact .inr ⟨.inl e,v⟩
   ·exact .inr ⟨.inr e,v⟩
  ·rintro(e|⟨e|e,v⟩)
   ·exact .inl (.inl e)
   ·exact .inl (.inr ⟨e,v⟩)
   ·exact .inr ⟨e,v⟩
theorem varsT_nodup (l:List Tm):(varsT l).Nodup:=(fold_addV _ [] List.nodup_nil).1
theorem mem_varsT {l:List Tm} {x:ByteArray}:x∈varsT l↔x∈lvsS l∧varS x=true:=by
 unfold varsT
 rw[(fold_addV _ [] List.nodup_nil).2 x]
 simp
mutual
def renT (f:ByteArray→ByteArray):Tm→Tm
 | .mk n ts=>if ts.length=0 then .mk (if varS n=true then f n else n) []else .mk n (renL f ts)
def renL (f:ByteArray→ByteArray):List Tm→List Tm
 | []=> []
 |t::r=>renT f t::renL f r
end
theorem renL_map {f:ByteArray→ByteArray}: ∀{l:List Tm},renL f l=l.map (renT f)
 | []=>rfl
 |t::r=>by rw[renL,renL_map];rfl
theorem renT_mk {f:ByteArray→ByteArray} {n:ByteArray} {ts:List Tm}:renT f (.mk n ts)=if ts.length=0 then .mk (if varS n=true then f n else n) []else .mk n (ts.map (renT f)):=by
 rw[renT,renL_map]
theorem lvsS_mem {x:ByteArray}: ∀{l:List Tm},x∈lvsS l↔ ∃t∈l,x∈lvs t
 | []=>by simp[lvsS]
 |t::r=>by
  have h:lvsS (t::r)=lvs t++lvsS r:=rfl
  rw[h,List.mem_append,lvsS_mem]
  simp
theorem lvs_ren {f:ByteArray→ByteArray}: ∀t:Tm,lvs (renT f t)=(lvs t).map fun s=>if varS s=true then f s else s:=by
 refine tm_ind fun t ih=>?_
 obtain⟨n,ts⟩:=t
 simp only[args_mk]at ih
 rw[renT_mk,lvs_mk]
 by_cases h0:ts.length=0
 ·rw[if_pos h0,if_pos h0,lvs_mk];rfl
 ·rw[if_neg h0,if_neg h0,lvs_mk,if_neg (by simpa using h0)]
  have key: ∀l:List Tm,(∀u∈l,lvs (renT f u)=(lvs u).map fun s=>if varS s=true then f s else s)→lvsS (l.map (renT f))=(lvsS l).map fun s=>if varS s=true then f s else s:=by
   intro l
   induction l with
   |nil=>intro _;rfl
   |cons t r ihr=>
    intro h
    have e1:lvsS (t::r)=lvs t++lvsS r:=rfl
    have e2:lvsS ((t::r).map (renT f))=lvs (renT f t)++lvsS (r.map (renT f)):=rfl
    rw[e1,e2,List.map_append,h t (by simp),ihr fun u hu=>h u (by simp[hu])]
  exact key ts ih
theorem ren_congr {f g:ByteArray→ByteArray}: ∀t:Tm,(∀v∈lvs t,varS v=true→f v=g v)→renT f t=renT g t:=by
 refine tm_ind fun t ih h=>?_
 obtain⟨n,ts⟩:=t
 simp only[args_mk]at ih
 rw[renT_mk,renT_mk]
 by_cases h0:ts.length=0
 ·rw[if_pos h0,if_pos h0]
  by_cases hv:varS n=true
  ·rw[if_pos hv,if_pos hv,h n (by rw[lvs_mk,if_pos h0];simp) hv]
  ·rw[if_neg hv,if_neg hv]
 ·rw[if_neg h0,if_neg h0]
  congr 1
  refine List.map_congr_left fun u hu=>ih u hu fun v hv=>h v ?_
  rw[lvs_mk,if_neg h0]
  exact lvsS_mem.2 ⟨u,hu,hv⟩
theorem ren_ren {f g:ByteArray→ByteArray}: ∀t:Tm,(∀v∈lvs t,varS v=true→varS (f v)=true)→renT g (renT f t)=renT (fun v=>g (f v)) t:=by
 refine tm_ind fun t ih h=>?_
 obtain⟨n,ts⟩:=t
 simp only[args_mk]at ih
 rw[renT_mk,renT_mk]
 by_cases h0:ts.length=0
 ·rw[if_pos h0,if_pos h0,renT_mk]
  simp only[List.length_nil,if_true]
  by_cases hv:varS n=true
  ·rw[if_pos hv,if_pos hv,if_pos (h n (by rw[lvs_mk,if_pos h0];simp) hv)]
  ·rw[if_neg hv,if_neg hv,if_neg hv]
 ·rw[if_neg h0,if_neg h0,renT_mk,if_neg (by simpa using h0),List.map_map]
  congr 1
  refine List.map_congr_left fun u hu=>ih u hu fun v hv=>h v ?_
  rw[lvs_mk,if_neg h0]
  exact lvsS_mem.2 ⟨u,hu,hv⟩
def renB (f:ByteArray→ByteArray) (b:Lt):Lt:=⟨b.neg,renT f b.atom⟩
def renR (f:ByteArray→ByteArray) (r:Rl):Rl:=⟨renT f r.head,r.body.map (renB f)⟩
def tidyR (r:Rl):Rl:=⟨r.head,srtG ltC r.body⟩
theorem tidy_congr {a b:Rl} (h:a.head=b.head) (hb: ∀x,x∈a.body↔x∈b.body):tidyR a=tidyR b:=by
 unfold tidyR;rw[h,srtG_congr tot_L hb]
def nmV (i:Nat):ByteArray:=⟨#[86,UInt8.ofNat (49+i)]⟩
def nmsN (n:Nat):List ByteArray:=(List.range n).map nmV
theorem nmsN_len (n:Nat):(nmsN n).length=n:=by simp[nmsN]
def IsC (r x:Rl):Prop:= ∃f:ByteArray→ByteArray,((varsR r).map f).Perm (nmsN (varsR r).length)∧x=tidyR (renR f r)
theorem mem_varsR {r:Rl} {x:ByteArray}:x∈varsR r↔(x∈lvs r.head∨ ∃b∈r.body,x∈lvs b.atom)∧varS x=true:=by
 unfold varsR
 rw[mem_varsT,lvsS_mem]
 refine and_congr_left fun _=>?_
 unfold atmR
 constructor
 ·rintro⟨t,ht,hx⟩
  rcases List.mem_cons.1 ht with rfl|ht
  ·exact .inl hx
  ·obtain⟨b,hb,rfl⟩:=List.mem_map.1 ht
   exact .inr ⟨b,hb,hx⟩
 ·rintro(hx|⟨b,hb,hx⟩)
  ·exact⟨_,List.mem_cons_self,hx⟩
  ·exact⟨_,List.mem_cons_of_mem _ (List.mem_map.2 ⟨b,hb,rfl⟩),hx⟩
theorem varsR_nodup (r:Rl):(varsR r).Nodup:=varsT_nodup _
theorem renR_congr {f g:ByteArray→ByteArray} {r:Rl} (h: ∀v∈varsR r,f v=g v):renR f r=renR g r:=by
 unfold renR
 congr 1
 ·exact ren_congr _ fun v hv k=>h v (mem_varsR.2 ⟨.inl hv,k⟩)
 ·refine List.map_congr_left fun b hb=>?_
  unfold renB
  congr 1
  exact ren_congr _ fun v hv k=>h v (mem_varsR.2 ⟨.inr ⟨b,hb,hv⟩,k⟩)
theorem renR_ren {f g:ByteArray→ByteArray} {r:Rl} (h: ∀v∈varsR r,varS (f v)=true):renR g (renR f r)=renR (fun v=>g (f v)) r:=by
 unfold renR
 simp only[List.map_map]
 congr 1
 ·exact ren_ren _ fun v hv k=>h v (mem_varsR.2 ⟨.inl hv,k⟩)
 ·refine List.map_congr_left fun b hb=>?_
  unfold renB
  show(⟨b.neg,renT g (renT f b.atom)⟩:Lt)=⟨b.neg,_⟩
  congr 1
  exact ren_ren _ fun v hv k=>h v (mem_varsR.2 ⟨.inr ⟨b,hb,hv⟩,k⟩)
theorem perm_of_mem {α:Type} [DecidableEq α]: ∀{A B:List α},A.Nodup→B.Nodup→(∀x,x∈A↔x∈B)→A.Perm B
 | [],B,_,_,hm=>by
  cases B with
  |nil=>exact .refl _
  |cons y q=>exact absurd ((hm y).2 (by simp)) (by simp)
 |x::A,B,ha,hb,hm=>by
  obtain⟨a1,a2⟩:=List.nodup_cons.1 ha
  have hx:=(hm x).1 (by simp)
  refine .trans (.cons x (perm_of_mem a2 (hb.erase x) fun y=>?_)) (List.perm_cons_erase hx).symm
  rw[hb.mem_erase_iff]
  constructor
  ·intro hy
   exact⟨by rintro rfl;exact a1 hy,(hm y).1 (by simp[hy])⟩
  ·rintro⟨h1,h2⟩
   exact(List.mem_cons.1 ((hm y).2 h2)).resolve_left h1
theorem nodup_map {α β:Type} {f:α→β}: ∀{l:List α},l.Nodup→(∀x∈l,∀y∈l,f x=f y→x=y)→(l.map f).Nodup
 | [],_,_=>by simp
 |x::r,hn,hi=>by
  obtain⟨h1,h2⟩:=List.nodup_cons.1 hn
  rw[List.map_cons,List.nodup_cons]
  refine⟨fun hm=>?_,nodup_map h2 fun a ha b hb=>hi a (by simp[ha]) b (by simp[hb])⟩
  obtain⟨y,hy,he⟩:=List.mem_map.1 hm
  have:=hi y (by simp[hy]) x (by simp) he
  subst this
  exact h1 hy
theorem inj_of_nodup {α β:Type} {f:α→β}: ∀{l:List α},(l.map f).Nodup→ ∀x∈l,∀y∈l,f x=f y→x=y
 | [],_,x,h,_,_,_=>by simp at h
 |z::r,hn,x,hx,y,hy,he=>by
  rw[List.map_cons,List.nodup_cons]at hn
  rcases List.mem_cons.1 hx with ex|mx
  ·rcases List.mem_cons.1 hy with ey|my
   ·rw[ex,ey]
   ·exact absurd (List.mem_map.2 ⟨y,my,by rw[←he,ex]⟩) hn.1
  ·rcases List.mem_cons.1 hy with ey|my
   ·exact absurd (List.mem_map.2 ⟨x,mx,by rw[he,ey]⟩) hn.1
   ·exact inj_of_nodup hn.2 x mx y my he
theorem vars_ren {r r':Rl} {f:ByteArray→ByteArray} (hi: ∀v∈varsR r,∀w∈varsR r,f v=f w→v=w) (hv: ∀v∈varsR r,varS (f v)=true)
 (hh:r'.head=renT f r.head) (hb: ∀b,b∈r'.body↔b∈(renR f r).body):(varsR r').Perm ((varsR r).map f):=by
 refine perm_of_mem (varsR_nodup _) (nodup_map (varsR_nodup _) hi) fun x=>?_
 have hl: ∀t:Tm,(x∈lvs (renT f t)∧varS x=true)↔((∃v∈lvs t,varS v=true∧f v=x)∧varS x=true):=by
  intro t
  rw[lvs_ren,List.mem_map]
  constructor
  ·rintro⟨⟨v,hv1,e⟩,hx⟩
   by_cases hvv:varS v=true
   ·rw[if_pos hvv]at e;exact⟨⟨v,hv1,hvv,e⟩,hx⟩
   ·rw[if_neg hvv]at e;subst e;exact absurd hx hvv
  ·rintro⟨⟨v,hv1,hvv,e⟩,hx⟩
   exact⟨⟨v,hv1,by rw[if_pos hvv];exact e⟩,hx⟩
 rw[mem_varsR,List.mem_map,hh]
 constructor
 ·rintro⟨e|⟨b,hb1,hx⟩,hxv⟩
  ·obtain⟨⟨v,h1,h2,h3⟩,_⟩:=(hl _).1 ⟨e,hxv⟩
   exact⟨v,mem_varsR.2 ⟨.inl h1,h2⟩,h3⟩
  ·obtain⟨b0,hb0,rfl⟩:=List.mem_map.1 ((hb b).1 hb1)
   obtain⟨⟨v,h1,h2,h3⟩,_⟩:=(hl _).1 ⟨hx,hxv⟩
   exact⟨v,mem_varsR.2 ⟨.inr ⟨b0,hb0,h1⟩,h2⟩,h3⟩
 ·rintro⟨v,hm,rfl⟩
  have hvf:=hv v hm
  obtain⟨e|⟨b,hb1,hx⟩,hxv⟩:=mem_varsR.1 hm
  ·exact⟨.inl ((hl _).2 ⟨⟨v,e,hxv,rfl⟩,hvf⟩).1,hvf⟩
  ·exact⟨.inr ⟨renB f b,(hb _).2 (List.mem_map.2 ⟨b,hb1,rfl⟩),((hl _).2 ⟨⟨v,hx,hxv,rfl⟩,hvf⟩).1⟩,hvf⟩
theorem isC_ren {r r':Rl} {f:ByteArray→ByteArray} (hi: ∀v∈varsR r,∀w∈varsR r,f v=f w→v=w) (hv: ∀v∈varsR r,varS (f v)=true)
 (hh:r'.head=renT f r.head) (hb: ∀b,b∈r'.body↔b∈(renR f r).body) (x:Rl):IsC r' x↔IsC r x:=by
 have hp:=vars_ren hi hv hh hb
 have hlen:(varsR r').length=(varsR r).length:=by rw[hp.length_eq,List.length_map]
 have hre: ∀h:ByteArray→ByteArray,tidyR (renR h r')=tidyR (renR (fun v=>h (f v)) r):=fun h=>by
  rw[←renR_ren hv]
  refine tidy_congr ?_ fun b=>?_
  ·show renT h r'.head=renT h (renT f r.head);rw[hh]
  ·show b∈r'.body.map (renB h)↔b∈(renR f r).body.map (renB h)
   rw[List.mem_map,List.mem_map]
   constructor
   ·rintro⟨a,h1,h2⟩;exact⟨a,(hb a).1 h1,h2⟩
   ·rintro⟨a,h1,h2⟩;exact⟨a,(hb a).2 h1,h2⟩
 constructor
 ·rintro⟨h,h1,h2⟩
  refine⟨fun v=>h (f v),?_,by rw[h2,hre]⟩
  have e:(varsR r).map (fun v=>h (f v))=((varsR r).map f).map h:=by rw[List.map_map];rfl
  rw[e,←hlen]
  exact(hp.symm.map h).trans h1
 ·rintro⟨g,h1,h2⟩
  let inv:ByteArray→ByteArray:=fun w=>((varsR r).find? fun v=>decide (f v=w)).getD w
  have hinv: ∀v∈varsR r,inv (f v)=v:=by
   intro v hm
   show((varsR r).find? fun u=>decide (f u=f v)).getD (f v)=v
   cases hq:(varsR r).find? fun u=>decide (f u=f v)with
   |none=>
    have:=List.find?_eq_none.1 hq v hm
    simp at this
   |some u=>
    have h3:=List.find?_some hq
    have h4:=List.mem_of_find?_eq_some hq
    simp only[decide_eq_true_eq]at h3
    exact hi u h4 v hm h3
  refine⟨fun w=>g (inv w),?_,?_⟩
  ·rw[hlen]
   refine .trans (hp.map _) ?_
   rw[List.map_map]
   have e:(varsR r).map ((fun w=>g (inv w))∘f)=(varsR r).map g:=List.map_congr_left fun v hm=>by
    show g (inv (f v))=g v
    rw[hinv v hm]
   rw[e];exact h1
  ·rw[h2,hre]
   congr 1
   refine renR_congr fun v hm=>?_
   show g v=g (inv (f v))
   rw[hinv v hm]
open Go.Ab
set_option maxRecDepth 100000
set_option maxHeartbeats 4000000
theorem noEscB (x:Value) (w:World):(callFunc 163 #[x]).run Tryz.prog w= .ok (.value x) w:=by kernel_rfl
theorem uns1:unsT Tryz.prog 122 183 124 2=true:=by kernel_rfl
theorem uns2:unsT Tryz.prog 183 122 124 2=true:=by kernel_rfl
theorem ptB:ptT Tryz.prog 122=true:=by kernel_rfl
theorem binA_pn {P:Program} {op:BinOp} {t:TypeId} {b:AV}:binA P op t (.sc (.pointer none)) b=none:=by unfold binA;rfl
theorem nilEqA_pn {P:Program} {op:BinOp} {t:TypeId} {y:Operand}:nilEqA P op t (.sc (.pointer none)) y=none:=by
 unfold nilEqA
 rw[if_neg]
 rintro⟨h1,h2,h3⟩
 exact h1 h3.symm
theorem aggEqA_pn {P:Program} {op:BinOp} {t:TypeId} {b:AV}:aggEqA P op t (.sc (.pointer none)) b=none:=by
 unfold aggEqA;rfl
theorem openA_pn {d:Option Nat} {x:Operand} {ty:TypeId} {pos:String} {af g} {ρ:Operand→Option AV} (hx:ρ x=some (.sc (.pointer none))) (hy:ρ (.const (.pointer none))=some (.sc (.pointer none))):
 openA Tryz.prog ⟨d,.binOp .eql 122 x (.const (.pointer none)) 122,ty,pos,af,g⟩ ρ=some ⟨true,bl true⟩:=by
 unfold openA
 rw[if_pos ⟨rfl,by simp[Op.operands,hx,hy,toV,toV1]⟩]
 have e:still Tryz.prog (execOp (fun z=>orNil ((ρ z).bind toV)) ⟨d,.binOp .eql 122 x (.const (.pointer none)) 122,ty,pos,af,g⟩)=some (.value (.bool true)):=by
  simp only[execOp,hx,hy]
  kernel_rfl
 rw[e]
 rfl
def pnS (z:Option Sv):Option AV→Option Sv
 |some (.sc (.pointer none))=>some ⟨true,bl true⟩
 |some (.ptr _ _ _)=>some ⟨true,bl false⟩
 |_=>z
theorem pnS_nil {z:Option Sv}:pnS z (some (.sc (.pointer none)))=some ⟨true,bl true⟩:=rfl
theorem pnS_ptr {z:Option Sv} {L i o:Nat}:pnS z (some (.ptr L i o))=some ⟨true,bl false⟩:=rfl
theorem pnS_eq {z:Option Sv} {y:Option AV} (h1:y=some (.sc (.pointer none))→z=some ⟨true,bl true⟩) (h2: ∀L i o,y=some (.ptr L i o)→z=some ⟨true,bl false⟩):z=pnS z y:=by
 unfold pnS
 split
 ·exact h1 rfl
 ·exact h2 _ _ _ rfl
 ·rfl
theorem kdB:tyKd Tryz.prog 122=2:=by kernel_rfl
theorem aop_eqpn {d:Nat} {x:Operand} {ty:TypeId} {pos:String} {af g} {s:ASt}:aop Tryz.prog ⟨some d,.binOp .eql 122 x (.const (.pointer none)) 122,ty,pos,af,g⟩ s=
 ofSv (pnS (match ev s.t x,ev s.t (.const (.pointer none))with
 |some a,some b=>match binA Tryz.prog .eql 122 a b with
  |some r=>some r
  |none=>match nilEqA Tryz.prog .eql 122 a (.const (.pointer none))with
   |some r=>some r
   |none=>match aggEqA Tryz.prog .eql 122 a b with
    |some r=>some r
    |none=>openA Tryz.prog ⟨some d,.binOp .eql 122 x (.const (.pointer none)) 122,ty,pos,af,g⟩ (ev s.t)
 |_,_=>none) (ev s.t x)):=by
 rw[aop_bin]
 refine congrArg ofSv (pnS_eq (fun hx=>?_) (fun L i o hx=>?_))
 ·have hy:ev s.t (.const (.pointer none))=some (.sc (.pointer none)):=rfl
  simp only[hx,hy,binA_pn,nilEqA_pn,aggEqA_pn,openA_pn hx hy]
 ·have hy:ev s.t (.const (.pointer none))=some (.sc (.pointer none)):=rfl
  have e:nilEqA Tryz.prog .eql 122 (.ptr L i o) (.const (.pointer none))=some ⟨true,bl false⟩:=by
   unfold nilEqA
   rw[if_pos ⟨by decide,kdB,rfl⟩]
  have e0:binA Tryz.prog .eql 122 (.ptr L i o) (.sc (.pointer none))=none:=by unfold binA;rfl
  simp only[hx,hy,e,e0]
attribute [go_sem high] aop_eqpn
attribute [go_sem] pnS_nil pnS_ptr
abbrev bBox (p v:AV):AObj:=⟨false,false,true,2,[.agg [p,v]],124+2⟩
abbrev bNew:Objs:= [(1000,bBox (.sc (.pointer none)) (.sc (.slice none 0 0)))]
abbrev bNil:Objs:= [(1000,bBox (.ptr 1000 0 0) (.sc (.slice none 0 0)))]
abbrev bBuf (l:List UInt8):Objs:= [(1000,bBox (.ptr 1000 0 0) (.ref 1001 0 l.length)),(1001,⟨true,false,true,1,l.map bAV,5+2⟩)]
abbrev bOut (l:List UInt8):Objs:= [(1000,bBox (.ptr 1000 0 0) (.ref 1001 0 l.length)),(1001,⟨true,false,false,1,l.map bAV,5+2⟩)]
theorem copyCheck_new:MCall Tryz.prog 131 [.ptr 1000 0 0] bNew (fun r o'=>r= .tup []∧o'=bNil):=by
 refine mcall_of_awpL Tryz.func131 Tryz.call131 rfl (by simp[Tryz.ntmps131]) ?_;simp only[Tryz.ntmps131,Tryz.results131]
 repeat' (first|(refine awK fun _ _=>?_)|refine zHg ?_|(fail_if_success with_reducible refine Owe.mk ?_);(simp(disch:=omega) [go_sem,uns1,uns2,ptB]))
 refine stepK_same noEscB (by simp) ?_
 repeat' (first|(fail_if_success with_reducible refine Owe.mk ?_);(simp(disch:=omega) [go_sem,uns1,uns2,ptB]))
 refine endL_normal ⟨20,[],bNil⟩ [] (Le.renSub [] [] (by simp[go_sem]) (by simp[go_sem]) (Le.sub4 rfl (by simp[go_sem]))) (by simp[go_sem]) ⟨rfl,rfl⟩
theorem copyCheck_nil:MCall Tryz.prog 131 [.ptr 1000 0 0] bNil (fun r o'=>r= .tup []∧o'=bNil):=by
 refine mcall_of_awpL Tryz.func131 Tryz.call131 rfl (by simp[Tryz.ntmps131]) ?_;simp only[Tryz.ntmps131,Tryz.results131]
 repeat' (first|(refine awK fun _ _=>?_)|refine zHg ?_|(fail_if_success with_reducible refine Owe.mk ?_);(simp(disch:=omega) [go_sem,uns1,uns2,ptB]))
 refine endL_normal ⟨20,[],bNil⟩ [] (Le.renSub [] [] (by simp[go_sem]) (by simp[go_sem]) (Le.sub4 rfl (by simp[go_sem]))) (by simp[go_sem]) ⟨rfl,rfl⟩
theorem copyCheck_buf (l:List UInt8):MCall Tryz.prog 131 [.ptr 1000 0 0] (bBuf l) (fun r o'=>r= .tup []∧o'=bBuf l):=by
 refine mcall_of_awpL Tryz.func131 Tryz.call131 rfl (by simp[Tryz.ntmps131]) ?_;simp only[Tryz.ntmps131,Tryz.results131]
 repeat' (first|(refine awK fun _ _=>?_)|refine zHg ?_|(fail_if_success with_reducible refine Owe.mk ?_);(simp(disch:=omega) [go_sem,uns1,uns2,ptB]))
 refine endL_normal ⟨20,[],bBuf l⟩ [] (Le.renSub [] [] (by simp[go_sem]) (by simp[go_sem]) (Le.sub4 rfl (by simp[go_sem]))) (by simp[go_sem]) ⟨rfl,rfl⟩
def bytesS (s:ByteArray):List UInt8:=s.data.toList
theorem bytesS_eq (s:ByteArray):s.data.toList=bytesS s:=rfl
theorem bytesS_len (s:ByteArray):(bytesS s).length=s.size:=by unfold bytesS;rw[Array.length_toList];rfl
theorem WriteString_new (s:ByteArray) (hs:s.size≤4000000) (c:UInt8) (r:List UInt8) (h0:bytesS s=c::r):MCall Tryz.prog 92 [.ptr 1000 0 0,.sc (.string s)] bNew (fun x o'=>x= .tup [nt .i64 s.size,.sc .nilIface]∧o'=bOut (c::r)):=by
 have hl:=bytesS_len s
 rw[h0,List.length_cons]at hl
 refine mcall_of_awpL Tryz.func92 Tryz.call92 rfl (by simp[Tryz.ntmps92]) ?_;simp only[Tryz.ntmps92,Tryz.results92]
 repeat' (first|(refine awK fun _ _=>?_)|refine zHg ?_|(fail_if_success with_reducible refine Owe.mk ?_);(simp(disch:=omega) [go_sem,bytesS_eq,h0]))
 refine stepK_fis [] [] 10000 _ _ (Fits.mk' (by simp[go_sem]) (by simp[go_sem])) (by simp[go_sem]) (by simp[go_sem]) (copyCheck_new) (by simp[go_sem]) (by simp[go_sem]) ?_
 repeat' (first|(refine awK fun _ _=>?_)|refine zHg ?_|(fail_if_success with_reducible refine Owe.mk ?_);(simp(disch:=omega) [go_sem,bytesS_eq,h0])|refine zAo ?_)
 refine endL_ret ⟨19,[(4,nt .i64 s.size),(5,.sc .nilIface)],bOut (c::r)⟩ [nt .i64 s.size,.sc .nilIface] (Le.renSub [(14,1001),(1001,14)] [(1001,14),(14,1001)] (by simp[go_sem,hl]) (by simp[go_sem,hl]) (Le.sub4 rfl (by simp[go_sem,hl]))) (by simp[go_sem,hl]) ⟨rfl,rfl⟩
theorem WriteString_none (s:ByteArray) (h0:bytesS s= []):MCall Tryz.prog 92 [.ptr 1000 0 0,.sc (.string s)] bNew (fun x o'=>x= .tup [nt .i64 s.size,.sc .nilIface]∧o'=bNil):=by
 refine mcall_of_awpL Tryz.func92 Tryz.call92 rfl (by simp[Tryz.ntmps92]) ?_;simp only[Tryz.ntmps92,Tryz.results92]
 repeat' (first|(refine awK fun _ _=>?_)|refine zHg ?_|(fail_if_success with_reducible refine Owe.mk ?_);(simp(disch:=omega) [go_sem,bytesS_eq,h0]))
 refine stepK_fis [] [] 10000 _ _ (Fits.mk' (by simp[go_sem]) (by simp[go_sem])) (by simp[go_sem]) (by simp[go_sem]) (copyCheck_new) (by simp[go_sem]) (by simp[go_sem]) ?_
 repeat' (first|(refine awK fun _ _=>?_)|refine zHg ?_|(fail_if_success with_reducible refine Owe.mk ?_);(simp(disch:=omega) [go_sem,bytesS_eq,h0]))
 refine endL_ret ⟨19,[(4,nt .i64 s.size),(5,.sc .nilIface)],bNil⟩ [nt .i64 s.size,.sc .nilIface] (Le.renSub [] [] (by simp[go_sem]) (by simp[go_sem]) (Le.sub4 rfl (by simp[go_sem]))) (by simp[go_sem]) ⟨rfl,rfl⟩
theorem WriteString_buf (l:List UInt8) (s:ByteArray) (hs:l.length+s.size≤4000000):MCall Tryz.prog 92 [.ptr 1000 0 0,.sc (.string s)] (bBuf l) (fun r o'=>r= .tup [nt .i64 s.size,.sc .nilIface]∧o'=bOut (l++bytesS s)):=by
 have hl:=bytesS_len s
 refine mcall_of_awpL Tryz.func92 Tryz.call92 rfl (by simp[Tryz.ntmps92]) ?_;simp only[Tryz.ntmps92,Tryz.results92]
 repeat' (first|(refine awK fun _ _=>?_)|refine zHg ?_|(fail_if_success with_reducible refine Owe.mk ?_);(simp(disch:=omega) [go_sem,bytesS_eq]))
 refine stepK_fis [] [] 10000 _ _ (Fits.mk' (by simp[go_sem]) (by simp[go_sem])) (by simp[go_sem]) (by simp[go_sem]) (copyCheck_buf l) (by simp[go_sem]) (by simp[go_sem]) ?_
 repeat' (first|(refine awK fun _ _=>?_)|refine zHg ?_|(fail_if_success with_reducible refine Owe.mk ?_);(simp(disch:=omega) [go_sem,bytesS_eq,hl])|refine zAo ?_)
 refine endL_ret ⟨19,[(4,nt .i64 s.size),(5,.sc .nilIface)],bOut (l++bytesS s)⟩ [nt .i64 s.size,.sc .nilIface] (Le.renSub [(14,1001)] [(1001,14)] (by simp[go_sem,hl]) (by simp[go_sem,hl]) (Le.sub4 rfl (by simp[go_sem,hl]))) (by simp[go_sem,hl]) ⟨rfl,rfl⟩
theorem WriteByte_buf (l:List UInt8) (c:UInt8) (hs:l.length≤4000000):MCall Tryz.prog 164 [.ptr 1000 0 0,nt .u8 (c.toNat:Int)] (bBuf l) (fun r o'=>r= .sc .nilIface∧o'=bOut (l++ [c])):=by
 refine mcall_of_awpL Tryz.func164 Tryz.call164 rfl (by simp[Tryz.ntmps164]) ?_;simp only[Tryz.ntmps164,Tryz.results164]
 repeat' (first|(refine awK fun _ _=>?_)|refine zHg ?_|(fail_if_success with_reducible refine Owe.mk ?_);(simp(disch:=omega) [go_sem]))
 refine stepK_fis [] [] 10000 _ _ (Fits.mk' (by simp[go_sem]) (by simp[go_sem])) (by simp[go_sem]) (by simp[go_sem]) (copyCheck_buf l) (by simp[go_sem]) (by simp[go_sem]) ?_
 repeat' (first|(refine awK fun _ _=>?_)|refine zHg ?_|(fail_if_success with_reducible refine Owe.mk ?_);(simp(disch:=omega) [go_sem])|refine zAo ?_)
 refine endL_ret ⟨17,[(4,.sc .nilIface)],bOut (l++ [c])⟩ [.sc .nilIface] (Le.renSub [(14,1001),(1001,14)] [(1001,14),(14,1001)] (by simp[go_sem,bAV]) (by simp[go_sem,bAV]) (Le.sub4 rfl (by simp[go_sem,bAV]))) (by simp[go_sem,bAV]) ⟨rfl,rfl⟩
theorem WriteByte_nil (c:UInt8):MCall Tryz.prog 164 [.ptr 1000 0 0,nt .u8 (c.toNat:Int)] bNil (fun r o'=>r= .sc .nilIface∧o'=bOut [c]):=by
 refine mcall_of_awpL Tryz.func164 Tryz.call164 rfl (by simp[Tryz.ntmps164]) ?_;simp only[Tryz.ntmps164,Tryz.results164]
 repeat' (first|(refine awK fun _ _=>?_)|refine zHg ?_|(fail_if_success with_reducible refine Owe.mk ?_);(simp(disch:=omega) [go_sem]))
 refine stepK_fis [] [] 10000 _ _ (Fits.mk' (by simp[go_sem]) (by simp[go_sem])) (by simp[go_sem]) (by simp[go_sem]) (copyCheck_nil) (by simp[go_sem]) (by simp[go_sem]) ?_
 repeat' (first|(refine awK fun _ _=>?_)|refine zHg ?_|(fail_if_success with_reducible refine Owe.mk ?_);(simp(disch:=omega) [go_sem]))
 refine endL_ret ⟨17,[(4,.sc .nilIface)],bOut [c]⟩ [.sc .nilIface] (Le.renSub [(14,1001),(1001,14)] [(1001,14),(14,1001)] (by simp[go_sem,bAV]) (by simp[go_sem,bAV]) (Le.sub4 rfl (by simp[go_sem,bAV]))) (by simp[go_sem,bAV]) ⟨rfl,rfl⟩
mutual
def txt:Tm→List UInt8
 | .mk s ts=>if ts.length=0 then bytesS s else bytesS s++40::((txtS ts).tail++ [41])
def txtS:List Tm→List UInt8
 | []=> []
 |t::r=>44::(txt t++txtS r)
end
theorem txt_mk {s:ByteArray} {ts:List Tm}:txt (.mk s ts)=if ts.length=0 then bytesS s else bytesS s++40::((txtS ts).tail++ [41]):=rfl
theorem txtS_append: ∀a b:List Tm,txtS (a++b)=txtS a++txtS b
 | [],b=>by simp[txtS]
 |t::r,b=>by simp[txtS,txtS_append r b]
theorem txtS_ne {l:List Tm} (h:l≠ []):txtS l≠ []:=by
 cases l with
 |nil=>exact absurd rfl h
 |cons t r=>simp[txtS]
theorem txtS_first {ts:List Tm} (h:0<ts.length):(txtS (ts.take 1)).tail=txt ts[0]:=by
 cases ts with
 |nil=>simp at h
 |cons t r=>simp[txtS]
theorem txtS_next {ts:List Tm} {i:Nat} (h:i<ts.length) (h0:0<i):(txtS (ts.take (i+1))).tail=(txtS (ts.take i)).tail++44::txt ts[i]:=by
 rw[take_next h,txtS_append,List.tail_append_of_ne_nil]
 ·simp[txtS]
 ·refine txtS_ne fun e=>?_
  have:=congrArg List.length e
  rw[List.length_take]at this
  simp only[List.length_nil]at this
  omega
theorem txtS_take_le (ts:List Tm) (i:Nat):(txtS (ts.take i)).tail.length≤(txtS ts).tail.length:=by
 have:=txtS_append (ts.take i) (ts.drop i)
 rw[List.take_append_drop]at this
 simp only[List.length_tail,this,List.length_append];omega
theorem strTb:strT Tryz.prog 161 (5+2)=true:=by kernel_rfl
theorem String_buf (l:List UInt8) (hne:l≠ []) (hs:l.length≤4000000):MCall Tryz.prog 94 [.ptr 1000 0 0] (bBuf l) (fun x o'=>x= .sc (.string ⟨l.toArray⟩)∧o'= []):=by
 have h0: ¬l.length=0:=fun h=>hne (List.eq_nil_of_length_eq_zero h)
 have hst:=strTb
 simp only[Nat.reduceAdd]at hst
 refine mcall_of_awpL Tryz.func94 Tryz.call94 rfl (by simp[Tryz.ntmps94]) ?_;simp only[Tryz.ntmps94,Tryz.results94]
 repeat' (first|(refine awK fun _ _=>?_)|refine zHg ?_|(fail_if_success with_reducible refine Owe.mk ?_);(simp(disch:=omega) [go_sem,hne,h0,hst])|refine zDr 10 mix ?_)
 refine endL_ret ⟨14,[(2,.sc (.string ⟨l.toArray⟩))],[]⟩ [.sc (.string ⟨l.toArray⟩)] (Le.renSub [] [] (by simp[go_sem]) (by simp[go_sem]) (Le.sub4 rfl (by simp[go_sem]))) (by simp[go_sem]) ⟨rfl,rfl⟩
theorem openA_sd {d:Option Nat} {x:Operand} {ts:Array TypeId} {ty:TypeId} {pos:String} {af g} {ρ:Operand→Option AV} (hx:ρ x=some (.sc (.slice none 0 0))):
 openA Tryz.prog ⟨d,.call ⟨.builtin .unsafeSliceData,#[x],ts⟩,ty,pos,af,g⟩ ρ=some ⟨true,.sc (.pointer none)⟩:=by
 unfold openA
 rw[if_pos ⟨rfl,by simp[Op.operands,Call.operands,hx,toV,toV1]⟩]
 have e:still Tryz.prog (execOp (fun z=>orNil ((ρ z).bind toV)) ⟨d,.call ⟨.builtin .unsafeSliceData,#[x],ts⟩,ty,pos,af,g⟩)=some (.value (.pointer none)):=by
  simp only[execOp,resolve,Array.map,hx]
  simp[hx,toV,toV1,orNil]
  rfl
 rw[e]
 rfl
def sdS (z:Option Sv):Option AV→Option Sv
 |some (.sc (.slice none 0 0))=>some ⟨true,.sc (.pointer none)⟩
 |_=>z
theorem sdS_nil {z:Option Sv}:sdS z (some (.sc (.slice none 0 0)))=some ⟨true,.sc (.pointer none)⟩:=rfl
theorem sdS_ref {z:Option Sv} {L lo n:Nat}:sdS z (some (.ref L lo n))=z:=rfl
theorem aop_sdata2 {d:Nat} {x:Operand} {ts:Array TypeId} {ty:TypeId} {pos:String} {af g} {s:ASt}:aop Tryz.prog ⟨some d,.call ⟨.builtin .unsafeSliceData,#[x],ts⟩,ty,pos,af,g⟩ s=
 ofSv (sdS (dtS (openA Tryz.prog ⟨some d,.call ⟨.builtin .unsafeSliceData,#[x],ts⟩,ty,pos,af,g⟩ (ev s.t)) s.o (ev s.t x)) (ev s.t x)):=by
 rw[aop_sdata]
 refine congrArg ofSv ?_
 unfold sdS
 split
 ·rename_i hx
  rw[hx,dtS_sc,openA_sd hx]
 ·rfl
attribute [go_sem high] aop_sdata2
attribute [go_sem] sdS_nil sdS_ref
theorem openA_us {d:Option Nat} {x y:Operand} {pt it:TypeId} {ty:TypeId} {pos:String} {af g} {ρ:Operand→Option AV} (hx:ρ x=some (.sc (.pointer none))) (hy:ρ y=some (.sc (.int .i64 0))):
 openA Tryz.prog ⟨d,.call ⟨.builtin .unsafeString,#[x,y],#[pt,it]⟩,ty,pos,af,g⟩ ρ=some ⟨true,.sc (.string (ByteArray.mk #[]))⟩:=by
 unfold openA
 rw[if_pos ⟨rfl,by simp[Op.operands,Call.operands,hx,hy,toV,toV1]⟩]
 have e:still Tryz.prog (execOp (fun z=>orNil ((ρ z).bind toV)) ⟨d,.call ⟨.builtin .unsafeString,#[x,y],#[pt,it]⟩,ty,pos,af,g⟩)=some (.value (.string .empty)):=by
  simp only[execOp,resolve,Array.map,hx,hy]
  simp[hx,hy,toV,toV1,orNil]
  rfl
 rw[e]
 rfl
def usS (z:Option Sv):Option AV→Option AV→Option Sv
 |some (.sc (.pointer none)),some (.sc (.int .i64 0))=>some ⟨true,.sc (.string (ByteArray.mk #[]))⟩
 |_,_=>z
theorem usS_nil {z:Option Sv}:usS z (some (.sc (.pointer none))) (some (.sc (.int .i64 0)))=some ⟨true,.sc (.string (ByteArray.mk #[]))⟩:=rfl
theorem aop_ustr2 {d:Nat} {x y:Operand} {pt it:TypeId} {ty:TypeId} {pos:String} {af g} {s:ASt}:aop Tryz.prog ⟨some d,.call ⟨.builtin .unsafeString,#[x,y],#[pt,it]⟩,ty,pos,af,g⟩ s=
 ofSv (usS (openA Tryz.prog ⟨some d,.call ⟨.builtin .unsafeString,#[x,y],#[pt,it]⟩,ty,pos,af,g⟩ (ev s.t)) (ev s.t x) (ev s.t y)):=by
 have e:aop Tryz.prog ⟨some d,.call ⟨.builtin .unsafeString,#[x,y],#[pt,it]⟩,ty,pos,af,g⟩ s=ofSv (openA Tryz.prog ⟨some d,.call ⟨.builtin .unsafeString,#[x,y],#[pt,it]⟩,ty,pos,af,g⟩ (ev s.t)):=rfl
 rw[e]
 refine congrArg ofSv ?_
 unfold usS
 split
 ·rename_i hx hy
  rw[openA_us hx hy]
 ·rfl
attribute [go_sem] aop_ustr2 usS_nil
theorem String_nil:MCall Tryz.prog 94 [.ptr 1000 0 0] bNil (fun x o'=>x= .sc (.string (ByteArray.mk #[]))∧o'= []):=by
 refine mcall_of_awpL Tryz.func94 Tryz.call94 rfl (by simp[Tryz.ntmps94]) ?_;simp only[Tryz.ntmps94,Tryz.results94]
 repeat' (first|(refine awK fun _ _=>?_)|refine zHg ?_|(fail_if_success with_reducible refine Owe.mk ?_);(simp(disch:=omega) [go_sem])|refine zDr 10 mix ?_)
 refine endL_ret ⟨14,[(2,.sc (.string (ByteArray.mk #[])))],[]⟩ [.sc (.string (ByteArray.mk #[]))] (Le.renSub [] [] (by simp[go_sem]) (by simp[go_sem]) (Le.sub4 rfl (by simp[go_sem]))) (by simp[go_sem]) ⟨rfl,rfl⟩
open Go.Ab
set_option maxRecDepth 100000
set_option maxHeartbeats 4000000
theorem txtS_get {ts:List Tm} {i:Nat} (h:i<ts.length):(txt ts[i]).length≤(txtS ts).tail.length:=by
 have h1:=txtS_append (ts.take i) (ts.drop i)
 rw[List.take_append_drop,List.drop_eq_getElem_cons h]at h1
 simp only[txtS]at h1
 simp only[List.length_tail,h1,List.length_append,List.length_cons];omega
def tlS (ts:List Tm) (i:Nat):List UInt8:=(txtS (ts.take i)).tail
theorem tlS_zero (ts:List Tm):tlS ts 0= []:=rfl
theorem tlS_one {ts:List Tm} (h:0<ts.length):tlS ts 1=txt ts[0]:=txtS_first h
theorem tlS_next {ts:List Tm} {i:Nat} (h:i<ts.length) (h0:0<i):tlS ts (i+1)=tlS ts i++44::txt ts[i]:=txtS_next h h0
theorem tlS_all (ts:List Tm):tlS ts ts.length=(txtS ts).tail:=by unfold tlS;rw[List.take_length]
theorem tlS_le (ts:List Tm) (i:Nat):(tlS ts i).length≤(txtS ts).tail.length:=txtS_take_le ts i
theorem txtS_len: ∀ts:List Tm,ts.length≤(txtS ts).length
 | []=>by simp[txtS]
 |t::r=>by have:=txtS_len r;simp only[txtS,List.length_cons,List.length_append];omega
theorem txtS_len1 (ts:List Tm):ts.length≤(txtS ts).tail.length+1:=by have:=txtS_len ts;rw[List.length_tail];omega
theorem write_buf: ∀(t:Tm) (l:List UInt8),l.length+(txt t).length≤3000000→MCall Tryz.prog 132 [.ptr 1000 0 0,eT t] (bBuf l) (fun r o'=>r= .tup []∧o'=bOut (l++txt t)):=by
 refine tm_ind fun t ih l hb=>?_
 obtain⟨s,ts⟩:=t
 rw[txt_mk]at*
 simp only[args_mk,name_mk]at*
 have hsl:=bytesS_len s
 by_cases h0:ts.length=0
 ·rw[if_pos h0]at*
  refine mcall_of_awpL Tryz.func132 Tryz.call132 rfl (by simp[Tryz.ntmps132]) ?_;simp only[Tryz.ntmps132,Tryz.results132]
  repeat' (first|(refine awK fun _ _=>?_)|refine zHg ?_|(fail_if_success with_reducible refine Owe.mk ?_);(simp(disch:=omega) [go_sem]))
  refine stepK_fis [] [] 10000 _ _ (Fits.mk' (by simp[go_sem]) (by simp[go_sem])) (by simp[go_sem]) (by simp[go_sem]) (WriteString_buf l s (by omega)) (by simp[go_sem]) (by simp[go_sem]) ?_
  repeat' (first|(refine awK fun _ _=>?_)|refine zHg ?_|(fail_if_success with_reducible refine Owe.mk ?_);(simp(disch:=omega) [go_sem,h0]))
  refine endL_ret ⟨34,[],bOut (l++bytesS s)⟩ [] (Le.renSub [(11001,1001),(1001,11001)] [(1001,11001),(11001,1001)] (by simp[go_sem]) (by simp[go_sem]) (Le.sub4 rfl (by simp[go_sem]))) (by simp[go_sem]) ⟨rfl,rfl⟩
 ·rw[if_neg h0]at*
  simp only[List.length_append,List.length_cons,List.length_nil]at hb
  have hq:=txtS_len1 ts
  have hall:=tlS_all ts
  rw[←hall]at hb hq ⊢
  have hle: ∀i,(tlS ts i).length≤(tlS ts ts.length).length:=fun i=>by rw[hall];exact tlS_le ts i
  have hge: ∀(i:Nat) (h:i<ts.length),(txt ts[i]).length≤(tlS ts ts.length).length:=fun i h=>by rw[hall];exact txtS_get h
  clear hall
  refine mcall_of_awpL Tryz.func132 Tryz.call132 rfl (by simp[Tryz.ntmps132]) ?_;simp only[Tryz.ntmps132,Tryz.results132]
  repeat' (first|(refine awK fun _ _=>?_)|refine zHg ?_|(fail_if_success with_reducible refine Owe.mk ?_);(simp(disch:=omega) [go_sem]))
  refine stepK_fis [] [] 10000 _ _ (Fits.mk' (by simp[go_sem]) (by simp[go_sem])) (by simp[go_sem]) (by simp[go_sem]) (WriteString_buf l s (by omega)) (by simp[go_sem]) (by simp[go_sem]) ?_
  repeat' (first|(refine awK fun _ _=>?_)|refine zHg ?_|(fail_if_success with_reducible refine Owe.mk ?_);(simp(disch:=omega) [go_sem,h0]))
  refine stepK_fis [(1001,11001)] [(11001,1001),(1001,11001)] 20000 _ _ (Fits.mk' (by simp[go_sem]) (by simp[go_sem])) (by simp[go_sem]) (by simp[go_sem]) (WriteByte_buf (l++bytesS s) 40 (by simp only[List.length_append];omega)) (by simp[go_sem]) (by simp[go_sem]) ?_
  repeat' (first|(refine awK fun _ _=>?_)|refine zHg ?_|(fail_if_success with_reducible refine Owe.mk ?_);(simp(disch:=omega) [go_sem,h0]))
  refine awp_for [0,17,18] [1000,1001,11001,21001] (fun i:Nat=> [(19,nt .i64 i)]) (fun i:Nat=> [(1000,bBox (.ptr 1000 0 0) (.ref 1001 0 (l++bytesS s++40::tlS ts i).length)),(1001,⟨true,false,false,1,(l++bytesS s++40::tlS ts i).map bAV,7⟩)]) (fun i:Nat=>ts.length - i) (fun i:Nat=>i≤ts.length) (0) (Le.renSub [(21001,1001),(1001,21001)] [(1001,21001),(21001,1001)] (by simp[go_sem,tlS_zero]) (by simp[go_sem,tlS_zero]) (Le.sub4 rfl (by simp[go_sem,tlS_zero]))) ⟨?_⟩ ?_
  ·exact Nat.zero_le _
  intro i hi AA hAA;simp only[kL,Nat.reduceBEq,Nat.reduceEqDiff,if_true,if_false,List.cons_append,List.nil_append,List.append_nil]
  by_cases hlt:i<ts.length
  ·have hu:=ih ts[i] (List.getElem_mem hlt)
   have hl1:=hle i
   have hl2:=hge i hlt
   have hl3:=hle (i+1)
   by_cases hi0:i=0
   ·subst hi0
    have hn:=tlS_one hlt
    have hl4:=congrArg List.length hn
    rw[show 0+1=1 from rfl]at hl3
    have hu:=hu (l++bytesS s++40::tlS ts 0) (by simp only[List.length_append,List.length_cons,tlS_zero,List.length_nil];omega)
    repeat' (first|(refine awK fun _ _=>?_)|refine zHg ?_|(fail_if_success with_reducible refine Owe.mk ?_);(simp(disch:=omega) [go_sem,hlt]))
    refine stepK_fis [] [] 30000 _ _ (Fits.mk' (by simp[go_sem]) (by simp[go_sem])) (by simp[go_sem]) (by simp[go_sem]) (hu) (by simp[go_sem]) (by simp[go_sem]) ?_
    repeat' (first|refine zHg ?_|refine(hAA.next (0+1) (Le.renSub [(31001,1001),(1001,31001)] [(1001,31001),(31001,1001)] (by simp[go_sem,tlS_zero,hn]) (by simp[go_sem,tlS_zero,hn]) (Le.sub4 rfl (by simp[go_sem,tlS_zero,hn]))) (by(try dsimp only);omega) ?_)|(fail_if_success with_reducible refine Owe.mk ?_);(simp(disch:=omega) [go_sem,hlt]))
    exact⟨by omega⟩
   ·have hn:=tlS_next hlt (by omega)
    have hl4:=congrArg List.length hn
    simp only[List.length_append,List.length_cons]at hl4
    have hu:=hu (l++bytesS s++40::tlS ts i++ [44]) (by simp only[List.length_append,List.length_cons,List.length_nil];omega)
    have hi1:(0:Int)<i:=by omega
    repeat' (first|(refine awK fun _ _=>?_)|refine zHg ?_|refine zqd ?_ ?_<;>(intro h;first|(exfalso;omega)|(simp only[h,zT]))|(fail_if_success with_reducible refine Owe.mk ?_);(simp(disch:=omega) [go_sem,hlt,hi1]))
    refine stepK_fis [] [] 30000 _ _ (Fits.mk' (by simp[go_sem]) (by simp[go_sem])) (by simp[go_sem]) (by simp[go_sem]) (WriteByte_buf (l++bytesS s++40::tlS ts i) 44 (by simp only[List.length_append,List.length_cons];omega)) (by simp[go_sem]) (by simp[go_sem]) ?_
    repeat' (first|refine zHg ?_|(fail_if_success with_reducible refine Owe.mk ?_);(simp(disch:=omega) [go_sem,hlt]))
    refine stepK_fis [(1001,31001)] [(31001,1001),(1001,31001)] 40000 _ _ (Fits.mk' (by simp[go_sem]) (by simp[go_sem])) (by simp[go_sem]) (by simp[go_sem]) (hu) (by simp[go_sem]) (by simp[go_sem]) ?_
    repeat' (first|refine zHg ?_|refine(hAA.next (i+1) (Le.renSub [(41001,1001),(1001,41001)] [(1001,41001),(41001,1001)] (by simp[go_sem,hn]) (by simp[go_sem,hn]) (Le.sub4 rfl (by simp[go_sem,hn]))) (by(try dsimp only);omega) ?_)|(fail_if_success with_reducible refine Owe.mk ?_);(simp(disch:=omega) [go_sem,hlt]))
    exact⟨by omega⟩
  ·obtain rfl:i=ts.length:=by omega
   repeat' (first|(refine awK fun _ _=>?_)|refine zHg ?_|(fail_if_success with_reducible refine Owe.mk ?_);(simp(disch:=omega) [go_sem]))
   refine stepK_fis [] [] 30000 _ _ (Fits.mk' (by simp[go_sem]) (by simp[go_sem])) (by simp[go_sem]) (by simp[go_sem]) (WriteByte_buf (l++bytesS s++40::tlS ts ts.length) 41 (by simp only[List.length_append,List.length_cons];omega)) (by simp[go_sem]) (by simp[go_sem]) ?_
   repeat' (first|(fail_if_success with_reducible refine Owe.mk ?_);(simp(disch:=omega) [go_sem]))
   refine endL_normal ⟨34,[],bOut (l++(bytesS s++40::(tlS ts ts.length++ [41])))⟩ [] (Le.renSub [(31001,1001),(1001,31001)] [(1001,31001),(31001,1001)] (by simp[go_sem]) (by simp[go_sem]) (Le.sub4 rfl (by simp[go_sem]))) (by simp[go_sem]) ⟨rfl,rfl⟩
end Go.Proofs.YtkbglbcphjmiiaaGreatDoor
