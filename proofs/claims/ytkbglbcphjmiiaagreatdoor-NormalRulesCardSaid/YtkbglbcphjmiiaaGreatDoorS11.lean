import Derived.Test.YtkbglbcphjmiiaaGreatDoorS10
import Derived.Test.YtkbglbcphjmiiaaGreatDoorS5
import Derived.Test.YtkbglbcphjmiiaaGreatDoorS6
set_option linter.unusedSimpArgs false
set_option linter.unusedVariables false
namespace Go.Proofs.YtkbglbcphjmiiaaGreatDoor
open Go.Ab
set_option maxRecDepth 100000
set_option maxHeartbeats 8000000
def rtB (r:Rl):ByteArray:=⟨(rtx r).toArray⟩
def rtP (h:Tm) (bs:List Lt) (i:Nat):List UInt8:=txt h++btx (bs.take i)
theorem rtP_zero (h:Tm) (bs:List Lt):rtP h bs 0=txt h:=by unfold rtP;simp[btx]
theorem rtP_all (h:Tm) (bs:List Lt):rtP h bs bs.length=rtx ⟨h,bs⟩:=by unfold rtP rtx;rw[List.take_length]
theorem rtP_next {h:Tm} {bs:List Lt} {i:Nat} (hi:i<bs.length):rtP h bs (i+1)=if bs[i].neg=true then(rtP h bs i++ [32,110,111,116])++(32::txt bs[i].atom)else rtP h bs i++(32::txt bs[i].atom):=by
 unfold rtP
 rw[take_next hi,btx_app]
 have e:btx [bs[i]]=(if bs[i].neg=true then[32,110,111,116]else[])++32::txt bs[i].atom:=by
  unfold btx
  have e0:btx []= []:=rfl
  rw[e0,List.append_nil]
 rw[e]
 split<;>simp
theorem bytes_app (a b:ByteArray):bytesS (a++b)=bytesS a++bytesS b:=by
 unfold bytesS
 rw[ByteArray.data_append,Array.toList_append]
theorem bytes_txt (t:Tm):bytesS (txtB t)=txt t:=by unfold bytesS txtB;rfl
abbrev bxS (n:Nat):AObj:=⟨false,false,false,2,[.agg [.ptr 3 0 0,.ref 1001 0 n]],124+2⟩
abbrev rwS (l:List UInt8):AObj:=⟨true,false,false,1,l.map bAV,5+2⟩
theorem text_ok (r:Rl) (hv:vldR r=true) (hz:SzR r):ACall Tryz.prog 50 [eRl r] (fun v=>v= .sc (.string (rtB r))):=by
 obtain⟨h,bs⟩:=r
 obtain⟨_,v1,v2⟩:=vldR_iff.1 hv
 obtain⟨z1,z2,z3⟩:=hz
 dsimp only at*
 have w1:withT 4 true h=true:=by unfold atmV at v1;rw[Bool.and_eq_true]at v1;exact v1.2
 have l1:=txt_size h 4 w1
 have hbt: ∀(i:Nat) (hi:i<bs.length),(txt bs[i].atom).length+1≤400:=fun i hi=>by
  have q:=v2 _ (List.getElem_mem hi)
  have z:=z3 _ (List.getElem_mem hi)
  have w:withT 4 true bs[i].atom=true:=by unfold atmV at q;rw[Bool.and_eq_true]at q;exact q.2
  have:=txt_size _ 4 w
  omega
 have hlen: ∀i,i≤bs.length→(rtP h bs i).length≤400+410*i:=by
  intro i
  induction i with
  |zero=>intro _;rw[rtP_zero];omega
  |succ i ih=>
   intro hi
   have h1:=ih (by omega)
   have h2:=hbt i (by omega)
   rw[rtP_next (by omega)]
   split<;>simp<;>omega
 obtain⟨c,q,hcq⟩: ∃c q,txt h=c::q:=by
  cases e:txt h with
  |nil=>exact absurd e (txt_ne v1)
  |cons c q=>exact⟨c,q,rfl⟩
 have ht1:=Text_ok h (by omega)
 have hs1:=WriteString_new (txtB h) (by
  have e:=bytesS_len (txtB h)
  rw[bytes_txt]at e
  omega) c q (by rw[bytes_txt];exact hcq)
 have hz0:rtP h bs 0=c::q:=by rw[rtP_zero];exact hcq
 have hR:rtB ⟨h,bs⟩=⟨(rtP h bs bs.length).toArray⟩:=by unfold rtB;rw[rtP_all]
 rw[hR]
 generalize txtB h=s1 at*
 clear v1 v2 w1 hcq hR hv
 refine acall_of_awp Tryz.func50 Tryz.call50 rfl (by simp[Tryz.ntmps50]) ?_;simp only[Tryz.ntmps50,Tryz.results50]
 repeat' (first|(refine awK fun _ _=>?_)|refine zHg ?_|refine stepK_is rfl (ht1) (by simp) ?_|(fail_if_success with_reducible refine Owe.mk ?_);(simp(disch:=omega) [go_sem]))
 refine stepK_fis [(1000,3)] [(3,1000)] 10000 _ _ (Fits.mk' (by simp[go_sem]) (by simp[go_sem])) (by simp[go_sem]) (by simp[go_sem]) (hs1) (by simp[go_sem]) (by simp[go_sem]) ?_
 repeat' (first|(refine awK fun _ _=>?_)|refine zHg ?_|(fail_if_success with_reducible refine Owe.mk ?_);(simp(disch:=omega) [go_sem]))
 refine awp_for [3,11,12] [3,1001,11001] (fun i:Nat=> [(13,nt .i64 i)]) (fun i:Nat=> [(3,bxS (rtP h bs i).length),(1001,rwS (rtP h bs i))]) (fun i:Nat=>bs.length - i) (fun i:Nat=>i≤bs.length) (0) (Le.renSub [(11001,1001)] [(1001,11001)] (by simp[go_sem,hz0]) (by simp[go_sem,hz0]) (Le.sub4 rfl (by simp[go_sem,hz0]))) ⟨?_⟩ ?_
 ·exact Nat.zero_le _
 intro i hi AA hAA;simp only[kL,Nat.reduceBEq,Nat.reduceEqDiff,if_true,if_false,List.cons_append,List.nil_append,List.append_nil]
 have hPl:=hlen i hi
 by_cases hlt:i<bs.length
 ·have hbl:=hbt i hlt
  have hnx:=rtP_next (h:=h) hlt
  have ht:=Text_ok bs[i].atom (by omega)
  have hbx:bytesS ((⟨#[32]⟩:ByteArray)++txtB bs[i].atom)=32::txt bs[i].atom:=by rw[bytes_app,bytes_txt];rfl
  have hsz:((⟨#[32]⟩:ByteArray)++txtB bs[i].atom).size≤1000:=by
   have e:=bytesS_len ((⟨#[32]⟩:ByteArray)++txtB bs[i].atom)
   rw[hbx,List.length_cons]at e
   omega
  have hst:(txtB bs[i].atom).size≤1000:=by
   have e:=bytesS_len (txtB bs[i].atom)
   rw[bytes_txt]at e
   omega
  clear hlen hbt
  cases hn:bs[i].neg
  ·rw[hn]at hnx
   simp only[Bool.false_eq_true,if_false]at hnx
   have hw:=WriteString_buf (rtP h bs i) ((⟨#[32]⟩:ByteArray)++txtB bs[i].atom) (by omega)
   rw[hbx]at hw
   generalize rtP h bs i=P at*
   generalize txtB bs[i].atom=w at*
   generalize txt bs[i].atom=x at*
   repeat' (first|(refine awK fun _ _=>?_)|refine zHg ?_|refine stepK_is rfl (ht) (by simp) ?_|(fail_if_success with_reducible refine Owe.mk ?_);(simp(disch:=omega) [go_sem,hlt,hn])|refine zAo ?_|fail)
   refine stepK_fis [(1000,3)] [(3,1000)] 20000 _ _ (Fits.mk' (by simp[go_sem]) (by simp[go_sem])) (by simp[go_sem]) (by simp[go_sem]) (hw) (by simp[go_sem]) (by simp[go_sem]) ?_
   repeat' (first|refine zHg ?_|refine(hAA.next (i+1) (Le.renSub [(21001,1001),(1001,21001)] [(1001,21001),(21001,1001)] (by simp[go_sem,hnx]) (by simp[go_sem,hnx]) (Le.sub4 rfl (by simp[go_sem,hnx]))) (by(try dsimp only);omega) ?_)|(fail_if_success with_reducible refine Owe.mk ?_);(simp(disch:=omega) [go_sem,hlt,hn]))
   all_goals(first|omega|skip)
   all_goals exact⟨hlt⟩
  ·rw[hn]at hnx
   simp only[if_true]at hnx
   have hw0:=WriteString_buf (rtP h bs i) ⟨#[32,110,111,116]⟩ (by
    have:(⟨#[32,110,111,116]⟩:ByteArray).size=4:=rfl
    omega)
   have e0:bytesS ⟨#[32,110,111,116]⟩= [32,110,111,116]:=rfl
   rw[e0]at hw0
   have hw:=WriteString_buf (rtP h bs i++ [32,110,111,116]) ((⟨#[32]⟩:ByteArray)++txtB bs[i].atom) (by rw[List.length_append];simp only[List.length_cons,List.length_nil];omega)
   rw[hbx]at hw
   generalize hQ:rtP h bs i++ [32,110,111,116]=Q at*
   generalize rtP h bs i=P at*
   generalize txtB bs[i].atom=w at*
   generalize txt bs[i].atom=x at*
   repeat' (first|(refine awK fun _ _=>?_)|refine zHg ?_|(fail_if_success with_reducible refine Owe.mk ?_);(simp(disch:=omega) [go_sem,hlt,hn]))
   refine stepK_fis [(1000,3)] [(3,1000)] 20000 _ _ (Fits.mk' (by simp[go_sem]) (by simp[go_sem])) (by simp[go_sem]) (by simp[go_sem]) (hw0) (by simp[go_sem]) (by simp[go_sem]) ?_
   repeat' (first|refine zHg ?_|refine stepK_is rfl (ht) (by simp) ?_|(fail_if_success with_reducible refine Owe.mk ?_);(simp(disch:=omega) [go_sem,hlt,hn])|refine zAo ?_|fail)
   refine stepK_fis [(1000,3),(1001,21001)] [(3,1000),(21001,1001)] 30000 _ _ (Fits.mk' (by simp[go_sem]) (by simp[go_sem])) (by simp[go_sem]) (by simp[go_sem]) (hw) (by simp[go_sem]) (by simp[go_sem]) ?_
   repeat' (first|refine zHg ?_|refine(hAA.next (i+1) (Le.renSub [(31001,1001),(1001,31001)] [(1001,31001),(31001,1001)] (by simp[go_sem,hnx]) (by simp[go_sem,hnx]) (Le.sub4 rfl (by simp[go_sem,hnx]))) (by(try dsimp only);omega) ?_)|(fail_if_success with_reducible refine Owe.mk ?_);(simp(disch:=omega) [go_sem,hlt,hn]))
   all_goals(first|omega|skip)
   all_goals exact⟨hlt⟩
 ·obtain rfl:i=bs.length:=by omega
  have hne:rtP h bs bs.length≠ []:=by
   unfold rtP
   intro e
   rw[List.append_eq_nil_iff]at e
   rw[rtP_zero,e.1]at hz0
   cases hz0
  have hsb:=String_buf (rtP h bs bs.length) hne (by omega)
  generalize rtP h bs bs.length=P at*
  repeat' (first|(refine awK fun _ _=>?_)|refine zHg ?_|(fail_if_success with_reducible refine Owe.mk ?_);(simp(disch:=omega) [go_sem]))
  refine stepK_fis [(1000,3)] [(3,1000)] 20000 _ _ (Fits.mk' (by simp[go_sem]) (by simp[go_sem])) (by simp[go_sem]) (by simp[go_sem]) (hsb) (by simp[go_sem]) (by simp[go_sem]) ?_
  repeat' (first|refine zHg ?_|refine end_ret [] ?_;simp[go_sem]|(fail_if_success with_reducible refine Owe.mk ?_);(simp(disch:=omega) [go_sem]))
theorem plainTD_ok (a b:Tm):ACall Tryz.prog 47 [eT a,eT b] (fun r=>r=bl (decide (a=b))):=by
 have h:=plainTerm_ok a b
 have e:eqT a b=decide (a=b):=by
  by_cases hab:a=b
  ·rw[decide_eq_true hab];exact(eqT_iff a b).2 hab
  ·rw[decide_eq_false hab]
   cases hq:eqT a b
   ·rfl
   ·exact absurd ((eqT_iff a b).1 hq) hab
 rw[←e]
 exact h
def bndA (ps ts:List Tm) (s:List Bd):Bool→List Bd×Bool
 |true=>bndL ps ts s
 |false=>(s,false)
theorem bndA_cons {p:Tm} {ps:List Tm} {t:Tm} {ts:List Tm} {s:List Bd}:bndA (p::ps) (t::ts) s true=bndA ps ts (bndT p t s).1 (bndT p t s).2:=by
 show bndL _ _ _=_
 rw[bndL_cons]
 generalize bndT p t s=r
 obtain⟨a,b⟩:=r
 cases b<;>rfl
theorem bndT_len: ∀(p t:Tm) (s:List Bd),(bndT p t s).1.length≤s.length+p.size:=by
 refine tm_ind fun p ih t s=>?_
 obtain⟨n,ps⟩:=p
 simp only[args_mk]at ih
 rw[bndT_mk]
 have hp:=size_pos (.mk n ps)
 split
 ·cases lookB s n with
  |some u=>show s.length≤_;omega
  |none=>show(s++ [⟨n,t⟩]:List Bd).length≤_;rw[List.length_append];simp;omega
 ·split
  ·rw[size_eq,args_mk]
   have: ∀(ps ts:List Tm) (s:List Bd),(∀p∈ps,∀(t:Tm) (s:List Bd),(bndT p t s).1.length≤s.length+p.size)→(bndL ps ts s).1.length≤s.length+sizeL ps:=by
    intro ps
    induction ps with
    |nil=>intro ts s _;rw[bndL_nil];simp
    |cons p ps ihp=>
     intro ts s hp
     cases ts with
     |nil=>rw[bndL];simp
     |cons t ts=>
      have a2:=hp p (by simp) t s
      rw[bndL_cons,sizeL]
      split
      ·have:=ihp ts (bndT p t s).1 fun q hq=>hp q (by simp[hq])
       omega
      ·omega
   have:=this ps t.args s ih
   omega
  ·simp
theorem bound_ok: ∀(p t:Tm) (s:List Bd),p.size≤1000000→s.length+p.size≤1000000→ACall Tryz.prog 129 [eT p,eT t,.list false false (s.map eBd)] (fun r=>r= .tup [.list false false ((bndT p t s).1.map eBd),bl (bndT p t s).2]):=by
 refine tm_ind fun p ih t s hz hs=>?_
 obtain⟨n,ps⟩:=p
 obtain⟨m,ts⟩:=t
 simp only[args_mk]at ih
 have hv:=isvar_ok (.mk n ps)
 rw[bndT_mk,name_mk,args_mk]
 cases hU:isU (.mk n ps)
 ·rw[hU]at hv
  simp only[Bool.false_eq_true,if_false]
  by_cases hc:n=m∧ps.length=ts.length
  ·rw[if_pos hc]
   obtain⟨rfl,hl⟩:=hc
   generalize hG:bndL ps ts s=G
   refine acall_of_awp Tryz.func129 Tryz.call129 rfl (by simp[Tryz.ntmps129]) ?_;simp only[Tryz.ntmps129,Tryz.results129]
   repeat' (first|(refine awK fun _ _=>?_)|refine zHg ?_|refine stepK_is rfl (hv) (by simp) ?_|(fail_if_success with_reducible refine Owe.mk ?_);(simp(disch:=omega) [go_sem,hl]))
   refine awp_for [3,4] [] (fun y:Nat×List Bd×Bool=> [(10,nt .i64 y.1),(2,.list false false (y.2.1.map eBd)),(9,bl y.2.2)]) (fun y:Nat×List Bd×Bool=> []) (fun y:Nat×List Bd×Bool=>ts.length - y.1) (fun y:Nat×List Bd×Bool=>y.1≤ts.length∧y.2.1.length+sizeL (ps.drop y.1)≤1000000∧bndA (ps.drop y.1) (ts.drop y.1) y.2.1 y.2.2=G) ((0,s,true)) (Le.sub4 rfl (by simp[go_sem])) ⟨?_⟩ ?_
   ·exact⟨Nat.zero_le _,by rw[List.drop_zero];rw[size_eq,args_mk]at hs;show s.length+sizeL ps≤_;omega,by rw[List.drop_zero,List.drop_zero];exact hG⟩
   intro⟨i,a,b⟩ ⟨hi,ha,hinv⟩ AA hAA;simp only[kL,Nat.reduceBEq,Nat.reduceEqDiff,if_true,if_false,List.cons_append,List.nil_append,List.append_nil]
   dsimp only at*
   have hlen:=length_le_sizeL ps
   rw[size_eq,args_mk]at hz
   by_cases hlt:i<ts.length
   ·have hlp:i<ps.length:=by omega
    cases b
    ·subst hinv
     repeat' (first|(refine awK fun _ _=>?_)|refine zHg ?_|refine end_ret [] ?_;simp[go_sem,hlt,hlp,bndA]|(fail_if_success with_reducible refine Owe.mk ?_);(simp(disch:=omega) [go_sem,hlt,hlp,bndA]))
    ·rw[List.drop_eq_getElem_cons hlt,List.drop_eq_getElem_cons hlp,bndA_cons]at hinv
     rw[List.drop_eq_getElem_cons hlp,sizeL]at ha
     have hsz:=size_get hlp
     have hu:=ih ps[i] (List.getElem_mem hlp) ts[i] a (by omega) (by omega)
     have hbl:=bndT_len ps[i] ts[i] a
     generalize bndT ps[i] ts[i] a=x at*
     obtain⟨x,c⟩:=x
     dsimp only at*
     repeat' (first|(refine awK fun _ _=>?_)|refine zHg ?_|refine dstepK_is rfl (hu) rfl (by simp) ?_|refine(hAA.next ((i+1,x,c)) (Le.sub4 rfl (by simp[go_sem])) (by(try dsimp only);omega) ?_)|(fail_if_success with_reducible refine Owe.mk ?_);(simp(disch:=omega) [go_sem,hlt,hlp,hl])|refine zDr 17 mix ?_|fail)
     all_goals(first|omega|skip)
     exact⟨hlt,by show x.length+sizeL (ps.drop (i+1))≤_;omega,hinv⟩
   ·obtain rfl:i=ts.length:=by omega
    have hd:ps.drop ts.length= []:=by rw[←hl,List.drop_length]
    rw[hd,List.drop_length]at hinv
    cases b
    ·subst hinv
     repeat' (first|(refine awK fun _ _=>?_)|refine zHg ?_|refine end_ret [] ?_;simp[go_sem,hl,bndA]|(fail_if_success with_reducible refine Owe.mk ?_);(simp(disch:=omega) [go_sem,hl,bndA]))
    ·have hinv:(a,true)=G:=by rw[←hinv];show _=bndL _ _ _;rw[bndL_nil]
     subst hinv
     repeat' (first|(refine awK fun _ _=>?_)|refine zHg ?_|refine end_ret [] ?_;simp[go_sem,hl]|(fail_if_success with_reducible refine Owe.mk ?_);(simp(disch:=omega) [go_sem,hl]))
  ·rw[if_neg hc]
   refine ACall.looseT (x:= .list false true []) rfl ?_
   by_cases h1:n=m
   ·have h2: ¬ps.length=ts.length:=fun h=>hc ⟨h1,h⟩
    subst h1
    refine acall_of_awp Tryz.func129 Tryz.call129 rfl (by simp[Tryz.ntmps129]) ?_;simp only[Tryz.ntmps129,Tryz.results129]
    repeat' (first|(refine awK fun _ _=>?_)|refine zHg ?_|refine zqn ?_ ?_<;>(intro h;first|(exfalso;omega)|(simp only[h,zT]))|refine end_ret [] ?_;simp[go_sem,h2]|refine stepK_is rfl (hv) (by simp) ?_|(fail_if_success with_reducible refine Owe.mk ?_);(simp(disch:=omega) [go_sem,h2]))
   ·refine acall_of_awp Tryz.func129 Tryz.call129 rfl (by simp[Tryz.ntmps129]) ?_;simp only[Tryz.ntmps129,Tryz.results129]
    repeat' (first|(refine awK fun _ _=>?_)|refine zHg ?_|refine end_ret [] ?_;simp[go_sem,h1]|refine stepK_is rfl (hv) (by simp) ?_|(fail_if_success with_reducible refine Owe.mk ?_);(simp(disch:=omega) [go_sem,h1]))
 ·rw[hU]at hv
  simp only[if_true]
  clear ih
  have h0:=size_pos (.mk n ps)
  generalize hR:bndV s n (.mk m ts) (lookB s n)=R
  refine acall_of_awp Tryz.func129 Tryz.call129 rfl (by simp[Tryz.ntmps129]) ?_;simp only[Tryz.ntmps129,Tryz.results129]
  repeat' (first|(refine awK fun _ _=>?_)|refine zHg ?_|refine stepK_is rfl (hv) (by simp) ?_|(fail_if_success with_reducible refine Owe.mk ?_);(simp(disch:=omega) [go_sem]))
  refine awp_for [2,3,4,14] [3,4] (fun i:Nat=> [(15,nt .i64 i)]) (fun i:Nat=> [(3,⟨false,true,false,2,[eT (.mk n ps)],0⟩),(4,⟨false,true,false,2,[eT (.mk m ts)],0⟩)]) (fun i:Nat=>s.length - i) (fun i:Nat=>i≤s.length∧ ∀(k:Nat) (hk:k<s.length),k<i→ ¬s[k].v=n) (0) (by refine Le.trans ?_ (Le.frz 3 rfl (by show(0:Nat)≠1;decide));exact(by refine Le.trans ?_ (Le.frz 4 rfl (by show(0:Nat)≠1;decide));exact(Le.sub4 rfl (by simp[go_sem])))) ⟨?_⟩ ?_
  ·exact⟨Nat.zero_le _,fun k _ hk=>absurd hk (Nat.not_lt_zero _)⟩
  intro i ⟨hi,hn⟩ AA hAA;simp only[kL,Nat.reduceBEq,Nat.reduceEqDiff,if_true,if_false,List.cons_append,List.nil_append,List.append_nil]
  by_cases hlt:i<s.length
  ·by_cases hq:s[i].v=n
   ·rw[lookB_at hlt hq hn]at hR
    subst hR
    have hu:=plainTD_ok s[i].t (.mk m ts)
    repeat' (first|(refine awK fun _ _=>?_)|refine zHg ?_|refine end_ret [] ?_;simp[go_sem,hlt,hq,bndV]|refine dstepK_is rfl (hu) rfl (by simp) ?_|(fail_if_success with_reducible refine Owe.mk ?_);(simp(disch:=omega) [go_sem,hlt,hq,bndV])|refine zDr 8 mix ?_|fail)
   ·repeat' (first|(refine awK fun _ _=>?_)|refine zHg ?_|refine(hAA.next (i+1) (Le.sub4 rfl (by simp[go_sem])) (by(try dsimp only);omega) ?_)|(fail_if_success with_reducible refine Owe.mk ?_);(simp(disch:=omega) [go_sem,hlt,hq])|refine zDr 8 mix ?_|fail)
    all_goals(first|omega|skip)
    exact⟨hlt,fun k hk hki=>by rcases Nat.lt_or_eq_of_le (Nat.le_of_lt_succ hki)with h|rfl;exact hn k hk h;exact hq⟩
  ·obtain rfl:i=s.length:=by omega
   rw[lookB_none hn]at hR
   subst hR
   repeat' (first|(refine awK fun _ _=>?_)|refine zHg ?_|refine end_ret [35] ?_;simp[go_sem,bndV]|(fail_if_success with_reducible refine Owe.mk ?_);(simp(disch:=omega) [go_sem,bndV])|refine zAo ?_|refine zAny mix ?_|refine anyN_go ?_|refine zDone ?_|refine zQ 1 ?_|refine zQ 3 ?_|refine zQ 4 ?_|refine zQ 5 ?_|refine zQ 9 ?_|refine zQ 10 ?_|refine zAll ?_;show allI _ _ _ _ _ _ _|exact allI_zero|refine zSkip ?_|refine allI_do rfl ?_ ?_)
set_option maxHeartbeats 16000000
abbrev eBs (s:List Bd):AV:= .list false false (s.map eBd)
abbrev wkB (pin:Bool) (lf:Int):AObj:=⟨false,false,pin,1,[.agg [nt .i64 lf]],0⟩
abbrev atR (pin:Bool) (A:List Tm):AObj:=⟨true,false,pin,2,A.map eTm,0⟩
abbrev abB (a:Tm):AObj:=⟨false,false,false,2,[eT a],0⟩
theorem loose_nil:Ab.loose (.list false true [])=eBs []:=rfl
abbrev wyR (W:List (List Bd)):AObj:=⟨true,false,false,1,W.map eBs,0⟩
theorem wyI_nil {A:List Tm} {W:List (List Bd)} {lf:Int}:wyI A [] W lf=(some W,lf):=rfl
theorem wyI_skip {A:List Tm} {b:Lt} {bs:List Lt} {W:List (List Bd)} {lf:Int} (h:b.neg=true∨b.atom.name=dstS):wyI A (b::bs) W lf=wyI A bs W lf:=by rw[wyI,if_pos h]
theorem wyI_go {A:List Tm} {b:Lt} {bs:List Lt} {W:List (List Bd)} {lf:Int} (h: ¬(b.neg=true∨b.atom.name=dstS)):wyI A (b::bs) W lf=match wyK b.atom A W [] lf with
 |(some nx,lf')=>wyI A bs nx lf'
 |(none,lf')=>(none,lf'):=by rw[wyI,if_neg h];rfl
def wyQ (a:Tm) (A:List Tm) (ss:List (List Bd)) (B:List Lt):Option (List (List Bd))×Int→Option (List (List Bd))×Int
 |(some nx,lf)=>match wyK a A ss nx lf with
  |(some nx',lf')=>wyI A B nx' lf'
  |(none,lf')=>(none,lf')
 |(none,lf)=>(none,lf)
theorem wyK_cons {a:Tm} {A:List Tm} {s:List Bd} {ss nx:List (List Bd)} {lf:Int}:wyK a A (s::ss) nx lf=match wyJ a s A nx lf with
 |(some nx',lf')=>wyK a A ss nx' lf'
 |(none,lf')=>(none,lf'):=by rw[wyK];rfl
theorem wyQ_cons {a:Tm} {A:List Tm} {s:List Bd} {ss nx:List (List Bd)} {B:List Lt} {lf:Int}:wyQ a A (s::ss) B (some nx,lf)=wyQ a A ss B (wyJ a s A nx lf):=by
 rw[wyQ,wyK_cons]
 generalize wyJ a s A nx lf=r
 obtain⟨x,l⟩:=r
 cases x<;>rfl
theorem wyQ_nil {a:Tm} {A:List Tm} {nx:List (List Bd)} {B:List Lt} {lf:Int}:wyQ a A [] B (some nx,lf)=wyI A B nx lf:=rfl
theorem wyJ_no {a:Tm} {s:List Bd} {t:Tm} {ts:List Tm} {nx:List (List Bd)} {lf:Int} (h: ¬(t.name=a.name∧t.args.length=a.args.length)):wyJ a s (t::ts) nx lf=wyJ a s ts nx lf:=by rw[wyJ,if_neg h]
theorem wyJ_out {a:Tm} {s:List Bd} {t:Tm} {ts:List Tm} {nx:List (List Bd)} {lf:Int} (h:t.name=a.name∧t.args.length=a.args.length) (h':lf - 1<0∨5000<(nxW (bndT a t s) nx).length):wyJ a s (t::ts) nx lf=(none,lf - 1):=by rw[wyJ,if_pos h,if_pos h']
theorem wyJ_go {a:Tm} {s:List Bd} {t:Tm} {ts:List Tm} {nx:List (List Bd)} {lf:Int} (h:t.name=a.name∧t.args.length=a.args.length) (h': ¬(lf - 1<0∨5000<(nxW (bndT a t s) nx).length)):wyJ a s (t::ts) nx lf=wyJ a s ts (nxW (bndT a t s) nx) (lf - 1):=by rw[wyJ,if_pos h,if_neg h']
def wyX (A:List Tm) (r:AV) (o':Objs):Option (List (List Bd))×Int→Prop
 |(some W,lf)=>r= .tup [.ref 1002 0 W.length,bl true]∧o'= [(1002,wyR W),(1000,wkB true lf),(1001,atR true A)]
 |(none,lf)=>r= .tup [.list false true [],bl false]∧o'= [(1000,wkB true lf),(1001,atR true A)]
theorem ways_ok {q M:Nat} (A:List Tm) (B:List Lt) (fb:Bool) (lf:Int) (hA:okA q M A) (hAl:A.length≤1000000) (hB:B.length≤8) (hBz: ∀b∈B,b.atom.size≤20) (h0:0≤lf) (h1:lf≤1000000):
 MCall Tryz.prog 90 [.ptr 1000 0 0,.list false fb (B.map eLt),.ref 1001 0 A.length] [(1000,wkB true lf),(1001,atR true A)] (fun r o'=>wyX A r o' (wyI A B [[]] lf)):=by
 generalize hG:wyI A B [[]] lf=G
 refine mcall_of_awpL Tryz.func90 Tryz.call90 rfl (by simp[Tryz.ntmps90]) ?_;simp only[Tryz.ntmps90,Tryz.results90]
 repeat' (first|(refine awK fun _ _=>?_)|refine zHg ?_|(fail_if_success with_reducible refine Owe.mk ?_);(simp(disch:=omega) [go_sem,wkB,atR]))
 refine awp_for [0,1,2,18] [900,1000,16] (fun x:Nat×List (List Bd)×Int=> [(19,nt .i64 x.1),(8,.ref 900 0 x.2.1.length)]) (fun x:Nat×List (List Bd)×Int=> [(900,wyR x.2.1),(1000,wkB true x.2.2)]) (fun x:Nat×List (List Bd)×Int=>B.length - x.1) (fun x:Nat×List (List Bd)×Int=>x.1≤B.length∧okW q M (20*x.1) x.2.1∧x.2.1.length≤5000∧0≤x.2.2∧x.2.2≤1000000∧wyI A (B.drop x.1) x.2.1 x.2.2=G) ((0,[[]],lf)) (by refine Le.trans ?_ (Le.looseRow 16 rfl (by show(0:Nat)≠1;decide));exact(by refine Le.trans ?_ (Le.move (i:=8) (T:=16) (T':=900) rfl (by show(0:Nat)≠1;decide) rfl rfl rfl);exact(Le.sub4 rfl (by simp[go_sem,wkB,atR,loose_nil])))) ⟨?_⟩ ?_
 ·refine⟨Nat.zero_le _,fun s hs=>?_,by simp,h0,h1,hG⟩
  obtain rfl:=List.mem_singleton.1 hs
  exact⟨fun b hb=>by simp at hb,by simp⟩
 clear hG h0 h1
 intro⟨i,W,l0⟩ ⟨hi,hW,hWl,h0,h1,hG⟩ AA hAA;simp only[kL,Nat.reduceBEq,Nat.reduceEqDiff,if_true,if_false,List.cons_append,List.nil_append,List.append_nil]
 dsimp only at*
 by_cases hlt:i<B.length
 ·rw[List.drop_eq_getElem_cons hlt]at hG
  have hbz:=hBz _ (List.getElem_mem hlt)
  generalize hb:B[i]=b at*
  by_cases hn:b.neg=true
  ·rw[wyI_skip (.inl hn)]at hG
   repeat' (first|(refine awK fun _ _=>?_)|refine zHg ?_|refine(hAA.next ((i+1,W,l0)) (Le.sub4 rfl (by simp[go_sem,wkB,atR])) (by(try dsimp only);omega) ?_)|(fail_if_success with_reducible refine Owe.mk ?_);(simp(disch:=omega) [go_sem,hlt,hb,hn,wkB,atR]))
   all_goals(first|omega|skip)
   exact⟨hlt,fun s hs=>⟨(hW s hs).1,by have:=(hW s hs).2;omega⟩,hWl,h0,h1,hG⟩
  ·by_cases hd:b.atom.name=dstS
   ·rw[wyI_skip (.inr hd)]at hG
    repeat' (first|(refine awK fun _ _=>?_)|refine zHg ?_|refine(hAA.next ((i+1,W,l0)) (Le.sub4 rfl (by simp[go_sem,wkB,atR])) (by(try dsimp only);omega) ?_)|(fail_if_success with_reducible refine Owe.mk ?_);(simp(disch:=omega) [go_sem,hlt,hb,hn,hd,wkB,atR]))
    all_goals(first|omega|skip)
    exact⟨hlt,fun s hs=>⟨(hW s hs).1,by have:=(hW s hs).2;omega⟩,hWl,h0,h1,hG⟩
   ·rw[wyI_go (fun h=>h.elim hn hd)]at hG
    have hG:wyQ b.atom A W (B.drop (i+1)) (some [],l0)=G:=hG
    have hAB:=hAA
    repeat' (first|(refine awK fun _ _=>?_)|refine zHg ?_|(fail_if_success with_reducible refine Owe.mk ?_);(simp(disch:=omega) [go_sem,hlt,hb,hn,hd,wkB,atR]))
    refine awp_for [0,1,2,8,10,18,19,38] [901,1000,10] (fun y:Nat×List (List Bd)×Int=> [(39,nt .i64 y.1),(11,.ref 901 0 y.2.1.length)]) (fun y:Nat×List (List Bd)×Int=> [(901,wyR y.2.1),(1000,wkB true y.2.2),(10,abB b.atom)]) (fun y:Nat×List (List Bd)×Int=>W.length - y.1) (fun y:Nat×List (List Bd)×Int=>y.1≤W.length∧okW q M (20*i+20) y.2.1∧y.2.1.length≤5000∧0≤y.2.2∧y.2.2≤1000000∧wyQ b.atom A (W.drop y.1) (B.drop (i+1)) (some y.2.1,y.2.2)=G) ((0,[],l0)) (by refine Le.trans ?_ (Le.nil (i:=11) (T:=901) (es:=1) rfl);exact(Le.sub4 rfl (by simp[go_sem,wkB,atR,wyR,abB,List.map_nil,List.length_nil]))) ⟨?_⟩ ?_
    ·exact⟨Nat.zero_le _,fun s hs=>by simp at hs,by simp,h0,h1,hG⟩
    clear hG h0 h1
    intro⟨k,nx,l1⟩ ⟨hk,hX,hXl,h0,h1,hG⟩ AA hAA;simp only[kL,Nat.reduceBEq,Nat.reduceEqDiff,if_true,if_false,List.cons_append,List.nil_append,List.append_nil]
    dsimp only at*
    have hAC:=hAA
    by_cases hkl:k<W.length
    ·rw[List.drop_eq_getElem_cons hkl,wyQ_cons]at hG
     obtain⟨hs1,hs2⟩:=hW _ (List.getElem_mem hkl)
     generalize hs:W[k]=s at*
     repeat' (first|(refine awK fun _ _=>?_)|refine zHg ?_|(fail_if_success with_reducible refine Owe.mk ?_);(simp(disch:=omega) [go_sem,hkl,hs,wkB,atR,abB]))
     refine awp_for [0,1,2,8,10,12,18,19,38,39,43] [901,1000,10] (fun z:Nat×List (List Bd)×Int=> [(44,nt .i64 z.1),(11,.ref 901 0 z.2.1.length)]) (fun z:Nat×List (List Bd)×Int=> [(901,wyR z.2.1),(1000,wkB true z.2.2),(10,abB b.atom)]) (fun z:Nat×List (List Bd)×Int=>A.length - z.1) (fun z:Nat×List (List Bd)×Int=>z.1≤A.length∧okW q M (20*i+20) z.2.1∧z.2.1.length≤5000∧0≤z.2.2∧z.2.2≤1000000∧wyQ b.atom A (W.drop (k+1)) (B.drop (i+1)) (wyJ b.atom s (A.drop z.1) z.2.1 z.2.2)=G) ((0,nx,l1)) (Le.sub4 rfl (by simp[go_sem,wkB,atR,wyR,abB])) ⟨?_⟩ ?_
     ·exact⟨Nat.zero_le _,hX,hXl,h0,h1,hG⟩
     clear hG h0 h1 hX hXl
     intro⟨j,nx,l1⟩ ⟨hj,hX,hXl,h0,h1,hG⟩ AA hAA;simp only[kL,Nat.reduceBEq,Nat.reduceEqDiff,if_true,if_false,List.cons_append,List.nil_append,List.append_nil]
     dsimp only at*
     by_cases hjl:j<A.length
     ·rw[List.drop_eq_getElem_cons hjl]at hG
      have ht:=hA _ (List.getElem_mem hjl)
      generalize hta:A[j]=t at*
      by_cases hm1:t.name=b.atom.name
      ·by_cases hm2:t.args.length=b.atom.args.length
       ·have hbb:=bnd_ok b.atom t s ht.1 ht.2 (fun hu=>by
         have h0:t.args.length=0:=by
          unfold isU at hu
          rw[Bool.and_eq_true,decide_eq_true_eq]at hu
          rw[hm2];exact hu.1
         rw[depth_eq,List.eq_nil_of_length_eq_zero h0]
         simp[depthL]) hs1
        have hu:=bound_ok b.atom t s (by omega) (by omega)
        have hout:=wyJ_out (s:=s) (ts:=A.drop (j+1)) (nx:=nx) (lf:=l1) ⟨hm1,hm2⟩
        have hgo:=wyJ_go (s:=s) (ts:=A.drop (j+1)) (nx:=nx) (lf:=l1) ⟨hm1,hm2⟩
        generalize bndT b.atom t s=r at*
        obtain⟨s',c⟩:=r
        dsimp only at*
        cases c
        ·have hnx:nxW (s',false) nx=nx:=rfl
         rw[hnx]at hout hgo
         by_cases h5:l1 - 1<0
         ·rw[hout (.inl h5)]at hG
          have hG:(none,l1 - 1)=G:=hG
          subst hG
          repeat' (first|(refine awK fun _ _=>?_)|refine zHg ?_|refine dstepK_is rfl (hu) rfl (by simp) ?_|(fail_if_success with_reducible refine Owe.mk ?_);(simp(disch:=omega) [go_sem,hjl,hta,hm1,hm2,hkl,hs,h5,wkB,atR,abB])|refine zDr 15 mix ?_|refine zDr 20 mix ?_|fail)
          refine endL_ret ⟨107,[(6,.list false true []),(7,bl false)],[(1000,wkB true (l1 - 1)),(1001,atR true A)]⟩ [.list false true [],bl false] (Le.renSub [] [] (by simp[go_sem,wkB,atR]) (by simp[go_sem,wkB,atR]) (Le.sub4 rfl (by simp[go_sem,wkB,atR]))) (by simp[go_sem,wkB,atR]) ⟨rfl,rfl⟩
         ·rw[hgo (fun h=>h.elim h5 (by omega))]at hG
          have h6: ¬(5000:Int)<nx.length:=by omega
          repeat' (first|(refine awK fun _ _=>?_)|refine zHg ?_|refine dstepK_is rfl (hu) rfl (by simp) ?_|refine(hAA.next ((j+1,nx,l1 - 1)) (Le.sub4 rfl (by simp[go_sem,wkB,atR,abB])) (by(try dsimp only);omega) ?_)|(fail_if_success with_reducible refine Owe.mk ?_);(simp(disch:=omega) [go_sem,hjl,hta,hm1,hm2,hkl,hs,h5,h6,wkB,atR,abB])|refine zDr 15 mix ?_|refine zDr 20 mix ?_|fail)
          all_goals(first|omega|skip)
          exact⟨hjl,hX,hXl,by dsimp only;omega,by dsimp only;omega,hG⟩
        ·have hnx:nxW (s',true) nx=nx++ [s']:=rfl
         rw[hnx]at hout hgo
         by_cases h5:l1 - 1<0
         ·rw[hout (.inl h5)]at hG
          have hG:(none,l1 - 1)=G:=hG
          subst hG
          repeat' (first|(refine awK fun _ _=>?_)|refine zHg ?_|refine dstepK_is rfl (hu) rfl (by simp) ?_|(fail_if_success with_reducible refine Owe.mk ?_);(simp(disch:=omega) [go_sem,hjl,hta,hm1,hm2,hkl,hs,h5,wkB,atR,abB])|refine zAo ?_|refine zDr 15 mix ?_|refine zDr 20 mix ?_|fail)
          refine endL_ret ⟨107,[(6,.list false true []),(7,bl false)],[(1000,wkB true (l1 - 1)),(1001,atR true A)]⟩ [.list false true [],bl false] (Le.renSub [] [] (by simp[go_sem,wkB,atR]) (by simp[go_sem,wkB,atR]) (Le.sub4 rfl (by simp[go_sem,wkB,atR]))) (by simp[go_sem,wkB,atR]) ⟨rfl,rfl⟩
         ·by_cases h6:(5000:Int)<nx.length+1
          ·rw[hout (.inr (by rw[List.length_append];simp;omega))]at hG
           have hG:(none,l1 - 1)=G:=hG
           subst hG
           repeat' (first|(refine awK fun _ _=>?_)|refine zHg ?_|refine dstepK_is rfl (hu) rfl (by simp) ?_|(fail_if_success with_reducible refine Owe.mk ?_);(simp(disch:=omega) [go_sem,hjl,hta,hm1,hm2,hkl,hs,h5,h6,wkB,atR,abB])|refine zAo ?_|refine zDr 15 mix ?_|refine zDr 20 mix ?_|fail)
           refine endL_ret ⟨107,[(6,.list false true []),(7,bl false)],[(1000,wkB true (l1 - 1)),(1001,atR true A)]⟩ [.list false true [],bl false] (Le.renSub [] [] (by simp[go_sem,wkB,atR]) (by simp[go_sem,wkB,atR]) (Le.sub4 rfl (by simp[go_sem,wkB,atR]))) (by simp[go_sem,wkB,atR]) ⟨rfl,rfl⟩
          ·rw[hgo (fun h=>h.elim h5 (by rw[List.length_append];simp;omega))]at hG
           repeat' (first|(refine awK fun _ _=>?_)|refine zHg ?_|refine dstepK_is rfl (hu) rfl (by simp) ?_|refine(hAA.next ((j+1,nx++ [s'],l1 - 1)) (Le.sub4 rfl (by simp[go_sem,wkB,atR,abB])) (by(try dsimp only);omega) ?_)|(fail_if_success with_reducible refine Owe.mk ?_);(simp(disch:=omega) [go_sem,hjl,hta,hm1,hm2,hkl,hs,h5,h6,wkB,atR,abB])|refine zAo ?_|refine zDr 15 mix ?_|refine zDr 20 mix ?_|fail)
           all_goals(first|omega|skip)
           refine⟨hjl,fun u hu=>?_,by dsimp only;rw[List.length_append];simp;omega,by dsimp only;omega,by dsimp only;omega,hG⟩
           rcases List.mem_append.1 hu with hu|hu
           ·exact hX u hu
           ·obtain rfl:=List.mem_singleton.1 hu
            exact⟨hbb.1,by omega⟩
       ·rw[wyJ_no (fun h=>hm2 h.2)]at hG
        repeat' (first|(refine awK fun _ _=>?_)|refine zHg ?_|refine zqn ?_ ?_<;>(intro h;first|(exfalso;omega)|(simp only[h,zT]))|refine(hAA.next ((j+1,nx,l1)) (Le.sub4 rfl (by simp[go_sem,wkB,atR,abB])) (by(try dsimp only);omega) ?_)|(fail_if_success with_reducible refine Owe.mk ?_);(simp(disch:=omega) [go_sem,hjl,hta,hm1,hm2,wkB,atR,abB])|refine zDr 20 mix ?_|fail)
        all_goals(first|omega|skip)
        exact⟨hjl,hX,hXl,h0,h1,hG⟩
      ·rw[wyJ_no (fun h=>hm1 h.1)]at hG
       repeat' (first|(refine awK fun _ _=>?_)|refine zHg ?_|refine(hAA.next ((j+1,nx,l1)) (Le.sub4 rfl (by simp[go_sem,wkB,atR,abB])) (by(try dsimp only);omega) ?_)|(fail_if_success with_reducible refine Owe.mk ?_);(simp(disch:=omega) [go_sem,hjl,hta,hm1,wkB,atR,abB])|refine zDr 20 mix ?_|fail)
       all_goals(first|omega|skip)
       exact⟨hjl,hX,hXl,h0,h1,hG⟩
     ·obtain rfl:j=A.length:=by omega
      rw[List.drop_length]at hG
      repeat' (first|(refine awK fun _ _=>?_)|refine zHg ?_|refine(hAC.next ((k+1,nx,l1)) (Le.sub4 rfl (by simp[go_sem,wkB,atR,abB])) (by(try dsimp only);omega) ?_)|(fail_if_success with_reducible refine Owe.mk ?_);(simp(disch:=omega) [go_sem,wkB,atR,abB]))
      all_goals(first|omega|skip)
      exact⟨hkl,hX,hXl,h0,h1,hG⟩
    ·obtain rfl:k=W.length:=by omega
     rw[List.drop_length,wyQ_nil]at hG
     repeat' (first|(refine awK fun _ _=>?_)|refine zHg ?_|refine(hAB.next ((i+1,nx,l1)) (Le.renSub [(901,900),(900,901)] [(900,901),(901,900)] (by simp[go_sem,wkB,atR,abB]) (by simp[go_sem,wkB,atR,abB]) (Le.sub4 rfl (by simp[go_sem,wkB,atR,abB]))) (by(try dsimp only);omega) ?_)|(fail_if_success with_reducible refine Owe.mk ?_);(simp(disch:=omega) [go_sem,wkB,atR,abB]))
     all_goals(first|omega|skip)
     exact⟨hlt,fun s hs=>⟨(hX s hs).1,by have:=(hX s hs).2;omega⟩,hXl,h0,h1,hG⟩
 ·obtain rfl:i=B.length:=by omega
  rw[List.drop_length,wyI_nil]at hG
  subst hG
  repeat' (first|(refine awK fun _ _=>?_)|refine zHg ?_|(fail_if_success with_reducible refine Owe.mk ?_);(simp(disch:=omega) [go_sem,wkB,atR]))
  refine endL_ret ⟨107,[(6,.ref 1002 0 W.length),(7,bl true)],[(1002,wyR W),(1000,wkB true l0),(1001,atR true A)]⟩ [.ref 1002 0 W.length,bl true] (Le.renSub [(900,1002),(1002,900)] [(1002,900),(900,1002)] (by simp[go_sem,wkB,atR]) (by simp[go_sem,wkB,atR]) (Le.sub4 rfl (by simp[go_sem,wkB,atR]))) (by simp[go_sem,wkB,atR]) ⟨rfl,rfl⟩
abbrev eKy (t:Tm):AV:= .tup [.sc (.string (keyT t)),bl true]
abbrev mpO (pin:Bool) (A:List Tm):AObj:=⟨true,false,pin,0,A.map eKy,1⟩
abbrev knB (pin:Bool) (L:Nat):AObj:=⟨false,false,pin,1,[.mp L],0⟩
abbrev slB (pin:Bool) (L n:Nat):AObj:=⟨false,false,pin,1,[.ref L 0 n],0⟩
abbrev adO (A:List Tm):Objs:= [(1000,knB true 1002),(1001,slB true 1003 A.length),(1002,mpO true A),(1003,atR true A)]
abbrev adP (A:List Tm):Objs:= [(1000,knB true 1002),(1001,slB true 1004 A.length),(1002,mpO true A),(1004,atR false A)]
def hasK (A:List Tm) (t:Tm):Bool:=A.any fun u=>decide (keyT u=keyT t)
theorem mget_no {t:Tm}: ∀{A:List Tm} {i:Nat},hasK A t=false→mget (.string (keyT t)) (A.map eKy) i=some none
 | [],_,_=>rfl
 |u::A,i,h=>by
  unfold hasK at h
  rw[List.any_cons,Bool.or_eq_false_iff,decide_eq_false_iff_not]at h
  have e:kEq (.string (keyT t)) (.string (keyT u))=some false:=by
   show some (decide (keyT t=keyT u))=_
   rw[decide_eq_false (fun h'=>h.1 h'.symm)]
  rw[List.map_cons,mget,e]
  exact mget_no h.2
theorem mget_yes {t:Tm}: ∀{A:List Tm} {i:Nat},hasK A t=true→ ∃j,mget (.string (keyT t)) (A.map eKy) i=some (some (j,bl true))
 | [],_,h=>by cases h
 |u::A,i,h=>by
  unfold hasK at h
  rw[List.any_cons,Bool.or_eq_true,decide_eq_true_eq]at h
  have e:kEq (.string (keyT t)) (.string (keyT u))=some (decide (keyT t=keyT u)):=rfl
  rw[List.map_cons,mget,e]
  by_cases hq:keyT t=keyT u
  ·rw[decide_eq_true hq];exact⟨i,rfl⟩
  ·rw[decide_eq_false hq]
   exact mget_yes (h.resolve_left fun h'=>hq h'.symm)
theorem mput_no {t:Tm} {A:List Tm} (h:hasK A t=false):mput (.string (keyT t)) (bl true) (A.map eKy)=some (A.map eKy++ [eKy t]):=by
 unfold mput
 rw[mget_no h]
theorem add_has {q M:Nat} (hq:q≤1000000) (A:List Tm) (t:Tm) (ho:okT q M t) (hz:kzT t≤2305843009213693952) (hd:t.depth≤1000000) (hA:A.length≤1000000) (h:hasK A t=true):
 MCall Tryz.prog 87 [eT t,.ptr 1000 0 0,.ptr 1001 0 0] (adO A) (fun r o'=>r= .tup []∧o'=adO A):=by
 have h1:=key_ok t hz
 obtain⟨j,hm⟩:=mget_yes (i:=0) h
 generalize keyT t=k at*
 refine mcall_of_awpL Tryz.func87 Tryz.call87 rfl (by simp[Tryz.ntmps87]) ?_;simp only[Tryz.ntmps87,Tryz.results87]
 repeat' (first|(refine awK fun _ _=>?_)|refine zHg ?_|refine stepK_is rfl (h1) (by simp) ?_|(fail_if_success with_reducible refine Owe.mk ?_);(simp(disch:=omega) [go_sem,adO,knB,slB,mpO,atR,hm]))
 refine endL_normal ⟨24,[],adO A⟩ [] (Le.renSub [] [] (by simp[go_sem,adO,knB,slB,mpO,atR]) (by simp[go_sem,adO,knB,slB,mpO,atR]) (Le.sub4 rfl (by simp[go_sem,adO,knB,slB,mpO,atR]))) (by simp[go_sem,adO,knB,slB,mpO,atR]) ⟨rfl,rfl⟩
theorem add_deep {q M:Nat} (hq:q≤1000000) (A:List Tm) (t:Tm) (ho:okT q M t) (hz:kzT t≤2305843009213693952) (hd:t.depth≤1000000) (hA:A.length≤1000000) (h:hasK A t=false) (h4: ¬t.depth≤4):
 MCall Tryz.prog 87 [eT t,.ptr 1000 0 0,.ptr 1001 0 0] (adO A) (fun r o'=>r= .tup []∧o'=adO A):=by
 have h1:=key_ok t hz
 have h2:=levels_ok hq t ho hd
 have hm:=mget_no (i:=0) h
 have h4': ¬(t.depth:Int)≤4:=by omega
 generalize keyT t=k at*
 refine mcall_of_awpL Tryz.func87 Tryz.call87 rfl (by simp[Tryz.ntmps87]) ?_;simp only[Tryz.ntmps87,Tryz.results87]
 repeat' (first|(refine awK fun _ _=>?_)|refine zHg ?_|refine stepK_is rfl (h1) (by simp) ?_|refine stepK_is rfl (h2) (by simp) ?_|(fail_if_success with_reducible refine Owe.mk ?_);(simp(disch:=omega) [go_sem,adO,knB,slB,mpO,atR,hm,h4']))
 refine endL_normal ⟨24,[],adO A⟩ [] (Le.renSub [] [] (by simp[go_sem,adO,knB,slB,mpO,atR]) (by simp[go_sem,adO,knB,slB,mpO,atR]) (Le.sub4 rfl (by simp[go_sem,adO,knB,slB,mpO,atR]))) (by simp[go_sem,adO,knB,slB,mpO,atR]) ⟨rfl,rfl⟩
theorem add_yes {q M:Nat} (hq:q≤1000000) (A:List Tm) (t:Tm) (ho:okT q M t) (hz:kzT t≤2305843009213693952) (hd:t.depth≤1000000) (hA:A.length≤1000000) (h:hasK A t=false) (h4:t.depth≤4):
 MCall Tryz.prog 87 [eT t,.ptr 1000 0 0,.ptr 1001 0 0] (adO A) (fun r o'=>r= .tup []∧o'=adP (A++ [t])):=by
 have h1:=key_ok t hz
 have h2:=levels_ok hq t ho hd
 have hm:=mget_no (i:=0) h
 have hp:mput (.string (keyT t)) (.sc (.bool true)) (A.map eKy)=some (A.map eKy++ [eKy t]):=mput_no h
 have h4':(t.depth:Int)≤4:=by omega
 have hr:(A++ [t]).map eKy=A.map eKy++ [eKy t]:=by simp
 have hlm:A.length≤140737488355327:=by omega
 have hcs:cst (.agg #[.string ⟨#[]⟩,.slice none 0 0])=some (.agg [.sc (.string ⟨#[]⟩),.list false true []]):=rfl
 have hge: ∀z:AV,(A.map eTm++ [z])[A.length]?=some z:=fun z=>by
  rw[List.getElem?_append_right (by simp)];simp
 have hse: ∀z x:AV,(A.map eTm++ [z]).set A.length x=A.map eTm++ [x]:=fun z x=>by
  rw[List.set_append_right _ _ (by simp)];simp
 refine mcall_of_awpL Tryz.func87 Tryz.call87 rfl (by simp[Tryz.ntmps87]) ?_;simp only[Tryz.ntmps87,Tryz.results87]
 repeat' (first|(refine awK fun _ _=>?_)|refine zHg ?_|refine stepK_is rfl (h1) (by simp) ?_|refine stepK_is rfl (h2) (by simp) ?_|(fail_if_success with_reducible refine Owe.mk ?_);(simp(disch:=omega) [go_sem,hge,hse,adO,knB,slB,mpO,atR,hm,hp,h4',hlm,hcs])|refine zAo ?_|refine zAny mix ?_|refine anyN_go ?_|refine zDone ?_|refine zQ 5 ?_|refine zAll ?_;show allI _ _ _ _ _ _ _|exact allI_zero|refine zSkip ?_|refine allI_do rfl ?_ ?_)
 all_goals(first|omega|skip)
 all_goals refine endL_normal ⟨24,[],adP (A++ [t])⟩ [] (Le.renSub [(22,1004),(1004,22)] [(1004,22),(22,1004)] (by simp[go_sem,adP,adO,knB,slB,mpO,atR,hr]) (by simp[go_sem,adP,adO,knB,slB,mpO,atR,hr]) (Le.sub4 rfl (by simp[go_sem,adP,adO,knB,slB,mpO,atR,hr]))) (by simp[go_sem,adP,adO,knB,slB,mpO,atR,hr]) ⟨rfl,rfl⟩
theorem size_ren {f:ByteArray→ByteArray}: ∀t:Tm,(renT f t).size=t.size:=by
 refine tm_ind fun t ih=>?_
 obtain⟨n,ts⟩:=t
 simp only[args_mk]at ih
 rw[renT_mk]
 split
 ·rename_i h0
  obtain rfl:=List.eq_nil_of_length_eq_zero h0
  rw[size_eq,size_eq];rfl
 ·rw[size_eq,size_eq,args_mk,args_mk]
  congr 1
  have key: ∀l:List Tm,(∀u∈l,(renT f u).size=u.size)→sizeL (l.map (renT f))=sizeL l:=by
   intro l
   induction l with
   |nil=>intro _;rfl
   |cons t q ihq=>
    intro h
    simp only[List.map_cons,sizeL]
    rw[h t (by simp),ihq fun u hu=>h u (by simp[hu])]
  exact key ts ih
theorem sz_nrm {r:Rl} (h:SzR r):SzR (nrmB r):=by
 obtain⟨f,_,e⟩:=nrmB_isC r
 rw[e]
 refine⟨?_,?_,fun b hb=>?_⟩
 ·show(renT f r.head).size≤20
  rw[size_ren];exact h.head
 ·have:=srtG_len (c:=ltC) (renR f r).body
  have e2:(renR f r).body.length=r.body.length:=by unfold renR;simp
  have:=h.body
  show(srtG ltC (renR f r).body).length≤12
  omega
 ·have hm:b∈(renR f r).body:=(srtG_mem tot_L _ _).1 hb
  obtain⟨b0,hb0,rfl⟩:=List.mem_map.1 hm
  show(renT f b0.atom).size≤20
  rw[size_ren];exact h.atom b0 hb0
def outF (O:List Rl) (x:Rl):List Rl:=if x∈O then O else O++ [x]
def outN (l:List Rl) (i:Nat):List Rl:=((l.take i).map nrmB).foldl outF []
theorem outN_next {l:List Rl} {i:Nat} (h:i<l.length):outN l (i+1)=outF (outN l i) (nrmB l[i]):=by
 unfold outN
 rw[take_next h,List.map_append,List.foldl_append];rfl
theorem outF_facts: ∀(l O:List Rl),O.Nodup→(l.foldl outF O).Nodup∧ ∀x,x∈l.foldl outF O↔x∈O∨x∈l
 | [],O,h=>⟨h,fun x=>by simp⟩
 |y::l,O,h=>by
  have h1:(outF O y).Nodup∧ ∀x,x∈outF O y↔x∈O∨x=y:=by
   unfold outF
   split
   ·rename_i hc
    exact⟨h,fun x=>⟨.inl,fun q=>q.elim id fun e=>e▸hc⟩⟩
   ·rename_i hc
    refine⟨List.nodup_append.2 ⟨h,by simp,fun a ha b hb=>?_⟩,fun x=>by simp⟩
    simp only[List.mem_singleton]at hb
    subst hb
    rintro rfl
    exact hc ha
  obtain⟨h2,h3⟩:=outF_facts l (outF O y) h1.1
  refine⟨h2,fun x=>?_⟩
  rw[List.foldl_cons,h3 x,h1.2 x,List.mem_cons]
  constructor
  ·rintro((e|e)|e)<;>simp[e]
  ·rintro(e|e|e)<;>simp[e]
theorem outN_nodup (l:List Rl) (i:Nat):(outN l i).Nodup:=(outF_facts _ [] List.nodup_nil).1
theorem outN_mem {l:List Rl} {i:Nat} {x:Rl}:x∈outN l i↔x∈(l.take i).map nrmB:=by
 unfold outN
 rw[(outF_facts _ [] List.nodup_nil).2 x]
 simp
theorem rls_of {l m:List Rl} (hp:m.Perm (outN l l.length)) (hs:SrtOn rlC m 0 (outN l l.length).length):m=rlsR l:=by
 have hn:m.Nodup:=hp.nodup_iff.2 (outN_nodup l _)
 refine ascG_uniq tot_R (List.pairwise_iff_getElem.2 fun i j hi hj hij=>?_) (srtG_asc tot_R _) fun x=>?_
 ·have h1:=hs i j m[i] m[j] (Nat.zero_le _) hij (by rw[←hp.length_eq];exact hj) (List.getElem?_eq_getElem hi) (List.getElem?_eq_getElem hj)
  rcases Int.lt_or_eq_of_le h1 with h|h
  ·exact h
  ·exact absurd ((tot_R.zero _ _).1 h) (List.pairwise_iff_getElem.1 hn i j hi hj hij)
 ·rw[hp.mem_iff,outN_mem,List.take_length]
  exact(srtG_mem tot_R _ x).symm
theorem rlsX_at: ∀{l:List Rl} {i:Nat} (h:i<l.length),(∀(k:Nat) (hk:k<l.length),k<i→nrmE l[k]=0)→nrmE l[i]≠0→rlsX l=nrmE l[i]
 |r::q,0,_,_,hn=>by
  show rlsX (r::q)=nrmE r
  rw[rlsX,if_neg (show ¬nrmE r=0 from hn)]
 |r::q,i+1,h,h0,hn=>by
  have h1:nrmE r=0:=h0 0 (by simp) (by omega)
  rw[rlsX,if_pos h1]
  exact rlsX_at (l:=q) (i:=i) (by simpa using h) (fun k hk hki=>h0 (k+1) (by simpa using hk) (by omega)) hn
abbrev eKx (x:Rl):AV:= .tup [.sc (.string (rtB x)),bl true]
theorem mgetx_no {x:Rl}: ∀{A:List Rl} {i:Nat},(∀u∈A,rtB u≠rtB x)→mget (.string (rtB x)) (A.map eKx) i=some none
 | [],_,_=>rfl
 |u::A,i,h=>by
  have e:kEq (.string (rtB x)) (.string (rtB u))=some false:=by
   show some (decide (rtB x=rtB u))=_
   rw[decide_eq_false (fun h'=>h u (by simp) h'.symm)]
  rw[List.map_cons,mget,e]
  exact mgetx_no fun v hv=>h v (by simp[hv])
theorem mgetx_yes {x:Rl}: ∀{A:List Rl} {i:Nat},x∈A→ ∃j,mget (.string (rtB x)) (A.map eKx) i=some (some (j,bl true))
 | [],_,h=>by simp at h
 |u::A,i,h=>by
  have e:kEq (.string (rtB x)) (.string (rtB u))=some (decide (rtB x=rtB u)):=rfl
  rw[List.map_cons,mget,e]
  by_cases hq:rtB x=rtB u
  ·rw[decide_eq_true hq];exact⟨i,rfl⟩
  ·rw[decide_eq_false hq]
   rcases List.mem_cons.1 h with rfl|h
   ·exact absurd rfl hq
   ·exact mgetx_yes h
theorem mputx_no {x:Rl} {A:List Rl} (h: ∀u∈A,rtB u≠rtB x):mput (.string (rtB x)) (bl true) (A.map eKx)=some (A.map eKx++ [eKx x]):=by
 unfold mput
 rw[mgetx_no h]
def rlsV (l:List Rl):AV:=if rlsE l=0 then .own 3 ((rlsR l).map eRl)else .list false true []
theorem Rules_ok (l:List Rl) (le fu:Bool) (hl:l.length≤100) (hd: ∀i,(outN l i).length≤12) (hz: ∀r∈l,SzR r):ACall Tryz.prog 20 [.list le fu (l.map eRl)] (fun v=>v= .tup [rlsV l,nt .i64 (rlsE l)]):=by
 have h128: ¬(128:Int)<l.length:=by omega
 have hE:rlsE l=rlsX l:=by unfold rlsE;rw[if_neg (by omega)]
 have hgo:(∀r∈l,nrmE r=0)→rlsE l=0:=fun h=>by rw[hE];exact rlsX_zero.2 h
 have hbad: ∀(i:Nat) (h:i<l.length),(∀(k:Nat) (hk:k<l.length),k<i→nrmE l[k]=0)→nrmE l[i]≠0→rlsE l=nrmE l[i]:=fun i h h0 hn=>by rw[hE];exact rlsX_at h h0 hn
 have hz0:outN l 0= []:=rfl
 unfold rlsV
 generalize rlsE l=e at*
 refine acall_of_awp Tryz.func20 Tryz.call20 rfl (by simp[Tryz.ntmps20]) ?_;simp only[Tryz.ntmps20,Tryz.results20]
 repeat' (first|(refine awK fun _ _=>?_)|refine zHg ?_|(fail_if_success with_reducible refine Owe.mk ?_);(simp(disch:=omega) [go_sem,h128]))
 refine awp_for [4,15,16] [900,14] (fun i:Nat=> [(17,nt .i64 i),(5,.ref 900 0 (outN l i).length)]) (fun i:Nat=> [(900,⟨true,false,false,3,(outN l i).map eRl,0⟩),(14,⟨true,false,false,0,(outN l i).map eKx,1⟩)]) (fun i:Nat=>l.length - i) (fun i:Nat=>i≤l.length∧ ∀(k:Nat) (hk:k<l.length),k<i→nrmE l[k]=0) (0) (by refine Le.trans ?_ (Le.nil (i:=5) (T:=900) (es:=3) rfl);exact(Le.sub4 rfl (by simp[go_sem,hz0,List.map_nil]))) ⟨?_⟩ ?_
 ·exact⟨Nat.zero_le _,fun k _ hk=>absurd hk (Nat.not_lt_zero _)⟩
 intro i ⟨hi,hn⟩ AA hAA;simp only[kL,Nat.reduceBEq,Nat.reduceEqDiff,if_true,if_false,List.cons_append,List.nil_append,List.append_nil]
 by_cases hlt:i<l.length
 ·have hzi:=hz _ (List.getElem_mem hlt)
  have hr:=Rule_ok l[i] hzi
  have hnx:=outN_next hlt
  have hdi:=hd i
  have hbd:=hbad i hlt hn
  have hn':nrmE l[i]=0→ ∀(k:Nat) (hk:k<l.length),k<i+1→nrmE l[k]=0:=fun h k hk hki=>by
   rcases Nat.lt_or_eq_of_le (Nat.le_of_lt_succ hki)with h'|rfl
   ·exact hn k hk h'
   ·exact h
  by_cases he:nrmE l[i]=0
  ·have htx:=text_ok (nrmB l[i]) (nrmE_zero.1 (nrm_twice he).1).1 (sz_nrm hzi)
   have hne: ∀u∈outN l i,u≠nrmB l[i]→rtB u≠rtB (nrmB l[i]):=fun u hu hne hh=>by
    obtain⟨r,hr,rfl⟩:=List.mem_map.1 (outN_mem.1 hu)
    rw[List.mem_take_iff_getElem]at hr
    obtain⟨k,hk,rfl⟩:=hr
    have hk0:=hn k (by omega) (by omega)
    refine hne (rtx_inj (nrmE_zero.1 (nrm_twice hk0).1).1 (nrmE_zero.1 (nrm_twice he).1).1 ?_)
    have h2:=congrArg (fun z:ByteArray=>z.data.toList) hh
    simpa[rtB]using h2
   have hnr:nrmR l[i]=nrmB l[i]:=by unfold nrmR;rw[if_pos he]
   rw[hnr,he]at hr
   have hn':=hn' he
   have hag:i+1≤l.length:=hlt
   clear hbd hgo hbad
   generalize nrmB l[i]=x at*
   generalize outN l i=O at*
   by_cases hx:x∈O
   ·obtain⟨j,hm⟩:=mgetx_yes (i:=0) hx
    have hO:outF O x=O:=by unfold outF;rw[if_pos hx]
    rw[hO]at hnx
    generalize rtB x=s at*
    repeat' (first|(refine awK fun _ _=>?_)|refine zHg ?_|refine stepK_is rfl (hr) (by simp) ?_|refine stepK_is rfl (htx) (by simp) ?_|refine(hAA.next (i+1) (Le.sub4 rfl (by simp[go_sem,hnx])) (by(try dsimp only);omega) ?_)|(fail_if_success with_reducible refine Owe.mk ?_);(simp(disch:=omega) [go_sem,hlt,hm]))
    all_goals(first|omega|skip)
    all_goals exact⟨hag,hn'⟩
   ·have hO:outF O x=O++ [x]:=by unfold outF;rw[if_neg hx]
    have hnk: ∀u∈O,rtB u≠rtB x:=fun u hu=>hne u hu fun e=>hx (e▸hu)
    have hm:=mgetx_no (i:=0) hnk
    have hp:mput (.string (rtB x)) (.sc (.bool true)) (O.map eKx)=some (O.map eKx++ [eKx x]):=mputx_no hnk
    have hlm:O.length≤140737488355327:=by omega
    rw[hO]at hnx
    clear hne hnk
    generalize rtB x=s at*
    repeat' (first|(refine awK fun _ _=>?_)|refine zHg ?_|refine stepK_is rfl (hr) (by simp) ?_|refine stepK_is rfl (htx) (by simp) ?_|refine(hAA.next (i+1) (Le.sub4 rfl (by simp[go_sem,hnx])) (by(try dsimp only);omega) ?_)|(fail_if_success with_reducible refine Owe.mk ?_);(simp(disch:=omega) [go_sem,hlt,hm,hp,hlm])|refine zAo ?_|fail)
    all_goals(first|omega|skip)
    all_goals exact⟨hag,hn'⟩
  ·have hbd:=hbd he
   have hnr:nrmR l[i]=zR:=by unfold nrmR;rw[if_neg he]
   rw[hnr]at hr
   generalize nrmE l[i]=f at*
   subst hbd
   rw[if_neg he]
   repeat' (first|(refine awK fun _ _=>?_)|refine zHg ?_|refine end_ret [] ?_;simp[go_sem,hlt,he]|refine stepK_is rfl (hr) (by simp) ?_|(fail_if_success with_reducible refine Owe.mk ?_);(simp(disch:=omega) [go_sem,hlt,he]))
 ·obtain rfl:i=l.length:=by omega
  have h0:=hgo fun r hr=>by
   obtain⟨k,hk,rfl⟩:=List.mem_iff_getElem.1 hr
   exact hn k hk hk
  subst h0
  rw[if_pos rfl]
  have hs:=SortR_ok 12 rlC tot_R.pre (outN l l.length) (hd _) (fun x _ y _=>cmpRl_ok x y false false false false)
  have hrl:=fun m h1 h2=>rls_of (l:=l) (m:=m) h1 h2
  generalize outN l l.length=O at*
  repeat' (first|(refine awK fun _ _=>?_)|refine zHg ?_|(fail_if_success with_reducible refine Owe.mk ?_);(simp(disch:=omega) [go_sem]))
  refine stepK_fex [(1000,900)] [(900,1000)] 10000 _ _ (Fits.mk' (by simp[go_sem]) (by simp[go_sem])) (by simp[go_sem]) (by simp[go_sem]) (hs) (by simp[go_sem]) (by intros;simp[go_sem]) ?_;intro m hm
  have hml:O.length=m.length:=hm.1.length_eq.symm
  have hmr:=hrl m hm.1 hm.2
  repeat' (first|(refine awK fun _ _=>?_)|refine zHg ?_|refine end_ret [] ?_;simp[go_sem,hml]|(fail_if_success with_reducible refine Owe.mk ?_);(simp(disch:=omega) [go_sem,hml]))
  all_goals rw[hmr]
end Go.Proofs.YtkbglbcphjmiiaaGreatDoor
