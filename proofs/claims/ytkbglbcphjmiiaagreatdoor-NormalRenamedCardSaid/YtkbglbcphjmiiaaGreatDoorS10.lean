import Derived.Test.YtkbglbcphjmiiaaGreatDoorS9
import Derived.Test.YtkbglbcphjmiiaaGreatDoorS5
import Derived.Test.YtkbglbcphjmiiaaGreatDoorA12
import Derived.Test.YtkbglbcphjmiiaaGreatDoorS6
set_option linter.unusedSimpArgs false
set_option linter.unusedVariables false
open Go.Proofs.Tryz
namespace Go.Proofs.YtkbglbcphjmiiaaGreatDoor
open Go.Ab
set_option maxRecDepth 100000
set_option maxHeartbeats 8000000
theorem cIp {acc:List ByteArray} {n:ByteArray} (h:oU acc n=true):dQ acc n=acc:=by unfold dQ;rw[if_neg (fun k=>by rw[h]at k;exact absurd k.2 (by simp))]
theorem aHr {acc:List ByteArray} {n:ByteArray} (hv:cA n=true) (h:oU acc n=false):dQ acc n=acc++ [n]:=by unfold dQ;rw[if_pos ⟨hv,h⟩]
abbrev uM (l:List ByteArray):AObj:=⟨true,false,false,1,l.map aI,0⟩
def fU (acc:List ByteArray) (ts:List Tm) (i:Nat):List ByteArray:=(cE (ts.take i)).foldl dQ acc
theorem Z5 {acc:List ByteArray} {ts:List Tm} {i:Nat} (h:i<ts.length):fU acc ts (i+1)=(cX ts[i]).foldl dQ (fU acc ts i):=by
 unfold fU
 rw[vW h,List.foldl_append]
theorem aHs: ∀(t:Tm),t.size≤1000→ ∀(acc:List ByteArray),acc.length+t.size≤100000→MCall prog 83 [.ref 1000 0 acc.length,eT t] [(1000,⟨true,false,true,1,acc.map aI,0⟩)] (fun r o'=>r= .ref 1001 0 ((cX t).foldl dQ acc).length∧o'= [(1001,uM ((cX t).foldl dQ acc))]):=by
 refine dS fun t ih hz acc hb=>?_
 obtain⟨n,ts⟩:=t
 simp only[cT]at ih
 have hv:=Z2 n ts
 rw[iA,cT]at hz hb
 have hlen:=sG ts
 by_cases hvar:ts.length=0∧cA n=true
 ·rw[decide_eq_true hvar]at hv
  obtain⟨h0,hvn⟩:=hvar
  obtain rfl:=List.eq_nil_of_length_eq_zero h0
  have e1:(cX (.mk n [])).foldl dQ acc=dQ acc n:=rfl
  rw[e1]
  clear ih
  cases hq:oU acc n
  ·rw[aHr hvn hq]
   have hne: ∀(k:Nat) (hk:k<acc.length),¬acc[k]=n:=fun k hk e=>by
    have:oU acc n=true:=yZ.2 (e▸List.getElem_mem hk)
    rw[hq]at this;cases this
   refine cL func83 call83 rfl (by simp[ntmps83]) ?_;simp only[ntmps83,results83]
   repeat' (first|(refine aC fun _ _=>?_)|refine zHg ?_|refine aP rfl (hv) (by simp) ?_|simp(disch:=omega) [go_sem,aI])
   refine bR [0,3] [] (fun i:Nat=> [(5,nt .i64 i)]) (fun i:Nat=> []) (fun i:Nat=>acc.length - i) (fun i:Nat=>i≤acc.length) (0) (Le.sub4 rfl (by simp[go_sem,aI])) ⟨?_⟩ ?_
   ·exact Nat.zero_le _
   intro i hi AA hAA;simp only[kL,Nat.reduceBEq,Nat.reduceEqDiff,if_true,if_false,List.cons_append,List.nil_append,List.append_nil]
   by_cases hlt:i<acc.length
   ·have hn2:=hne i hlt
    repeat' (first|(refine aC fun _ _=>?_)|refine zHg ?_|(refine(hAA.next (i+1) (Le.sub4 rfl (by simp[go_sem,aI])) (by(try dsimp only);omega) ?_))|simp(disch:=omega) [go_sem,hlt,hn2,aI]|refine zDr 7 bE ?_|fail)
    all_goals(first|omega|skip)
    exact⟨hlt⟩
   ·obtain rfl:i=acc.length:=by omega
    repeat' (first|(refine aC fun _ _=>?_)|refine zHg ?_|simp(disch:=omega) [go_sem,aI]|refine zAo ?_|fail)
    refine cS ⟨43,[(4,.ref 1001 0 (acc++ [n]).length)],[(1001,uM (acc++ [n]))]⟩ [.ref 1001 0 (acc++ [n]).length] (Le.renSub [(27,1001)] [(1001,27)] (by simp[go_sem,aI]) (by simp[go_sem,aI]) (Le.sub4 rfl (by simp[go_sem,aI]))) (by simp[go_sem,aI]) ⟨by simp[gG],by simp⟩
  ·rw[cIp hq]
   refine cL func83 call83 rfl (by simp[ntmps83]) ?_;simp only[ntmps83,results83]
   repeat' (first|(refine aC fun _ _=>?_)|refine zHg ?_|refine aP rfl (hv) (by simp) ?_|simp(disch:=omega) [go_sem,aI])
   refine bR [0,3] [] (fun i:Nat=> [(5,nt .i64 i)]) (fun i:Nat=> []) (fun i:Nat=>acc.length - i) (fun i:Nat=>i≤acc.length∧ ∀(k:Nat) (hk:k<acc.length),k<i→ ¬acc[k]=n) (0) (Le.sub4 rfl (by simp[go_sem,aI])) ⟨?_⟩ ?_
   ·exact⟨Nat.zero_le _,fun k _ hk=>absurd hk (Nat.not_lt_zero _)⟩
   intro i ⟨hi,hn⟩ AA hAA;simp only[kL,Nat.reduceBEq,Nat.reduceEqDiff,if_true,if_false,List.cons_append,List.nil_append,List.append_nil]
   by_cases hlt:i<acc.length
   ·by_cases he:acc[i]=n
    ·repeat' (first|(refine aC fun _ _=>?_)|refine zHg ?_|simp(disch:=omega) [go_sem,hlt,he,aI]|refine zDr 7 bE ?_|fail)
     refine cS ⟨43,[(4,.ref 1001 0 acc.length)],[(1001,uM acc)]⟩ [.ref 1001 0 acc.length] (by refine Le.trans ?_ (Le.move (i:=4) (T:=1000) (T':=1001) rfl (by show(0:Nat)≠1;decide) rfl rfl rfl);exact(Le.sub4 rfl (by simp[go_sem,aI]))) (by simp[go_sem,aI]) ⟨rfl,rfl⟩
    ·repeat' (first|(refine aC fun _ _=>?_)|refine zHg ?_|(refine(hAA.next (i+1) (Le.sub4 rfl (by simp[go_sem,aI])) (by(try dsimp only);omega) ?_))|simp(disch:=omega) [go_sem,hlt,he,aI]|refine zDr 7 bE ?_|fail)
     all_goals(first|omega|skip)
     exact⟨hlt,fun k hk hki=>by rcases Nat.lt_or_eq_of_le (Nat.le_of_lt_succ hki)with h|rfl;exact hn k hk h;exact he⟩
   ·obtain rfl:i=acc.length:=by omega
    obtain⟨k,hk,he⟩:=List.mem_iff_getElem.1 (yZ.1 hq)
    exact absurd he (hn k hk hk)
 ·rw[decide_eq_false hvar]at hv
  have hR:(cX (.mk n ts)).foldl dQ acc=fU acc ts ts.length:=by
   unfold fU
   rw[List.take_length,lK]
   split
   ·rename_i h0
    obtain rfl:=List.eq_nil_of_length_eq_zero h0
    have hvn: ¬cA n=true:=fun h=>hvar ⟨rfl,h⟩
    show dQ acc n=acc
    unfold dQ;rw[if_neg (fun k=>hvn k.1)]
   ·rfl
  rw[hR]
  have hc0:fU acc ts 0=acc:=rfl
  have hbd: ∀i,i≤ts.length→(fU acc ts i).length≤acc.length+cU (ts.take i):=fun i hi=>by
   have h1:=uF (acc:=acc) (l:=cE (ts.take i)) (cE (ts.take i)).length
   rw[zA]at h1
   have h2: ∀l:List Tm,(cE l).length≤cU l:=by
    intro l
    induction l with
    |nil=>simp[cE]
    |cons t q ihq=>
     have e:cE (t::q)=cX t++cE q:=rfl
     have:=zH t
     rw[e,List.length_append]
     simp only[cU];omega
   have:=h2 (ts.take i)
   unfold fU;omega
  refine cL func83 call83 rfl (by simp[ntmps83]) ?_;simp only[ntmps83,results83]
  repeat' (first|(refine aC fun _ _=>?_)|refine zHg ?_|refine aP rfl (hv) (by simp) ?_|simp(disch:=omega) [go_sem])
  refine bR [3] [900,1000] (fun i:Nat=> [(6,nt .i64 i),(0,.ref 900 0 (fU acc ts i).length)]) (fun i:Nat=> [(900,uM (fU acc ts i))]) (fun i:Nat=>ts.length - i) (fun i:Nat=>i≤ts.length) (0) (by refine Le.trans ?_ (Le.move (i:=0) (T:=1000) (T':=900) rfl (by show(0:Nat)≠1;decide) rfl rfl rfl);exact(Le.sub4 rfl (by simp[go_sem,hc0]))) ⟨?_⟩ ?_
  ·exact Nat.zero_le _
  intro i hi AA hAA;simp only[kL,Nat.reduceBEq,Nat.reduceEqDiff,if_true,if_false,List.cons_append,List.nil_append,List.append_nil]
  by_cases hlt:i<ts.length
  ·have hnx:=Z5 (acc:=acc) hlt
   have h3:=hbd i hi
   have h4:=aEz hlt
   have h5:=aE0 ts (i+1)
   have h6:=vT hlt
   have hu:=ih ts[i] (List.getElem_mem hlt) (by omega) (fU acc ts i) (by omega)
   clear ih hbd
   generalize fU acc ts i=X at*
   generalize(cX ts[i]).foldl dQ X=Y at*
   repeat' (first|(refine aC fun _ _=>?_)|refine zHg ?_|simp(disch:=omega) [go_sem,hlt])
   refine bC [(1000,900)] [(900,1000)] 10000 _ _ (Fits.mk' (by simp[go_sem]) (by simp[go_sem])) (by simp[go_sem]) (by simp[go_sem]) (hu) (by simp[go_sem]) (by simp[go_sem]) ?_
   repeat' (first|refine zHg ?_|(refine(hAA.next (i+1) (Le.renSub [(11001,900)] [(900,11001)] (by simp[go_sem,hnx]) (by simp[go_sem,hnx]) (Le.sub4 rfl (by simp[go_sem,hnx]))) (by(try dsimp only);omega) ?_))|simp(disch:=omega) [go_sem,hlt])
   all_goals(first|omega|skip)
   exact⟨hlt⟩
  ·obtain rfl:i=ts.length:=by omega
   clear ih hbd
   generalize fU acc ts ts.length=Y at*
   repeat' (first|(refine aC fun _ _=>?_)|refine zHg ?_|simp(disch:=omega) [go_sem])
   refine cS ⟨43,[(4,.ref 1001 0 Y.length)],[(1001,uM Y)]⟩ [.ref 1001 0 Y.length] (Le.renSub [(900,1001)] [(1001,900)] (by simp[go_sem]) (by simp[go_sem]) (Le.sub4 rfl (by simp[go_sem]))) (by simp[go_sem]) ⟨by simp[gG],by simp⟩
theorem cIq {acc:List ByteArray} {ts:List Tm} {i:Nat}:(fU acc ts i).length≤acc.length+cU (ts.take i):=by
 have h1:=uF (acc:=acc) (l:=cE (ts.take i)) (cE (ts.take i)).length
 rw[zA]at h1
 have h2: ∀l:List Tm,(cE l).length≤cU l:=by
  intro l
  induction l with
  |nil=>simp[cE]
  |cons t q ihq=>
   have e:cE (t::q)=cX t++cE q:=rfl
   have:=zH t
   rw[e,List.length_append]
   simp only[cU];omega
 have:=h2 (ts.take i)
 unfold fU;omega
theorem cIr (t:Tm) (hz:t.size≤1000):ACall prog 83 [.list false true [],eT t] (fun r=>r= .own 1 (((cX t).foldl dQ []).map aI)):=by
 obtain⟨n,ts⟩:=t
 refine ACall.own_nil ?_
 have hv:=Z2 n ts
 rw[iA,cT]at hz
 by_cases hvar:ts.length=0∧cA n=true
 ·rw[decide_eq_true hvar]at hv
  obtain⟨h0,hvn⟩:=hvar
  obtain rfl:=List.eq_nil_of_length_eq_zero h0
  have e1:(cX (.mk n [])).foldl dQ []= [n]:=by
   show dQ [] n= [n]
   rw[aHr hvn rfl];rfl
  rw[e1]
  refine bD func83 call83 rfl (by simp[ntmps83]) ?_;simp only[ntmps83,results83]
  repeat' (first|(refine aC fun _ _=>?_)|refine zHg ?_|refine aP rfl (hv) (by simp) ?_|simp(disch:=omega) [go_sem,aI])
  refine bR [0,3] [] (fun i:Nat=> [(5,nt .i64 (0:Nat))]) (fun i:Nat=> []) (fun i:Nat=>0) (fun i:Nat=>i=0) (0) (Le.sub4 rfl (by simp[go_sem])) ⟨?_⟩ ?_
  ·rfl
  intro i hi AA hAA;simp only[kL,Nat.reduceBEq,Nat.reduceEqDiff,if_true,if_false,List.cons_append,List.nil_append,List.append_nil]
  repeat' (first|(refine aC fun _ _=>?_)|refine zHg ?_|(refine aT [] ?_;simp[go_sem,aI])|simp(disch:=omega) [go_sem,aI])
 ·rw[decide_eq_false hvar]at hv
  have hR:(cX (.mk n ts)).foldl dQ []=fU [] ts ts.length:=by
   unfold fU
   rw[List.take_length,lK]
   split
   ·rename_i h0
    obtain rfl:=List.eq_nil_of_length_eq_zero h0
    have hvn: ¬cA n=true:=fun h=>hvar ⟨rfl,h⟩
    show dQ [] n= []
    unfold dQ;rw[if_neg (fun k=>hvn k.1)]
   ·rfl
  rw[hR]
  have hc0:fU [] ts 0= []:=rfl
  refine bD func83 call83 rfl (by simp[ntmps83]) ?_;simp only[ntmps83,results83]
  repeat' (first|(refine aC fun _ _=>?_)|refine zHg ?_|refine aP rfl (hv) (by simp) ?_|simp(disch:=omega) [go_sem])
  refine bR [3] [900] (fun i:Nat=> [(6,nt .i64 i),(0,.ref 900 0 (fU [] ts i).length)]) (fun i:Nat=> [(900,uM (fU [] ts i))]) (fun i:Nat=>ts.length - i) (fun i:Nat=>i≤ts.length) (0) (by refine Le.trans ?_ (Le.nil (i:=0) (T:=900) (es:=1) rfl);exact(Le.sub4 rfl (by simp[go_sem,hc0]))) ⟨?_⟩ ?_
  ·exact Nat.zero_le _
  intro i hi AA hAA;simp only[kL,Nat.reduceBEq,Nat.reduceEqDiff,if_true,if_false,List.cons_append,List.nil_append,List.append_nil]
  by_cases hlt:i<ts.length
  ·have hnx:=Z5 (acc:= []) hlt
   have h3:=cIq (acc:= []) (ts:=ts) (i:=i)
   rw[List.length_nil]at h3
   have h4:=aEz hlt
   have h5:=aE0 ts (i+1)
   have h6:=vT hlt
   have hu:=aHs ts[i] (by omega) (fU [] ts i) (by omega)
   generalize fU [] ts i=X at*
   generalize(cX ts[i]).foldl dQ X=Y at*
   have hlen:=sG ts
   repeat' (first|(refine aC fun _ _=>?_)|refine zHg ?_|simp(disch:=omega) [go_sem,hlt])
   refine bC [(1000,900)] [(900,1000)] 10000 _ _ (Fits.mk' (by simp[go_sem]) (by simp[go_sem])) (by simp[go_sem]) (by simp[go_sem]) (hu) (by simp[go_sem]) (by simp[go_sem]) ?_
   repeat' (first|refine zHg ?_|(refine(hAA.next (i+1) (Le.renSub [(11001,900)] [(900,11001)] (by simp[go_sem,hnx]) (by simp[go_sem,hnx]) (Le.sub4 rfl (by simp[go_sem,hnx]))) (by(try dsimp only);omega) ?_))|simp(disch:=omega) [go_sem,hlt])
   all_goals(first|omega|skip)
   exact⟨hlt⟩
  ·obtain rfl:i=ts.length:=by omega
   generalize fU [] ts ts.length=Y at*
   repeat' (first|(refine aC fun _ _=>?_)|refine zHg ?_|(refine aT [] ?_;simp[go_sem])|simp(disch:=omega) [go_sem])
def mF (h:Tm) (bs:List Lt) (i:Nat):List ByteArray:=fU ((cX h).foldl dQ []) (bs.map Lt.atom) i
theorem cIs (r:Rl):mF r.head r.body r.body.length=bQ r:=by
 unfold mF fU bQ kR jJ
 rw[List.take_of_length_le (by rw[List.length_map];exact Nat.le_refl _),←List.foldl_append]
 rfl
theorem cIt {h:Tm} {bs:List Lt} {i:Nat} (hi:i<bs.length):mF h bs (i+1)=(cX bs[i].atom).foldl dQ (mF h bs i):=by
 unfold mF
 rw[Z5 (by rw[List.length_map];exact hi),List.getElem_map]
theorem aHt (l acc:List ByteArray):(l.foldl dQ acc).length≤acc.length+l.length:=by
 have h1:=uF (acc:=acc) (l:=l) l.length
 rw[zA]at h1;exact h1
theorem cIu (r:Rl) (hh:r.head.size≤20) (hl:r.body.length≤12) (hb: ∀b∈r.body,b.atom.size≤20):ACall prog 42 [bN r] (fun v=>v= .own 1 ((bQ r).map aI)):=by
 rw[←cIs]
 obtain⟨h,bs⟩:=r
 dsimp only at*
 have h1:=cIr h (by omega)
 have e0:(cX h).foldl dQ []=mF h bs 0:=rfl
 have hz0:(mF h bs 0).length≤20:=by
  have:=aHt (cX h) []
  have:=zH h
  rw[←e0];simp at*;omega
 rw[e0]at h1
 refine bD func42 call42 rfl (by simp[ntmps42]) ?_;simp only[ntmps42,results42]
 repeat' (first|(refine aC fun _ _=>?_)|refine zHg ?_|refine aP rfl (h1) (by simp) ?_|simp(disch:=omega) [go_sem])
 refine bR [1] [900,7] (fun i:Nat=> [(4,nt .i64 i),(3,.ref 900 0 (mF h bs i).length)]) (fun i:Nat=> [(900,uM (mF h bs i))]) (fun i:Nat=>bs.length - i) (fun i:Nat=>i≤bs.length∧(mF h bs i).length≤20+20*i) (0) (Le.renSub [(7,900)] [(900,7)] (by simp[go_sem]) (by simp[go_sem]) (Le.sub4 rfl (by simp[go_sem]))) ⟨?_⟩ ?_
 ·exact⟨Nat.zero_le _,by omega⟩
 intro i ⟨hi,hln⟩ AA hAA;simp only[kL,Nat.reduceBEq,Nat.reduceEqDiff,if_true,if_false,List.cons_append,List.nil_append,List.append_nil]
 by_cases hlt:i<bs.length
 ·have hnx:=cIt (h:=h) hlt
  have hbz:=hb _ (List.getElem_mem hlt)
  have hu:=aHs bs[i].atom (by omega) (mF h bs i) (by omega)
  have hle:=aHt (cX bs[i].atom) (mF h bs i)
  have hls:=zH bs[i].atom
  generalize mF h bs i=X at*
  generalize(cX bs[i].atom).foldl dQ X=Y at*
  repeat' (first|(refine aC fun _ _=>?_)|refine zHg ?_|simp(disch:=omega) [go_sem,hlt])
  refine bC [(1000,900)] [(900,1000)] 10000 _ _ (Fits.mk' (by simp[go_sem]) (by simp[go_sem])) (by simp[go_sem]) (by simp[go_sem]) (hu) (by simp[go_sem]) (by simp[go_sem]) ?_
  repeat' (first|refine zHg ?_|(refine(hAA.next (i+1) (Le.renSub [(11001,900)] [(900,11001)] (by simp[go_sem,hnx]) (by simp[go_sem,hnx]) (Le.sub4 rfl (by simp[go_sem,hnx]))) (by(try dsimp only);omega) ?_))|simp(disch:=omega) [go_sem,hlt])
  all_goals(first|omega|skip)
  exact⟨hlt,by rw[hnx];omega⟩
 ·obtain rfl:i=bs.length:=by omega
  generalize mF h bs bs.length=Y at*
  repeat' (first|(refine aC fun _ _=>?_)|refine zHg ?_|(refine aT [] ?_;simp[go_sem])|simp(disch:=omega) [go_sem])
set_option maxHeartbeats 16000000
set_option maxHeartbeats 8000000
def wG (a b:Rl):Bool:=if dB a=0 then(if dB b=0 then decide (dJ (iD a) (iD b)=0)else false)else false
def wH (a b:Rl):Int:=if dB a=0 then(if dB b=0 then 0 else dB b)else dB a
theorem Z6 (a b:Rl) (ha:SzR a) (hb:SzR b):ACall prog 16 [bN a,bN b] (fun v=>v= .tup [bl (wG a b),nt .i64 (wH a b)]):=by
 have h1:=sQ a ha
 have h2:=sQ b hb
 have h3:=qA (iD a) (iD b) false false false false
 unfold wG wH
 generalize iD a=x at*
 generalize iD b=y at*
 generalize dB a=e at*
 generalize dB b=f at*
 generalize dJ x y=c at*
 by_cases he:e=0
 ·subst he
  by_cases hf:f=0
  ·subst hf
   simp only[if_true]
   refine bD func16 call16 rfl (by simp[ntmps16]) ?_;simp only[ntmps16,results16]
   repeat' (first|(refine aC fun _ _=>?_)|refine zHg ?_|(refine aT [] ?_;simp[go_sem])|refine aP rfl (h1) (by simp) ?_|refine aP rfl (h2) (by simp) ?_|refine aP rfl (h3) (by simp) ?_|simp(disch:=omega) [go_sem])
  ·simp only[if_true,if_neg hf]
   refine bD func16 call16 rfl (by simp[ntmps16]) ?_;simp only[ntmps16,results16]
   repeat' (first|(refine aC fun _ _=>?_)|refine zHg ?_|(refine aT [] ?_;simp[go_sem,hf])|refine aP rfl (h1) (by simp) ?_|refine aP rfl (h2) (by simp) ?_|simp(disch:=omega) [go_sem,hf])
 ·simp only[if_neg he]
  refine bD func16 call16 rfl (by simp[ntmps16]) ?_;simp only[ntmps16,results16]
  repeat' (first|(refine aC fun _ _=>?_)|refine zHg ?_|(refine aT [] ?_;simp[go_sem,he])|refine aP rfl (h1) (by simp) ?_|simp(disch:=omega) [go_sem,he])
instance:DecidableEq Lt:=fun a b=>decidable_of_iff (bU a b=0) (oV.zero a b)
instance:DecidableEq Rl:=fun a b=>decidable_of_iff (dJ a b=0) (qZ.zero a b)
theorem aHu (a b:Rl) (hl:a.body.length≤1000000):ACall prog 18 [bN a,bN b] (fun v=>v=bl (decide (a=b))):=by
 obtain⟨h,ys⟩:=a
 obtain⟨g,bs⟩:=b
 dsimp only at hl
 have h1:=V3 h g
 generalize hV:decide ((⟨h,ys⟩:Rl)=⟨g,bs⟩)=V
 cases q1:nX h g
 ·rw[q1]at h1
  have hu:V=false:=by
   rw[←hV,decide_eq_false_iff_not]
   intro e
   have e1:=congrArg Rl.head e
   rw[(sI h g).2 e1]at q1
   cases q1
  subst hu
  refine bD func18 call18 rfl (by simp[ntmps18]) ?_;simp only[ntmps18,results18]
  repeat' (first|(refine aC fun _ _=>?_)|refine zHg ?_|(refine aT [] ?_;simp[go_sem])|refine aP rfl (h1) (by simp) ?_|simp(disch:=omega) [go_sem])
 ·rw[q1]at h1
  have hh:=(sI h g).1 q1
  subst hh
  by_cases hn:ys.length=bs.length
  ·have hn': ¬(ys.length:Int)≠bs.length:=by omega
   refine bD func18 call18 rfl (by simp[ntmps18]) ?_;simp only[ntmps18,results18]
   repeat' (first|(refine aC fun _ _=>?_)|refine zHg ?_|refine aP rfl (h1) (by simp) ?_|simp(disch:=omega) [go_sem,hn])
   all_goals(first|(exfalso;omega)|skip)
   refine bR [2,3,23] [] (fun i:Nat=> [(24,nt .i64 i)]) (fun i:Nat=> []) (fun i:Nat=>bs.length - i) (fun i:Nat=>i≤bs.length∧ ∀(k:Nat) (hk:k<ys.length) (hk':k<bs.length),k<i→ys[k]=bs[k]) (0) (Le.sub4 rfl (by simp[go_sem])) ⟨?_⟩ ?_
   ·exact⟨Nat.zero_le _,fun k _ _ hk=>absurd hk (Nat.not_lt_zero _)⟩
   intro i ⟨hi,hs⟩ AA hAA;simp only[kL,Nat.reduceBEq,Nat.reduceEqDiff,if_true,if_false,List.cons_append,List.nil_append,List.append_nil]
   by_cases hlt:i<bs.length
   ·have hla:i<ys.length:=by omega
    have h2:=V3 ys[i].atom bs[i].atom
    by_cases hq:ys[i]=bs[i]
    ·have hneg:ys[i].neg=bs[i].neg:=by rw[hq]
     rw[hq,(sI _ _).2 rfl]at h2
     rw[←hq]at h2
     have h2':=h2
     rw[hq]at h2'
     repeat' (first|(refine aC fun _ _=>?_)|refine zHg ?_|refine cP rfl (h2') rfl (by simp) ?_|(refine(hAA.next (i+1) (Le.sub4 rfl (by simp[go_sem])) (by(try dsimp only);omega) ?_))|simp(disch:=omega) [go_sem,hlt,hla,hq]|refine zDr 29 bE ?_|fail)
     all_goals(first|omega|skip)
     all_goals exact⟨hlt,fun k hk hk' hki=>by rcases Nat.lt_or_eq_of_le (Nat.le_of_lt_succ hki)with h|rfl;exact hs k hk hk' h;exact hq⟩
    ·have hu:V=false:=by
      rw[←hV,decide_eq_false_iff_not]
      intro e
      have e2:=congrArg Rl.body e
      dsimp only at e2
      subst e2
      exact hq rfl
     subst hu
     clear hs hV
     by_cases hneg:ys[i].neg=bs[i].neg
     ·have hat:nX ys[i].atom bs[i].atom=false:=by
       rw[Bool.eq_false_iff]
       intro e
       apply hq
       have e3:=(sI _ _).1 e
       generalize ys[i]=x at*
       generalize bs[i]=y at*
       cases x;cases y
       dsimp only at hneg e3
       rw[hneg,e3]
      rw[hat]at h2
      repeat' (first|(refine aC fun _ _=>?_)|refine zHg ?_|(refine aT [] ?_;simp[go_sem,hlt,hla,hneg])|refine cP rfl (h2) rfl (by simp) ?_|simp(disch:=omega) [go_sem,hlt,hla,hneg]|refine zDr 29 bE ?_|fail)
     ·repeat' (first|(refine aC fun _ _=>?_)|refine zHg ?_|(refine zdn ?_ ?_<;>(intro h;first|(simp only[h,zT])|skip))|(refine aT [] ?_;simp[go_sem,hlt,hla,hneg])|simp(disch:=omega) [go_sem,hlt,hla,hneg]|refine zDr 29 bE ?_|fail)
      all_goals exact absurd (by assumption) hneg
   ·obtain rfl:i=bs.length:=by omega
    have hu:V=true:=by
     rw[←hV,decide_eq_true_eq]
     congr 1
     exact List.ext_getElem hn fun k h1 h2=>hs k h1 h2 h2
    subst hu
    repeat' (first|(refine aC fun _ _=>?_)|refine zHg ?_|(refine aT [] ?_;simp[go_sem])|simp(disch:=omega) [go_sem])
  ·have hu:V=false:=by
    rw[←hV,decide_eq_false_iff_not]
    intro e
    exact hn (congrArg (fun z:Rl=>z.body.length) e)
   subst hu
   refine bD func18 call18 rfl (by simp[ntmps18]) ?_;simp only[ntmps18,results18]
   repeat' (first|(refine aC fun _ _=>?_)|refine zHg ?_|(refine zqn ?_ ?_<;>(intro h;first|(exfalso;omega)|(simp only[h,zT])))|(refine aT [] ?_;simp[go_sem,hn])|refine aP rfl (h1) (by simp) ?_|simp(disch:=omega) [go_sem,hn])
   all_goals(first|(exfalso;omega)|skip)
theorem aHv {s:ByteArray} {p q r:Int×Int} (h:kO s p q r=true) (hp:40≤p.1) (hq:40≤q.1) (hr:40≤r.1): ∀b∈cV s,40≤b.toNat:=by
 intro b hb
 obtain⟨i,hi,he⟩:=zF hb
 have:=(Y0 h).2.2 i hi
 omega
theorem aHw {s:ByteArray} (h:pT s=true∨cA s=true): ∀b∈cV s,40≤b.toNat:=by
 intro b hb
 rcases h with h|h
 ·unfold pT at h
  rw[Bool.or_eq_true]at h
  rcases h with h|h
  ·unfold lI at h
   simp only[Bool.and_eq_true]at h
   exact aHv h.1.1.1 (by decide) (by decide) (by decide) b hb
  ·unfold fZ at h
   split at h
   ·rename_i hc
    obtain⟨_,hd⟩:=hc
    unfold mA at hd
    simp only[List.all_eq_true,List.mem_range,decide_eq_true_eq]at hd
    obtain⟨i,hi,he⟩:=zF hb
    have:=hd i hi
    omega
   ·cases h
 ·unfold cA at h
  exact aHv h (by decide) (by decide) (by decide) b hb
theorem K2: ∀t:Tm,∀lv:Int,eW lv true t=true→ ∀b∈cK t,40≤b.toNat:=by
 refine dS fun t ih lv h b hb=>?_
 obtain⟨s,ts⟩:=t
 simp only[cT]at ih
 rw[tW]at h
 split at h
 ·cases h
 ·rw[nZ]at hb
  split at h
  ·rename_i h0
   rw[if_pos h0]at hb
   simp only[Bool.true_and,Bool.or_eq_true]at h
   exact aHw h b hb
  ·rename_i h0
   rw[if_neg h0]at hb
   rw[Bool.and_eq_true,Z3,List.all_eq_true]at h
   have hS: ∀l:List Tm,(∀t∈l,∀b∈cK t,40≤b.toNat)→ ∀b∈cZ l,40≤b.toNat:=by
    intro l
    induction l with
    |nil=>intro _ b hb;simp[cZ]at hb
    |cons t q ihq=>
     intro hl b hb
     simp only[cZ,List.mem_cons,List.mem_append]at hb
     rcases hb with rfl|hb|hb
     ·decide
     ·exact hl t (by simp) b hb
     ·exact ihq (fun u hu=>hl u (by simp[hu])) b hb
   rw[List.mem_append,List.mem_cons,List.mem_append,List.mem_singleton]at hb
   rcases hb with hb|rfl|hb|rfl
   ·exact aHw (.inl (by unfold pT;rw[h.1];rfl)) b hb
   ·decide
   ·exact hS ts (fun t ht=>ih t ht _ (h.2 t ht)) b (List.mem_of_mem_tail hb)
   ·decide
def gB:List Lt→List UInt8
 | []=> []
 |b::q=>(if b.neg=true then[32,110,111,116]else[])++32::(cK b.atom++gB q)
def wI (r:Rl):List UInt8:=cK r.head++gB r.body
def K3 (l:List UInt8):Prop:=l= []∨ ∃q,l=32::q
theorem wJ (l:List Lt):K3 (gB l):=by
 cases l with
 |nil=>exact .inl rfl
 |cons b q=>
  refine .inr ?_
  unfold gB
  split
  ·exact⟨[110,111,116]++32::(cK b.atom++gB q),rfl⟩
  ·exact⟨cK b.atom++gB q,rfl⟩
theorem zN: ∀{a b x y:List UInt8},(∀c∈a,40≤c.toNat)→(∀c∈b,40≤c.toNat)→K3 x→K3 y→a++x=b++y→a=b∧x=y
 | [],[],_,_,_,_,_,_,h=>⟨rfl,h⟩
 | [],d::b,x,y,_,hb,hx,_,h=>by
  rcases hx with rfl|⟨q,rfl⟩
  ·simp at h
  ·simp only[List.nil_append,List.cons_append,List.cons.injEq]at h
   have:=hb d (by simp)
   rw[←h.1]at this
   exact absurd this (by decide)
 |c::a,[],x,y,ha,_,_,hy,h=>by
  rcases hy with rfl|⟨q,rfl⟩
  ·simp at h
  ·simp only[List.nil_append,List.cons_append,List.cons.injEq]at h
   have:=ha c (by simp)
   rw[h.1]at this
   exact absurd this (by decide)
 |c::a,d::b,x,y,ha,hb,hx,hy,h=>by
  simp only[List.cons_append,List.cons.injEq]at h
  obtain⟨rfl,h⟩:=h
  obtain⟨rfl,rfl⟩:=zN (fun c hc=>ha c (by simp[hc])) (fun c hc=>hb c (by simp[hc])) hx hy h
  exact⟨rfl,rfl⟩
theorem aHx {t:Tm} (h:gN t=true):cK t≠ [110,111,116]:=by
 obtain⟨s,ts⟩:=t
 unfold gN at h
 rw[Bool.and_eq_true]at h
 intro e
 rw[nZ]at e
 have hn:=h.1
 split at e
 ·have:s=U8:=Y2 e
  unfold lI at hn
  have hn:lI s=true:=hn
  rw[this]at hn
  revert hn
  decide+kernel
 ·have hl:=congrArg List.reverse e
  simp[List.reverse_append]at hl
theorem aHy: ∀{a b:List Lt},(∀x∈a,gN x.atom=true)→(∀x∈b,gN x.atom=true)→gB a=gB b→a=b
 | [],[],_,_,_=>rfl
 | [],y::q,_,_,h=>by
  unfold gB at h
  split at h<;>simp at h
 |x::p,[],_,_,h=>by
  unfold gB at h
  split at h<;>simp at h
 |x::p,y::q,ha,hb,h=>by
  have hx:=ha x (by simp)
  have hy:=hb y (by simp)
  have wx:eW 4 true x.atom=true:=by unfold gN at hx;rw[Bool.and_eq_true]at hx;exact hx.2
  have wy:eW 4 true y.atom=true:=by unfold gN at hy;rw[Bool.and_eq_true]at hy;exact hy.2
  have gx:=K2 _ _ wx
  have gy:=K2 _ _ wy
  have gn: ∀c∈([110,111,116]:List UInt8),40≤c.toNat:=by decide
  have fin:x.neg=y.neg→cK x.atom++gB p=cK y.atom++gB q→x::p=y::q:=fun e1 e2=>by
   obtain⟨e3,e4⟩:=zN gx gy (wJ p) (wJ q) e2
   have e5:=(aGp wx wy).1 e3
   have e6:=aHy (fun z hz=>ha z (by simp[hz])) (fun z hz=>hb z (by simp[hz])) e4
   rw[e6]
   congr 1
   cases x;cases y
   dsimp only at e1 e5
   rw[e1,e5]
  have hs: ∀(t:Tm) (l:List Lt),K3 (32::(cK t++gB l)):=fun t l=> .inr ⟨_,rfl⟩
  unfold gB at h
  cases hnx:x.neg<;>cases hny:y.neg<;>rw[hnx,hny]at h
  ·simp only[Bool.false_eq_true,if_false,List.nil_append,List.cons.injEq,true_and]at h
   exact fin (by rw[hnx,hny]) h
  ·simp only[Bool.false_eq_true,if_false,if_true,List.nil_append,List.cons_append,List.cons.injEq,true_and]at h
   obtain⟨e,_⟩:=zN (b:= [110,111,116]) gx gn (wJ p) (hs _ _) h
   exact absurd e (aHx hx)
  ·simp only[Bool.false_eq_true,if_false,if_true,List.nil_append,List.cons_append,List.cons.injEq,true_and]at h
   obtain⟨e,_⟩:=zN (a:= [110,111,116]) gn gy (hs _ _) (wJ q) h
   exact absurd e.symm (aHx hy)
  ·simp only[if_true,List.cons_append,List.nil_append,List.cons.injEq,true_and]at h
   exact fin (by rw[hnx,hny]) h
theorem cIv {a b:Rl} (ha:pB a=true) (hb:pB b=true) (h:wI a=wI b):a=b:=by
 obtain⟨_,a2,a3⟩:=uL.1 ha
 obtain⟨_,b2,b3⟩:=uL.1 hb
 have wa:eW 4 true a.head=true:=by unfold gN at a2;rw[Bool.and_eq_true]at a2;exact a2.2
 have wb:eW 4 true b.head=true:=by unfold gN at b2;rw[Bool.and_eq_true]at b2;exact b2.2
 unfold wI at h
 obtain⟨e1,e2⟩:=zN (K2 _ _ wa) (K2 _ _ wb) (wJ _) (wJ _) h
 have e3:=(aGp wa wb).1 e1
 have e4:=aHy a3 b3 e2
 cases a;cases b
 dsimp only at e3 e4
 rw[e3,e4]
theorem cIw {t:Tm} (h:gN t=true):cK t≠ []:=by
 obtain⟨s,ts⟩:=t
 unfold gN at h
 rw[Bool.and_eq_true]at h
 intro e
 rw[nZ]at e
 have hw:=(Y1 h.1).1
 split at e
 ·have h0:(cV s).length=0:=by rw[e];rfl
  rw[oY]at h0
  have hs:(Tm.mk s ts).name=s:=rfl
  rw[hs]at hw
  omega
 ·simp at e
theorem aHz: ∀a b:List Lt,gB (a++b)=gB a++gB b
 | [],_=>rfl
 |x::a,b=>by
  rw[List.cons_append,gB,gB,aHz a b]
  simp
def fE (r:Rl):ByteArray:=⟨(wI r).toArray⟩
def gO (h:Tm) (bs:List Lt) (i:Nat):List UInt8:=cK h++gB (bs.take i)
theorem Z7 (h:Tm) (bs:List Lt):gO h bs 0=cK h:=by unfold gO;simp[gB]
theorem cIx (h:Tm) (bs:List Lt):gO h bs bs.length=wI ⟨h,bs⟩:=by unfold gO wI;rw[List.take_length]
theorem aH0 {h:Tm} {bs:List Lt} {i:Nat} (hi:i<bs.length):gO h bs (i+1)=if bs[i].neg=true then(gO h bs i++ [32,110,111,116])++(32::cK bs[i].atom)else gO h bs i++(32::cK bs[i].atom):=by
 unfold gO
 rw[iT hi,aHz]
 have e:gB [bs[i]]=(if bs[i].neg=true then[32,110,111,116]else[])++32::cK bs[i].atom:=by
  unfold gB
  have e0:gB []= []:=rfl
  rw[e0,List.append_nil]
 rw[e]
 split<;>simp
theorem cIy (a b:ByteArray):cV (a++b)=cV a++cV b:=by
 unfold cV
 rw[ByteArray.data_append,Array.toList_append]
theorem K4 (t:Tm):cV (kS t)=cK t:=by unfold cV kS;rfl
abbrev bxS (n:Nat):AObj:=⟨false,false,false,2,[.agg [.ptr 3 0 0,.ref 1001 0 n]],124+2⟩
abbrev rwS (l:List UInt8):AObj:=⟨true,false,false,1,l.map eC,5+2⟩
theorem cI1 (r:Rl) (hv:pB r=true) (hz:SzR r):ACall prog 50 [bN r] (fun v=>v= .sc (.string (fE r))):=by
 obtain⟨h,bs⟩:=r
 obtain⟨_,v1,v2⟩:=uL.1 hv
 obtain⟨z1,z2,z3⟩:=hz
 dsimp only at*
 have w1:eW 4 true h=true:=by unfold gN at v1;rw[Bool.and_eq_true]at v1;exact v1.2
 have l1:=aGq h 4 w1
 have hbt: ∀(i:Nat) (hi:i<bs.length),(cK bs[i].atom).length+1≤400:=fun i hi=>by
  have q:=v2 _ (List.getElem_mem hi)
  have z:=z3 _ (List.getElem_mem hi)
  have w:eW 4 true bs[i].atom=true:=by unfold gN at q;rw[Bool.and_eq_true]at q;exact q.2
  have:=aGq _ 4 w
  omega
 have hlen: ∀i,i≤bs.length→(gO h bs i).length≤400+410*i:=by
  intro i
  induction i with
  |zero=>intro _;rw[Z7];omega
  |succ i ih=>
   intro hi
   have h1:=ih (by omega)
   have h2:=hbt i (by omega)
   rw[aH0 (by omega)]
   split<;>simp<;>omega
 obtain⟨c,q,hcq⟩: ∃c q,cK h=c::q:=by
  cases e:cK h with
  |nil=>exact absurd e (cIw v1)
  |cons c q=>exact⟨c,q,rfl⟩
 have ht1:=aGl h (by omega)
 have hs1:=X1 (kS h) (by
  have e:=oY (kS h)
  rw[K4]at e
  omega) c q (by rw[K4];exact hcq)
 have hz0:gO h bs 0=c::q:=by rw[Z7];exact hcq
 have hR:fE ⟨h,bs⟩=⟨(gO h bs bs.length).toArray⟩:=by unfold fE;rw[cIx]
 rw[hR]
 generalize kS h=s1 at*
 clear v1 v2 w1 hcq hR hv
 refine bD func50 call50 rfl (by simp[ntmps50]) ?_;simp only[ntmps50,results50]
 repeat' (first|(refine aC fun _ _=>?_)|refine zHg ?_|refine aP rfl (ht1) (by simp) ?_|simp(disch:=omega) [go_sem])
 refine bC [(1000,3)] [(3,1000)] 10000 _ _ (Fits.mk' (by simp[go_sem]) (by simp[go_sem])) (by simp[go_sem]) (by simp[go_sem]) (hs1) (by simp[go_sem]) (by simp[go_sem]) ?_
 repeat' (first|(refine aC fun _ _=>?_)|refine zHg ?_|simp(disch:=omega) [go_sem])
 refine bR [3,11,12] [3,1001,11001] (fun i:Nat=> [(13,nt .i64 i)]) (fun i:Nat=> [(3,bxS (gO h bs i).length),(1001,rwS (gO h bs i))]) (fun i:Nat=>bs.length - i) (fun i:Nat=>i≤bs.length) (0) (Le.renSub [(11001,1001)] [(1001,11001)] (by simp[go_sem,hz0]) (by simp[go_sem,hz0]) (Le.sub4 rfl (by simp[go_sem,hz0]))) ⟨?_⟩ ?_
 ·exact Nat.zero_le _
 intro i hi AA hAA;simp only[kL,Nat.reduceBEq,Nat.reduceEqDiff,if_true,if_false,List.cons_append,List.nil_append,List.append_nil]
 have hPl:=hlen i hi
 by_cases hlt:i<bs.length
 ·have hbl:=hbt i hlt
  have hnx:=aH0 (h:=h) hlt
  have ht:=aGl bs[i].atom (by omega)
  have hbx:cV ((⟨#[32]⟩:ByteArray)++kS bs[i].atom)=32::cK bs[i].atom:=by rw[cIy,K4];rfl
  have hsz:((⟨#[32]⟩:ByteArray)++kS bs[i].atom).size≤1000:=by
   have e:=oY ((⟨#[32]⟩:ByteArray)++kS bs[i].atom)
   rw[hbx,List.length_cons]at e
   omega
  have hst:(kS bs[i].atom).size≤1000:=by
   have e:=oY (kS bs[i].atom)
   rw[K4]at e
   omega
  clear hlen hbt
  cases hn:bs[i].neg
  ·rw[hn]at hnx
   simp only[Bool.false_eq_true,if_false]at hnx
   have hw:=zE (gO h bs i) ((⟨#[32]⟩:ByteArray)++kS bs[i].atom) (by omega)
   rw[hbx]at hw
   generalize gO h bs i=P at*
   generalize kS bs[i].atom=w at*
   generalize cK bs[i].atom=x at*
   repeat' (first|(refine aC fun _ _=>?_)|refine zHg ?_|refine aP rfl (ht) (by simp) ?_|simp(disch:=omega) [go_sem,hlt,hn]|refine zAo ?_|fail)
   refine bC [(1000,3)] [(3,1000)] 20000 _ _ (Fits.mk' (by simp[go_sem]) (by simp[go_sem])) (by simp[go_sem]) (by simp[go_sem]) (hw) (by simp[go_sem]) (by simp[go_sem]) ?_
   repeat' (first|refine zHg ?_|(refine(hAA.next (i+1) (Le.renSub [(21001,1001),(1001,21001)] [(1001,21001),(21001,1001)] (by simp[go_sem,hnx]) (by simp[go_sem,hnx]) (Le.sub4 rfl (by simp[go_sem,hnx]))) (by(try dsimp only);omega) ?_))|simp(disch:=omega) [go_sem,hlt,hn])
   all_goals(first|omega|skip)
   all_goals exact⟨hlt⟩
  ·rw[hn]at hnx
   simp only[if_true]at hnx
   have hw0:=zE (gO h bs i) ⟨#[32,110,111,116]⟩ (by
    have:(⟨#[32,110,111,116]⟩:ByteArray).size=4:=rfl
    omega)
   have e0:cV ⟨#[32,110,111,116]⟩= [32,110,111,116]:=rfl
   rw[e0]at hw0
   have hw:=zE (gO h bs i++ [32,110,111,116]) ((⟨#[32]⟩:ByteArray)++kS bs[i].atom) (by rw[List.length_append];simp only[List.length_cons,List.length_nil];omega)
   rw[hbx]at hw
   generalize hQ:gO h bs i++ [32,110,111,116]=Q at*
   generalize gO h bs i=P at*
   generalize kS bs[i].atom=w at*
   generalize cK bs[i].atom=x at*
   repeat' (first|(refine aC fun _ _=>?_)|refine zHg ?_|simp(disch:=omega) [go_sem,hlt,hn])
   refine bC [(1000,3)] [(3,1000)] 20000 _ _ (Fits.mk' (by simp[go_sem]) (by simp[go_sem])) (by simp[go_sem]) (by simp[go_sem]) (hw0) (by simp[go_sem]) (by simp[go_sem]) ?_
   repeat' (first|refine zHg ?_|refine aP rfl (ht) (by simp) ?_|simp(disch:=omega) [go_sem,hlt,hn]|refine zAo ?_|fail)
   refine bC [(1000,3),(1001,21001)] [(3,1000),(21001,1001)] 30000 _ _ (Fits.mk' (by simp[go_sem]) (by simp[go_sem])) (by simp[go_sem]) (by simp[go_sem]) (hw) (by simp[go_sem]) (by simp[go_sem]) ?_
   repeat' (first|refine zHg ?_|(refine(hAA.next (i+1) (Le.renSub [(31001,1001),(1001,31001)] [(1001,31001),(31001,1001)] (by simp[go_sem,hnx]) (by simp[go_sem,hnx]) (Le.sub4 rfl (by simp[go_sem,hnx]))) (by(try dsimp only);omega) ?_))|simp(disch:=omega) [go_sem,hlt,hn])
   all_goals(first|omega|skip)
   all_goals exact⟨hlt⟩
 ·obtain rfl:i=bs.length:=by omega
  have hne:gO h bs bs.length≠ []:=by
   unfold gO
   intro e
   rw[List.append_eq_nil_iff]at e
   rw[Z7,e.1]at hz0
   cases hz0
  have hsb:=aGi (gO h bs bs.length) hne (by omega)
  generalize gO h bs bs.length=P at*
  repeat' (first|(refine aC fun _ _=>?_)|refine zHg ?_|simp(disch:=omega) [go_sem])
  refine bC [(1000,3)] [(3,1000)] 20000 _ _ (Fits.mk' (by simp[go_sem]) (by simp[go_sem])) (by simp[go_sem]) (by simp[go_sem]) (hsb) (by simp[go_sem]) (by simp[go_sem]) ?_
  repeat' (first|refine zHg ?_|(refine aT [] ?_;simp[go_sem])|simp(disch:=omega) [go_sem])
theorem cI2 (a b:Tm):ACall prog 47 [eT a,eT b] (fun r=>r=bl (decide (a=b))):=by
 have h:=V3 a b
 have e:nX a b=decide (a=b):=by
  by_cases hab:a=b
  ·rw[decide_eq_true hab];exact(sI a b).2 hab
  ·rw[decide_eq_false hab]
   cases hq:nX a b
   ·rfl
   ·exact absurd ((sI a b).1 hq) hab
 rw[←e]
 exact h
def uN (ps ts:List Tm) (s:List Bd):Bool→List Bd×Bool
 |true=>jT ps ts s
 |false=>(s,false)
theorem cI3 {p:Tm} {ps:List Tm} {t:Tm} {ts:List Tm} {s:List Bd}:uN (p::ps) (t::ts) s true=uN ps ts (eX p t s).1 (eX p t s).2:=by
 show jT _ _ _=_
 rw[W0]
 generalize eX p t s=r
 obtain⟨a,b⟩:=r
 cases b<;>rfl
theorem cI4: ∀(p t:Tm) (s:List Bd),(eX p t s).1.length≤s.length+p.size:=by
 refine dS fun p ih t s=>?_
 obtain⟨n,ps⟩:=p
 simp only[cT]at ih
 rw[V9]
 have hp:=tV (.mk n ps)
 split
 ·cases fH s n with
  |some u=>show s.length≤_;omega
  |none=>show(s++ [⟨n,t⟩]:List Bd).length≤_;rw[List.length_append];simp;omega
 ·split
  ·rw[iA,cT]
   have: ∀(ps ts:List Tm) (s:List Bd),(∀p∈ps,∀(t:Tm) (s:List Bd),(eX p t s).1.length≤s.length+p.size)→(jT ps ts s).1.length≤s.length+cU ps:=by
    intro ps
    induction ps with
    |nil=>intro ts s _;rw[W1];simp
    |cons p ps ihp=>
     intro ts s hp
     cases ts with
     |nil=>rw[jT];simp
     |cons t ts=>
      have a2:=hp p (by simp) t s
      rw[W0,cU]
      split
      ·have:=ihp ts (eX p t s).1 fun q hq=>hp q (by simp[hq])
       omega
      ·omega
   have:=this ps t.args s ih
   omega
  ·simp
theorem cI5: ∀(p t:Tm) (s:List Bd),p.size≤1000000→s.length+p.size≤1000000→ACall prog 129 [eT p,eT t,.list false false (s.map bK)] (fun r=>r= .tup [.list false false ((eX p t s).1.map bK),bl (eX p t s).2]):=by
 refine dS fun p ih t s hz hs=>?_
 obtain⟨n,ps⟩:=p
 obtain⟨m,ts⟩:=t
 simp only[cT]at ih
 have hv:=aG3 (.mk n ps)
 rw[V9,yT,cT]
 cases hU:mX (.mk n ps)
 ·rw[hU]at hv
  simp only[Bool.false_eq_true,if_false]
  by_cases hc:n=m∧ps.length=ts.length
  ·rw[if_pos hc]
   obtain⟨rfl,hl⟩:=hc
   generalize hG:jT ps ts s=G
   refine bD func129 call129 rfl (by simp[ntmps129]) ?_;simp only[ntmps129,results129]
   repeat' (first|(refine aC fun _ _=>?_)|refine zHg ?_|refine aP rfl (hv) (by simp) ?_|simp(disch:=omega) [go_sem,hl])
   refine bR [3,4] [] (fun y:Nat×List Bd×Bool=> [(10,nt .i64 y.1),(2,.list false false (y.2.1.map bK)),(9,bl y.2.2)]) (fun y:Nat×List Bd×Bool=> []) (fun y:Nat×List Bd×Bool=>ts.length - y.1) (fun y:Nat×List Bd×Bool=>y.1≤ts.length∧y.2.1.length+cU (ps.drop y.1)≤1000000∧uN (ps.drop y.1) (ts.drop y.1) y.2.1 y.2.2=G) ((0,s,true)) (Le.sub4 rfl (by simp[go_sem])) ⟨?_⟩ ?_
   ·exact⟨Nat.zero_le _,by rw[List.drop_zero];rw[iA,cT]at hs;show s.length+cU ps≤_;omega,by rw[List.drop_zero,List.drop_zero];exact hG⟩
   intro⟨i,a,b⟩ ⟨hi,ha,hinv⟩ AA hAA;simp only[kL,Nat.reduceBEq,Nat.reduceEqDiff,if_true,if_false,List.cons_append,List.nil_append,List.append_nil]
   dsimp only at*
   have hlen:=sG ps
   rw[iA,cT]at hz
   by_cases hlt:i<ts.length
   ·have hlp:i<ps.length:=by omega
    cases b
    ·subst hinv
     repeat' (first|(refine aC fun _ _=>?_)|refine zHg ?_|(refine aT [] ?_;simp[go_sem,hlt,hlp,uN])|simp(disch:=omega) [go_sem,hlt,hlp,uN])
    ·rw[List.drop_eq_getElem_cons hlt,List.drop_eq_getElem_cons hlp,cI3]at hinv
     rw[List.drop_eq_getElem_cons hlp,cU]at ha
     have hsz:=vT hlp
     have hu:=ih ps[i] (List.getElem_mem hlp) ts[i] a (by omega) (by omega)
     have hbl:=cI4 ps[i] ts[i] a
     generalize eX ps[i] ts[i] a=x at*
     obtain⟨x,c⟩:=x
     dsimp only at*
     repeat' (first|(refine aC fun _ _=>?_)|refine zHg ?_|refine cP rfl (hu) rfl (by simp) ?_|(refine(hAA.next ((i+1,x,c)) (Le.sub4 rfl (by simp[go_sem])) (by(try dsimp only);omega) ?_))|simp(disch:=omega) [go_sem,hlt,hlp,hl]|refine zDr 17 bE ?_|fail)
     all_goals(first|omega|skip)
     exact⟨hlt,by show x.length+cU (ps.drop (i+1))≤_;omega,hinv⟩
   ·obtain rfl:i=ts.length:=by omega
    have hd:ps.drop ts.length= []:=by rw[←hl,List.drop_length]
    rw[hd,List.drop_length]at hinv
    cases b
    ·subst hinv
     repeat' (first|(refine aC fun _ _=>?_)|refine zHg ?_|(refine aT [] ?_;simp[go_sem,hl,uN])|simp(disch:=omega) [go_sem,hl,uN])
    ·have hinv:(a,true)=G:=by rw[←hinv];show _=jT _ _ _;rw[W1]
     subst hinv
     repeat' (first|(refine aC fun _ _=>?_)|refine zHg ?_|(refine aT [] ?_;simp[go_sem,hl])|simp(disch:=omega) [go_sem,hl])
  ·rw[if_neg hc]
   refine ACall.looseT (x:= .list false true []) rfl ?_
   by_cases h1:n=m
   ·have h2: ¬ps.length=ts.length:=fun h=>hc ⟨h1,h⟩
    subst h1
    refine bD func129 call129 rfl (by simp[ntmps129]) ?_;simp only[ntmps129,results129]
    repeat' (first|(refine aC fun _ _=>?_)|refine zHg ?_|(refine zqn ?_ ?_<;>(intro h;first|(exfalso;omega)|(simp only[h,zT])))|(refine aT [] ?_;simp[go_sem,h2])|refine aP rfl (hv) (by simp) ?_|simp(disch:=omega) [go_sem,h2])
   ·refine bD func129 call129 rfl (by simp[ntmps129]) ?_;simp only[ntmps129,results129]
    repeat' (first|(refine aC fun _ _=>?_)|refine zHg ?_|(refine aT [] ?_;simp[go_sem,h1])|refine aP rfl (hv) (by simp) ?_|simp(disch:=omega) [go_sem,h1])
 ·rw[hU]at hv
  simp only[if_true]
  clear ih
  have h0:=tV (.mk n ps)
  generalize hR:uC s n (.mk m ts) (fH s n)=R
  refine bD func129 call129 rfl (by simp[ntmps129]) ?_;simp only[ntmps129,results129]
  repeat' (first|(refine aC fun _ _=>?_)|refine zHg ?_|refine aP rfl (hv) (by simp) ?_|simp(disch:=omega) [go_sem])
  refine bR [2,3,4,14] [3,4] (fun i:Nat=> [(15,nt .i64 i)]) (fun i:Nat=> [(3,⟨false,true,false,2,[eT (.mk n ps)],0⟩),(4,⟨false,true,false,2,[eT (.mk m ts)],0⟩)]) (fun i:Nat=>s.length - i) (fun i:Nat=>i≤s.length∧ ∀(k:Nat) (hk:k<s.length),k<i→ ¬s[k].v=n) (0) (by refine Le.trans ?_ (Le.frz 3 rfl (by show(0:Nat)≠1;decide));exact(by refine Le.trans ?_ (Le.frz 4 rfl (by show(0:Nat)≠1;decide));exact(Le.sub4 rfl (by simp[go_sem])))) ⟨?_⟩ ?_
  ·exact⟨Nat.zero_le _,fun k _ hk=>absurd hk (Nat.not_lt_zero _)⟩
  intro i ⟨hi,hn⟩ AA hAA;simp only[kL,Nat.reduceBEq,Nat.reduceEqDiff,if_true,if_false,List.cons_append,List.nil_append,List.append_nil]
  by_cases hlt:i<s.length
  ·by_cases hq:s[i].v=n
   ·rw[J8 hlt hq hn]at hR
    subst hR
    have hu:=cI2 s[i].t (.mk m ts)
    repeat' (first|(refine aC fun _ _=>?_)|refine zHg ?_|(refine aT [] ?_;simp[go_sem,hlt,hq,uC])|refine cP rfl (hu) rfl (by simp) ?_|simp(disch:=omega) [go_sem,hlt,hq,uC]|refine zDr 8 bE ?_|fail)
   ·repeat' (first|(refine aC fun _ _=>?_)|refine zHg ?_|(refine(hAA.next (i+1) (Le.sub4 rfl (by simp[go_sem])) (by(try dsimp only);omega) ?_))|simp(disch:=omega) [go_sem,hlt,hq]|refine zDr 8 bE ?_|fail)
    all_goals(first|omega|skip)
    exact⟨hlt,fun k hk hki=>by rcases Nat.lt_or_eq_of_le (Nat.le_of_lt_succ hki)with h|rfl;exact hn k hk h;exact hq⟩
  ·obtain rfl:i=s.length:=by omega
   rw[J9 hn]at hR
   subst hR
   repeat' (first|(refine aC fun _ _=>?_)|refine zHg ?_|(refine aT [35] ?_;simp[go_sem,uC])|simp(disch:=omega) [go_sem,uC]|refine zAo ?_|refine zAny bE ?_|refine gH ?_|refine zDone ?_|refine bI 1 rfl (by decide+kernel) (by decide+kernel) rfl rfl rfl ?_|refine bI 3 rfl (by decide+kernel) (by decide+kernel) rfl rfl rfl ?_|refine bI 4 rfl (by decide+kernel) (by decide+kernel) rfl rfl rfl ?_|refine bI 5 rfl (by decide+kernel) (by decide+kernel) rfl rfl rfl ?_|refine bI 9 rfl (by decide+kernel) (by decide+kernel) rfl rfl rfl ?_|refine bI 10 rfl (by decide+kernel) (by decide+kernel) rfl rfl rfl ?_|(refine zAll ?_;show eN _ _ _ _ _ _ _)|exact gI|refine zSkip ?_|refine gJ rfl ?_ ?_)
end Go.Proofs.YtkbglbcphjmiiaaGreatDoor
