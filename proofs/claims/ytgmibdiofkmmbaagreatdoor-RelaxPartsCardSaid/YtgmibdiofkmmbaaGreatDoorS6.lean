import Derived.Test.YtgmibdiofkmmbaaGreatDoorS5
import Derived.ChangeMaps5
import Derived.SevenTiedAt
import Derived.LaidMore
import Derived.LaidLaws
import Derived.Handed
set_option linter.all false
open Go.Proofs.Tryz
namespace Go.Proofs.YtgmibdiofkmmbaaGreatDoor
open Go.Ab
variable [Glob prog]
set_option maxRecDepth 100000
set_option maxHeartbeats 16000000
theorem dI1 (p t:Tm) (s:List Bd) (fu:Bool) (h1:p.size<=1000000) (h2:s.length+p.size<=1000000):ACall prog 126 [.list false fu (s.map jK),eT p,eT t] (fun r=>r= .tup [.list false false ((jC p t s).1.map jK),bl (jC p t s).2]):=by
 have h:=aS3 (p.size+1) p t s (Nat.lt_succ_self _) h1 h2
 cases fu
 ·exact h
 ·refine h.args rfl fun F i a b v ha hb hv=>?_
  match i with
  |0=>
   simp only[List.getElem?_cons_zero,Option.some.injEq]at ha hb
   subst ha;subst hb
   exact hv.loose1
  |1=>
   simp only[List.getElem?_cons_succ,List.getElem?_cons_zero,Option.some.injEq]at ha hb
   subst ha;subst hb
   exact hv
  |2=>
   simp only[List.getElem?_cons_succ,List.getElem?_cons_zero,Option.some.injEq]at ha hb
   subst ha;subst hb
   exact hv
  |_+3=>simp at ha
abbrev bV:AV:= .clo 75 [.ptr 1003 0 0,.ptr 1004 0 0]
abbrev cJ:AV:= .clo 124 [.ptr 1005 0 0,.ptr 1006 0 0,.ptr 1007 0 0,.ptr 1008 0 0]
abbrev bW (gs:uY):AObj:=⟨true,false,true,0,gs.map (dS aP),1⟩
abbrev cC (p:Bool) (gs:uY) (r:Rl) (d:Bool) (O:List Tm):aK:=(1005,bM 3 (fP r))::(1006,bM 1 bV)::(1007,bM 1 cJ)::(1008,bM 1 (.mp 1009))::(1009,bW gs)::bN p r d O
def C3 (r:Rl) (q:Bool×List Tm) (s:List Bd):Bool×List Tm:=(tK q.1 (eU s r.head),fE (eU s r.head) q.2)
def jD (r:Rl) (q:Bool×List Tm) (S:List (List Bd)):Bool×List Tm:=S.foldl (C3 r) q
theorem dI2 {r:Rl} {q:Bool×List Tm}:jD r q []=q:=rfl
theorem dI3 {r:Rl} {q:Bool×List Tm} {s:List Bd}:jD r q [s]=C3 r q s:=rfl
theorem dI4 {r:Rl} {q:Bool×List Tm} {S T:List (List Bd)}:jD r q (S++T)=jD r (jD r q S) T:=List.foldl_append
theorem dI5 {O:List Tm} {t:Tm} (h:gI O):gI (fE t O):=aFp h
theorem aGv (t:Tm): ∀O:List Tm,(fE t O).length<=O.length+1
 | []=>by simp[fE]
 |u::r=>by
  have:=aGv t r
  unfold fE
  repeat' split
  all_goals(simp;try omega)
theorem aTc {r:Rl}: ∀{S:List (List Bd)} {q:Bool×List Tm},gI q.2->gI (jD r q S).2/\(jD r q S).2.length<=q.2.length+S.length
 | [],q,h=>⟨h,Nat.le_refl _⟩
 |s::S,q,h=>by
  obtain⟨h1,h2⟩:=aTc (r:=r) (S:=S) (q:=C3 r q s) (dI5 h)
  refine⟨h1,Nat.le_trans h2 ?_⟩
  have:=aGv (eU s r.head) q.2
  show(fE (eU s r.head) q.2).length+S.length<=q.2.length+(S.length+1)
  omega
def lI (A:List Tm) (r:Rl) (i:Nat) (s:List Bd):List (List Bd):=(yQ A (r.body.drop i) s).filter (yR r)
theorem dI6 {A:List Tm} {r:Rl} {s:List Bd} {i:Nat} (h:i=r.body.length):lI A r i s=if yR r s=true then[s]else[]:=by
 unfold lI
 rw[List.drop_eq_nil_of_le (by omega),yQ]
 cases h:yR r s<;>simp[h]
theorem dI7 {A:List Tm} {r:Rl} {s:List Bd} {i:Nat} (h:i<r.body.length) (hb:jW r.body[i]=false):lI A r i s=lI A r (i+1) s:=by
 unfold lI
 rw[List.drop_eq_getElem_cons h,yQ,hb,if_neg (by simp)]
theorem dI8 {A:List Tm} {r:Rl} {s:List Bd} {i:Nat} (h:i<r.body.length) (hb:jW r.body[i]=true):lI A r i s=(zB A r.body[i] s).flatMap fun u=>lI A r (i+1) u:=by
 unfold lI
 rw[List.drop_eq_getElem_cons h,yQ,if_pos hb,List.filter_flatMap]
def oM (A:List Tm) (r:Rl) (i:Nat) (l:Lt) (s:List Bd) (N:List Tm):List (List Bd):=(N.filterMap fun a=>yP l.atom a s).flatMap fun u=>lI A r (i+1) u
theorem dI9 {A:List Tm} {l:Lt} {s:List Bd}:zB A l s=(gP (gL A) l.atom.name).filterMap fun a=>yP l.atom a s:=by
 rw[aGu]
 unfold zB
 induction A with
 |nil=>rfl
 |cons a A ih=>
  rw[List.filterMap_cons,List.filter_cons]
  by_cases h:a.name=l.atom.name
  ·simp only[h,if_true,decide_true,List.filterMap_cons,ih]
  ·simp only[h,if_false,decide_false,Bool.false_eq_true,ih]
theorem dJa {A:List Tm} {r:Rl} {i:Nat} {l:Lt} {s:List Bd} {N:List Tm} {j:Nat} (hj:j<N.length):oM A r i l s (N.take (j+1))=oM A r i l s (N.take j)++match yP l.atom N[j] s with
 |some u=>lI A r (i+1) u
 |none=> []:=by
 unfold oM
 rw[List.take_succ_eq_append_getElem hj,List.filterMap_append,List.flatMap_append]
 congr 1
 cases h:yP l.atom N[j] s with
 |none=>simp[h]
 |some u=>simp[h]
theorem dJb {A:List Tm} {r:Rl} {i:Nat} {l:Lt} {s:List Bd} {N:List Tm} {j:Nat}:(oM A r i l s (N.take j)).length<=(oM A r i l s N).length:=by
 have h:oM A r i l s N=oM A r i l s (N.take j)++oM A r i l s (N.drop j):=by
  unfold oM
  rw[<-List.flatMap_append,<-List.filterMap_append,List.take_append_drop]
 rw[h,List.length_append]
 omega
structure RlOk (A:List Tm) (r:Rl):Prop where
 many:A.length<=1000000
 atoms: ∀a∈A,a.size<=1000
 head:r.head.size<=100
 body: ∀b∈r.body,b.atom.size<=100
 len:r.body.length<=8
 dist: ∀b∈r.body,b.atom.name=gE-> ∃x y,b.atom.args= [x,y]
theorem dJc {a b:Nat} (h:a<=b) {s:List Bd} (hs:mB a s):mB b s:=fun x hx=>Nat.le_trans (hs x hx) h
mutual
theorem aTd {b:Nat} {s:List Bd} (hs:mB b s): ∀t:Tm,(eU s t).size<=t.size*(b+1)
 | .mk n ts=>by
  rw[aGm,gV (.mk n ts),cM]
  split
  ·cases h:gW s n with
   |some u=>
    have:=aSq hs h
    simp only[Option.getD_some]
    rw[Nat.add_mul];omega
   |none=>
    simp only[Option.getD_none]
    rw[gV,cM,Nat.add_mul]
    simp only[dV];omega
  ·have:=aTe hs ts
   rw[gV,cM,Nat.add_mul];omega
theorem aTe {b:Nat} {s:List Bd} (hs:mB b s): ∀ts:List Tm,dV (uV s ts)<=dV ts*(b+1)
 | []=>by rw[uV];simp[dV]
 |t::r=>by
  have h1:=aTd hs t
  have h2:=aTe hs r
  rw[uV]
  simp only[dV]
  rw[Nat.add_mul];omega
end
theorem dJd {A:List Tm} {r:Rl} (ho:RlOk A r) {s:List Bd} (hs:mB 1000 s):(eU s r.head).size<=1000000:=by
 have h1:=aTd hs r.head
 have h2:=Nat.mul_le_mul_right 1001 ho.head
 omega
theorem aTf (A:List Tm) (r:Rl) (ho:RlOk A r): ∀(k i:Nat) (s:List Bd) (fu:Bool) (d:Bool) (O:List Tm),i+k=r.body.length->gI O->mB 1000 s->s.length<=100*i->O.length+(lI A r i s).length<=10000000->
 MCall prog 124 [nt .i64 i,.list false fu (s.map jK),.ptr 1005 0 0,.ptr 1006 0 0,.ptr 1007 0 0,.ptr 1008 0 0] (cC true (gL A) r d O)
  (fun v o'=>v= .tup []/\o'=cC false (gL A) r (jD r (d,O) (lI A r i s)).1 (jD r (d,O) (lI A r i s)).2)
 |0,i,s,fu,d,O,hik,hO,hs,hsl,hlen=>by
  have hs6:mB 1000000 s:=dJc (by decide) hs
  obtain rfl:i=r.body.length:=by omega
  have hb8:=ho.len
  have hdo:=dI0 r O d s fu hO (by omega) hs6 (Nat.le_trans ho.head (by decide)) (dJd ho hs)
  have hcp: ∀(j:Nat) (h:j<r.body.length),r.body[j].atom.name=gE->ACall prog 125 [.list false fu (s.map jK),lV r.body[j]] (fun v=>v=bl (rY s r.body[j])):=fun j h hn=>by
   have hm:=List.getElem_mem h
   obtain⟨x,y,hxy⟩:=ho.dist _ hm hn
   have hz:=ho.body _ hm
   generalize r.body[j]=l at*
   obtain⟨ng,⟨n,ts⟩⟩:=l
   simp only[cM]at hxy
   subst hxy
   exact dIk s false fu hs6 ng n x y (Nat.le_trans hz (by decide))
  have hfit: ∀(j:Nat) (h:j<r.body.length),yR r s=true->r.body[j].atom.name=gE->rY s r.body[j]=true:=fun j h hk hn=>by
   have:=List.all_eq_true.1 hk _ (List.getElem_mem h)
   rw[decide_eq_true hn]at this
   simpa using this
  have hall:(∀(j:Nat) (h:j<r.body.length),r.body[j].atom.name=gE->rY s r.body[j]=true)->yR r s=true:=fun h=>List.all_eq_true.2 fun l hl=>by
   obtain⟨j,hj,rfl⟩:=List.mem_iff_getElem.1 hl
   by_cases hn:r.body[j].atom.name=gE
   ·rw[h j hj hn];simp
   ·rw[decide_eq_false hn];rfl
  rw[dI6 rfl]
  by_cases hok:yR r s=true
  ·rw[if_pos hok,dI3]
   have hfit:=fun j h=>hfit j h hok
   clear hall hlen hok
   unfold C3
   generalize fE (eU s r.head) O=W at*
   generalize tK d (eU s r.head)=d2 at*
   generalize hB:r.body=B at*
   refine dM func124 call124 rfl (by simp[ntmps124]) ?_;simp only[ntmps124,results124]
   repeat' (first|(refine aE fun _ _=>?_)|refine zHg ?_|simp(disch:=omega) [go_sem,cC,bN,bC,bE,bF,bD,bM,cJ,bV,bU,bW,hB])
   refine bZ [1,3,21,22] [] (fun j:Nat=> [(23,nt .i64 j)]) (fun j:Nat=> []) (fun j:Nat=>B.length - j) (fun j:Nat=>j<=B.length) (0) (Le.sub4 rfl (by simp[go_sem,cC,bN,bC,bE,bF,bD,bM,cJ,bV,bU,bW,hB])) ⟨?_⟩ ?_
   ·exact Nat.zero_le _
   intro j hj AA hAA;simp only[kL,Nat.reduceBEq,Nat.reduceEqDiff]
   by_cases hlt:j<B.length
   ·have hcp:=hcp j hlt
    have hfit:=hfit j hlt
    by_cases hn:B[j].atom.name=gE
    ·have hcp:=hcp hn
     rw[hfit hn]at hcp
     simp only[lV,hn]at hcp
     repeat' (first|(refine aE fun _ _=>?_)|refine zHg ?_|refine aI rfl (hcp) (by simp) ?_|(refine(hAA.next (j+1) (Le.sub4 rfl (by simp[go_sem,hB])) (by(try dsimp only);omega) ?_))|simp(disch:=omega) [go_sem,hlt,hn,hB])
     try any_goals omega
     all_goals exact⟨hlt⟩
    ·repeat' (first|(refine aE fun _ _=>?_)|refine zHg ?_|(refine(hAA.next (j+1) (Le.sub4 rfl (by simp[go_sem,hB])) (by(try dsimp only);omega) ?_))|simp(disch:=omega) [go_sem,hlt,hn,hB])
     try any_goals omega
     all_goals exact⟨hlt⟩
   ·obtain rfl:j=B.length:=by omega
    repeat' (first|(refine aE fun _ _=>?_)|refine zHg ?_|simp(disch:=omega) [go_sem,hB])
    refine bO [] [] 10000 _ _ (Fits.mk' (by simp[go_sem,cC,bN,bC,bE,bF,bD,bM,cJ,bV,bU,bW,hB]) (by simp[go_sem,cC,bN,bC,bE,bF,bD,bM,cJ,bV,bU,bW,hB])) (by simp[go_sem,cC,bN,bC,bE,bF,bD,bM,cJ,bV,bU,bW,hB]) (by simp[go_sem,cC,bN,bC,bE,bF,bD,bM,cJ,bV,bU,bW,hB]) (hdo) (by simp[go_sem,cC,bN,bC,bE,bF,bD,bM,cJ,bV,bU,bW,hB]) (by simp[go_sem,cC,bN,bC,bE,bF,bD,bM,cJ,bV,bU,bW,hB]) ?_
    repeat' (first|(refine aE fun _ _=>?_)|refine zHg ?_|simp(disch:=omega) [go_sem,cC,bN,bC,bE,bF,bD,bM,cJ,bV,bU,bW,hB])
    refine dN ⟨84,[],cC false (gL A) r d2 W⟩ [] (Le.renSub [(11002,1002),(1002,11002)] [(1002,11002),(11002,1002)] (by simp[go_sem,cC,bN,bC,bE,bF,bD,bM,cJ,bV,bU,bW,hB]) (by simp[go_sem,cC,bN,bC,bE,bF,bD,bM,cJ,bV,bU,bW,hB]) (Le.sub4 rfl (by simp[go_sem,cC,bN,bC,bE,bF,bD,bM,cJ,bV,bU,bW,hB]))) (by simp[go_sem,cC,bN,bC,bE,bF,bD,bM,cJ,bV,bU,bW,hB]) ⟨rfl,rfl⟩
  ·rw[if_neg hok,dI2]
   clear hdo hfit hlen
   have hall: ¬ ∀(j:Nat) (h:j<r.body.length),r.body[j].atom.name=gE->rY s r.body[j]=true:=fun h=>hok (hall h)
   clear hok
   generalize hB:r.body=B at*
   refine dM func124 call124 rfl (by simp[ntmps124]) ?_;simp only[ntmps124,results124]
   repeat' (first|(refine aE fun _ _=>?_)|refine zHg ?_|simp(disch:=omega) [go_sem,cC,bN,bC,bE,bF,bD,bM,cJ,bV,bU,bW,hB])
   refine bZ [1,3,21,22] [] (fun j:Nat=> [(23,nt .i64 j)]) (fun j:Nat=> []) (fun j:Nat=>B.length - j) (fun j:Nat=>j<=B.length/\ ∀(q:Nat) (h:q<B.length),q<j->B[q].atom.name=gE->rY s B[q]=true) (0) (Le.sub4 rfl (by simp[go_sem,cC,bN,bC,bE,bF,bD,bM,cJ,bV,bU,bW,hB])) ⟨?_⟩ ?_
   ·exact⟨Nat.zero_le _,fun q _ hq=>absurd hq (Nat.not_lt_zero _)⟩
   intro j ⟨hj,hpr⟩ AA hAA;simp only[kL,Nat.reduceBEq,Nat.reduceEqDiff]
   by_cases hlt:j<B.length
   ·have hcp:=hcp j hlt
    have hnx:(B[j].atom.name=gE->rY s B[j]=true)-> ∀(q:Nat) (h:q<B.length),q<j+1->B[q].atom.name=gE->rY s B[q]=true:=fun h0 q h hq=>by
     rcases Nat.lt_or_eq_of_le (Nat.le_of_lt_succ hq)with h1|rfl
     ·exact hpr q h h1
     ·exact h0
    by_cases hn:B[j].atom.name=gE
    ·have hcp:=hcp hn
     cases hc:rY s B[j]
     ·rw[hc]at hcp
      simp only[lV,hn]at hcp
      repeat' (first|(refine aE fun _ _=>?_)|refine zHg ?_|refine aI rfl (hcp) (by simp) ?_|simp(disch:=omega) [go_sem,hlt,hn,hB])
      refine dN ⟨84,[],cC false (gL A) r d O⟩ [] (by refine Le.trans ?_ (Le.unpin 1002 rfl);exact(Le.sub4 rfl (by simp[go_sem,cC,bN,bC,bE,bF,bD,bM,cJ,bV,bU,bW,hB]))) (by simp[go_sem,cC,bN,bC,bE,bF,bD,bM,cJ,bV,bU,bW,hB]) ⟨rfl,rfl⟩
     ·rw[hc]at hcp
      simp only[lV,hn]at hcp
      repeat' (first|(refine aE fun _ _=>?_)|refine zHg ?_|refine aI rfl (hcp) (by simp) ?_|(refine(hAA.next (j+1) (Le.sub4 rfl (by simp[go_sem,hB])) (by(try dsimp only);omega) ?_))|simp(disch:=omega) [go_sem,hlt,hn,hB])
      try any_goals omega
      all_goals exact⟨hlt,hnx fun _=>hc⟩
    ·repeat' (first|(refine aE fun _ _=>?_)|refine zHg ?_|(refine(hAA.next (j+1) (Le.sub4 rfl (by simp[go_sem,hB])) (by(try dsimp only);omega) ?_))|simp(disch:=omega) [go_sem,hlt,hn,hB])
     try any_goals omega
     all_goals exact⟨hlt,hnx fun h=>absurd h hn⟩
   ·exact absurd (fun q h=>hpr q h (by omega)) hall
 |k+1,i,s,fu,d,O,hik,hO,hs,hsl,hlen=>by
  have hlt:i<r.body.length:=by omega
  have ih:=aTf A r ho k (i+1)
  have hb8:=ho.len
  have hmany:=ho.many
  have hlz:=ho.body _ (List.getElem_mem hlt)
  by_cases hbd:jW r.body[i]=true
  ·have hneg:r.body[i].neg=false:=by
    unfold jW at hbd
    rw[Bool.and_eq_true]at hbd
    simpa using hbd.1
   have hnd: ¬r.body[i].atom.name=gE:=by
    unfold jW at hbd
    rw[Bool.and_eq_true]at hbd
    simpa using hbd.2
   rw[dI8 hlt hbd,dI9]at hlen ⊢
   have hNz: ∀a∈gP (gL A) r.body[i].atom.name,a.size<=1000:=fun a ha=>by
    rw[aGu]at ha
    exact ho.atoms a (List.mem_filter.1 ha).1
   have hge:=V7 (en:=aP) (gL A) r.body[i].atom.name
   have hNl:(gP (gL A) r.body[i].atom.name).length<=A.length:=by rw[aGu];exact List.length_filter_le _ _
   have hNb:=Nat.le_trans hNl hmany
   generalize gP (gL A) r.body[i].atom.name=N at*
   have hfold:(N.filterMap fun a=>yP r.body[i].atom a s).flatMap (fun u=>lI A r (i+1) u)=oM A r i r.body[i] s N:=rfl
   rw[hfold]at hlen ⊢
   have hzero:jD r (d,O) (oM A r i r.body[i] s (N.take 0))=(d,O):=rfl
   have hmt:=fun a=>dI1 r.body[i].atom a s fu (Nat.le_trans hlz (by decide)) (by omega)
   have hnx:=fun j (hj:j<N.length)=>dJa (A:=A) (r:=r) (i:=i) (l:=r.body[i]) (s:=s) hj
   have hle:=fun j=>dJb (A:=A) (r:=r) (i:=i) (l:=r.body[i]) (s:=s) (N:=N) (j:=j)
   generalize hB:r.body=B at*
   have hge:(∃j,dD (.string B[i].atom.name) ((gL A).map (dS aP)) 0=some (some (j,.list false false (N.map aP)))/\True)\/(dD (.string B[i].atom.name) ((gL A).map (dS aP)) 0=some none/\N= []):=by
    rcases hge with h|⟨j,h⟩
    ·exact .inr h
    ·exact .inl ⟨j,h,trivial⟩
   refine dM func124 call124 rfl (by simp[ntmps124]) ?_;simp only[ntmps124,results124]
   rcases hge with⟨j0,hg,hN⟩|⟨hg,rfl⟩
   ·clear hN
    repeat' (first|(refine aE fun _ _=>?_)|refine zHg ?_|(refine zqd ?_ ?_<;>(intro h;first|(exfalso;omega)|(simp only[h,zT])))|simp(disch:=omega) [go_sem,cC,bN,bC,bE,bF,bD,bM,cJ,bV,bU,bW,hB,hlt,hneg,hnd,hg])
    refine bZ [0,1,4,10,63,64] [10,1000,1001,1002] (fun x:Nat×Bool×List Tm=> [(65,nt .i64 x.1)]) (fun x:Nat×Bool×List Tm=> [(10,⟨false,false,false,3,[.agg [bl false,.sc (.string B[i].atom.name),.list false false (B[i].atom.args.map aP)]],0⟩),(1000,bE x.2.1),(1001,bF x.2.2.length),(1002,bD false x.2.2)]) (fun x:Nat×Bool×List Tm=>N.length - x.1) (fun x:Nat×Bool×List Tm=>x.1<=N.length/\(x.2.1,x.2.2)=jD r (d,O) (oM A r i B[i] s (N.take x.1))) ((0,d,O)) (by refine Le.trans ?_ (Le.unpin 1002 rfl);exact(Le.sub4 rfl (by simp[go_sem,cC,bN,bC,bE,bF,bD,bM,cJ,bV,bU,bW,hB]))) ⟨?_⟩ ?_
    ·exact⟨Nat.zero_le _,hzero.symm⟩
    intro⟨j,d1,O1⟩ ⟨hj,hf⟩ AA hAA;simp only[kL,Nat.reduceBEq,Nat.reduceEqDiff]
    dsimp only at*
    have hok1:=aTc (r:=r) (S:=oM A r i B[i] s (N.take j)) (q:=(d,O)) hO
    rw[<-hf]at hok1
    dsimp only at hok1
    obtain⟨hO1,hl1⟩:=hok1
    by_cases hjl:j<N.length
    ·have hle1:=hle (j+1)
     have hnx:=hnx j hjl
     have hmt:=hmt N[j]
     have haz:=hNz _ (List.getElem_mem hjl)
     have hbd2:=aSs (p:=B[i].atom) (t:=N[j]) (b:=1000) hs haz
     unfold yP at hnx
     generalize jC B[i].atom N[j] s=w at*
     obtain⟨u,ok⟩:=w
     dsimp only at hbd2
     cases ok
     ·simp only[Bool.false_eq_true,if_false,List.append_nil]at hnx
      repeat' (first|(refine aE fun _ _=>?_)|refine zHg ?_|refine aI rfl (hmt) (by simp) ?_|(refine(hAA.next ((j+1,d1,O1)) (Le.sub4 rfl (by simp[go_sem,cC,bN,bC,bE,bF,bD,bM,cJ,bV,bU,bW,hB])) (by(try dsimp only);omega) ?_))|simp(disch:=omega) [go_sem,cC,bN,bC,bE,bF,bD,bM,cJ,bV,bU,bW,hB,hjl])
      try any_goals omega
      all_goals exact⟨hjl,by rw[hnx];exact hf⟩
     ·simp only[if_true]at hnx
      rw[hnx,List.length_append]at hle1
      have hi:=ih u false d1 O1 (by omega) hO1 hbd2.1 (by omega) (by omega)
      have hf2:jD r (d1,O1) (lI A r (i+1) u)=jD r (d,O) (oM A r i B[i] s (N.take (j+1))):=by
       rw[hnx,dI4,<-hf]
      generalize jD r (d1,O1) (lI A r (i+1) u)=q at*
      repeat' (first|(refine aE fun _ _=>?_)|refine zHg ?_|refine aI rfl (hmt) (by simp) ?_|simp(disch:=omega) [go_sem,cC,bN,bC,bE,bF,bD,bM,cJ,bV,bU,bW,hB,hjl])
      refine bO [] [] 10000 _ _ (Fits.mk' (by simp[go_sem,cC,bN,bC,bE,bF,bD,bM,cJ,bV,bU,bW,hB]) (by simp[go_sem,cC,bN,bC,bE,bF,bD,bM,cJ,bV,bU,bW,hB])) (by simp[go_sem,cC,bN,bC,bE,bF,bD,bM,cJ,bV,bU,bW,hB]) (by simp[go_sem,cC,bN,bC,bE,bF,bD,bM,cJ,bV,bU,bW,hB]) (hi) (by simp[go_sem,cC,bN,bC,bE,bF,bD,bM,cJ,bV,bU,bW,hB]) (by simp[go_sem,cC,bN,bC,bE,bF,bD,bM,cJ,bV,bU,bW,hB]) ?_
      repeat' (first|(refine aE fun _ _=>?_)|refine zHg ?_|(refine(hAA.next ((j+1,q.1,q.2)) (Le.renSub [(11002,1002),(1002,11002)] [(1002,11002),(11002,1002)] (by simp[go_sem,cC,bN,bC,bE,bF,bD,bM,cJ,bV,bU,bW,hB]) (by simp[go_sem,cC,bN,bC,bE,bF,bD,bM,cJ,bV,bU,bW,hB]) (Le.sub4 rfl (by simp[go_sem,cC,bN,bC,bE,bF,bD,bM,cJ,bV,bU,bW,hB]))) (by(try dsimp only);omega) ?_))|simp(disch:=omega) [go_sem,cC,bN,bC,bE,bF,bD,bM,cJ,bV,bU,bW,hB])
      try any_goals omega
      all_goals exact⟨hjl,hf2⟩
    ·obtain rfl:j=N.length:=by omega
     rw[List.take_length]at hf
     rw[<-hf]
     repeat' (first|(refine aE fun _ _=>?_)|refine zHg ?_|simp(disch:=omega) [go_sem,cC,bN,bC,bE,bF,bD,bM,cJ,bV,bU,bW,hB])
     refine eW ⟨84,[],cC false (gL A) r d1 O1⟩ [] (Le.renSub [] [] (by simp[go_sem,cC,bN,bC,bE,bF,bD,bM,cJ,bV,bU,bW,hB]) (by simp[go_sem,cC,bN,bC,bE,bF,bD,bM,cJ,bV,bU,bW,hB]) (Le.sub4 rfl (by simp[go_sem,cC,bN,bC,bE,bF,bD,bM,cJ,bV,bU,bW,hB]))) (by simp[go_sem,cC,bN,bC,bE,bF,bD,bM,cJ,bV,bU,bW,hB]) ⟨rfl,rfl⟩
   ·repeat' (first|(refine aE fun _ _=>?_)|refine zHg ?_|(refine zqd ?_ ?_<;>(intro h;first|(exfalso;omega)|(simp only[h,zT])))|simp(disch:=omega) [go_sem,cC,bN,bC,bE,bF,bD,bM,cJ,bV,bU,bW,hB,hlt,hneg,hnd,hg])
    refine bZ [0,1,4,10,63,64] [10,1002] (fun x:Nat=> [(65,nt .i64 0)]) (fun x:Nat=> [(10,⟨false,false,false,3,[.agg [bl false,.sc (.string B[i].atom.name),.list false false (B[i].atom.args.map aP)]],0⟩),(1002,bD false O)]) (fun x:Nat=>0) (fun x:Nat=>True) (0) (by refine Le.trans ?_ (Le.unpin 1002 rfl);exact(Le.sub4 rfl (by simp[go_sem,cC,bN,bC,bE,bF,bD,bM,cJ,bV,bU,bW,hB]))) ⟨?_⟩ ?_
    ·trivial
    intro j hj AA hAA;simp only[kL,Nat.reduceBEq,Nat.reduceEqDiff]
    repeat' (first|(refine aE fun _ _=>?_)|refine zHg ?_|simp(disch:=omega) [go_sem,cC,bN,bC,bE,bF,bD,bM,cJ,bV,bU,bW,hB])
    refine eW ⟨84,[],cC false (gL A) r d O⟩ [] (Le.renSub [] [] (by simp[go_sem,cC,bN,bC,bE,bF,bD,bM,cJ,bV,bU,bW,hB]) (by simp[go_sem,cC,bN,bC,bE,bF,bD,bM,cJ,bV,bU,bW,hB]) (Le.sub4 rfl (by simp[go_sem,cC,bN,bC,bE,bF,bD,bM,cJ,bV,bU,bW,hB]))) (by simp[go_sem,cC,bN,bC,bE,bF,bD,bM,cJ,bV,bU,bW,hB]) ⟨rfl,rfl⟩
  ·have hbf:jW r.body[i]=false:=by simpa using hbd
   rw[dI7 hlt hbf]at hlen ⊢
   have hi:=ih s fu d O (by omega) hO hs (by omega) hlen
   have hor:r.body[i].neg=true\/(r.body[i].neg=false/\r.body[i].atom.name=gE):=by
    unfold jW at hbf
    cases hn:r.body[i].neg
    ·right
     rw[hn]at hbf
     exact⟨rfl,by simpa using hbf⟩
    ·exact .inl rfl
   generalize jD r (d,O) (lI A r (i+1) s)=q at*
   clear ih hlen hbd hbf hlz
   generalize hB:r.body=B at*
   have hne: ¬i=B.length:=by omega
   rcases hor with hneg|⟨hneg,hn⟩
   ·refine dM func124 call124 rfl (by simp[ntmps124]) ?_;simp only[ntmps124,results124]
    repeat' (first|(refine aE fun _ _=>?_)|refine zHg ?_|(refine zqd ?_ ?_<;>(intro h;first|(exfalso;omega)|(simp only[h,zT])))|simp(disch:=omega) [go_sem,cC,bN,bC,bE,bF,bD,bM,cJ,bV,bU,bW,hB,hlt,hneg,hne])
    try any_goals (exfalso;omega)
    refine bO [] [] 10000 _ _ (Fits.mk' (by simp[go_sem,cC,bN,bC,bE,bF,bD,bM,cJ,bV,bU,bW,hB]) (by simp[go_sem,cC,bN,bC,bE,bF,bD,bM,cJ,bV,bU,bW,hB])) (by simp[go_sem,cC,bN,bC,bE,bF,bD,bM,cJ,bV,bU,bW,hB]) (by simp[go_sem,cC,bN,bC,bE,bF,bD,bM,cJ,bV,bU,bW,hB]) (hi) (by simp[go_sem,cC,bN,bC,bE,bF,bD,bM,cJ,bV,bU,bW,hB]) (by simp[go_sem,cC,bN,bC,bE,bF,bD,bM,cJ,bV,bU,bW,hB]) ?_
    repeat' (first|(refine aE fun _ _=>?_)|refine zHg ?_|simp(disch:=omega) [go_sem,cC,bN,bC,bE,bF,bD,bM,cJ,bV,bU,bW,hB])
    refine dN ⟨84,[],cC false (gL A) r q.1 q.2⟩ [] (Le.renSub [(11002,1002),(1002,11002)] [(1002,11002),(11002,1002)] (by simp[go_sem,cC,bN,bC,bE,bF,bD,bM,cJ,bV,bU,bW,hB]) (by simp[go_sem,cC,bN,bC,bE,bF,bD,bM,cJ,bV,bU,bW,hB]) (Le.sub4 rfl (by simp[go_sem,cC,bN,bC,bE,bF,bD,bM,cJ,bV,bU,bW,hB]))) (by simp[go_sem,cC,bN,bC,bE,bF,bD,bM,cJ,bV,bU,bW,hB]) ⟨rfl,rfl⟩
   ·refine dM func124 call124 rfl (by simp[ntmps124]) ?_;simp only[ntmps124,results124]
    repeat' (first|(refine aE fun _ _=>?_)|refine zHg ?_|(refine zqd ?_ ?_<;>(intro h;first|(exfalso;omega)|(simp only[h,zT])))|simp(disch:=omega) [go_sem,cC,bN,bC,bE,bF,bD,bM,cJ,bV,bU,bW,hB,hlt,hneg,hn,hne])
    try any_goals (exfalso;omega)
    refine bO [] [] 10000 _ _ (Fits.mk' (by simp[go_sem,cC,bN,bC,bE,bF,bD,bM,cJ,bV,bU,bW,hB]) (by simp[go_sem,cC,bN,bC,bE,bF,bD,bM,cJ,bV,bU,bW,hB])) (by simp[go_sem,cC,bN,bC,bE,bF,bD,bM,cJ,bV,bU,bW,hB]) (by simp[go_sem,cC,bN,bC,bE,bF,bD,bM,cJ,bV,bU,bW,hB]) (hi) (by simp[go_sem,cC,bN,bC,bE,bF,bD,bM,cJ,bV,bU,bW,hB]) (by simp[go_sem,cC,bN,bC,bE,bF,bD,bM,cJ,bV,bU,bW,hB]) ?_
    repeat' (first|(refine aE fun _ _=>?_)|refine zHg ?_|simp(disch:=omega) [go_sem,cC,bN,bC,bE,bF,bD,bM,cJ,bV,bU,bW,hB])
    refine dN ⟨84,[],cC false (gL A) r q.1 q.2⟩ [] (Le.renSub [(11002,1002),(1002,11002)] [(1002,11002),(11002,1002)] (by simp[go_sem,cC,bN,bC,bE,bF,bD,bM,cJ,bV,bU,bW,hB]) (by simp[go_sem,cC,bN,bC,bE,bF,bD,bM,cJ,bV,bU,bW,hB]) (Le.sub4 rfl (by simp[go_sem,cC,bN,bC,bE,bF,bD,bM,cJ,bV,bU,bW,hB]))) (by simp[go_sem,cC,bN,bC,bE,bF,bD,bM,cJ,bV,bU,bW,hB]) ⟨rfl,rfl⟩
open Go.Ab
set_option maxRecDepth 100000
set_option maxHeartbeats 16000000
abbrev eH (p:Bool) (gs:uY) (r:Rl) (d:Bool) (O:List Tm):aK:=(1009,bW gs)::bN p r d O
theorem dJe {A:List Tm} {r:Rl}:lI A r 0 []=uW A r:=rfl
theorem dJf (A:List Tm) (r:Rl) (ho:RlOk A r) (d:Bool) (O:List Tm) (hO:gI O) (hlen:O.length+(uW A r).length<=10000000):
 MCall prog 74 [fP r,.mp 1009,bV] (eH true (gL A) r d O) (fun v o'=>v= .tup []/\o'=eH false (gL A) r (jD r (d,O) (uW A r)).1 (jD r (d,O) (uW A r)).2):=by
 have hf:=aTf A r ho r.body.length 0 [] true d O (Nat.zero_add _) hO (fun x hx=>by cases hx) (Nat.zero_le _) hlen
 rw[dJe]at hf
 generalize jD r (d,O) (uW A r)=q at*
 rw[List.map_nil]at hf
 refine dM func74 call74 rfl (by simp[ntmps74]) ?_;simp only[ntmps74,results74]
 repeat' (first|(refine aE fun _ _=>?_)|refine zHg ?_|simp(disch:=omega) [go_sem,eH,bN,bC,bE,bF,bD,bM,bV,bU,bW])
 refine bO [(1005,3),(1006,5),(1007,6),(1008,4)] [(3,1005),(5,1006),(6,1007),(4,1008)] 10000 _ _ (Fits.mk' (by simp[go_sem,eH,cC,bN,bC,bE,bF,bD,bM,cJ,bV,bU,bW]) (by simp[go_sem,eH,cC,bN,bC,bE,bF,bD,bM,cJ,bV,bU,bW])) (by simp[go_sem,eH,cC,bN,bC,bE,bF,bD,bM,cJ,bV,bU,bW]) (by simp[go_sem,eH,cC,bN,bC,bE,bF,bD,bM,cJ,bV,bU,bW]) (hf) (by simp[go_sem,eH,cC,bN,bC,bE,bF,bD,bM,cJ,bV,bU,bW]) (by simp[go_sem,eH,cC,bN,bC,bE,bF,bD,bM,cJ,bV,bU,bW]) ?_
 repeat' (first|(refine aE fun _ _=>?_)|refine zHg ?_|simp(disch:=omega) [go_sem,eH,cC,bN,bC,bE,bF,bD,bM,cJ,bV,bU,bW])
 refine eW ⟨10,[],eH false (gL A) r q.1 q.2⟩ [] (Le.renSub [(11002,1002),(1002,11002)] [(1002,11002),(11002,1002)] (by simp[go_sem,eH,cC,bN,bC,bE,bF,bD,bM,cJ,bV,bU,bW]) (by simp[go_sem,eH,cC,bN,bC,bE,bF,bD,bM,cJ,bV,bU,bW]) (Le.sub4 rfl (by simp[go_sem,eH,cC,bN,bC,bE,bF,bD,bM,cJ,bV,bU,bW]))) (by simp[go_sem,eH,cC,bN,bC,bE,bF,bD,bM,cJ,bV,bU,bW]) ⟨rfl,rfl⟩
def aGw:List Tm->AV
 |x::_=> .tup [eT x,bl true]
 | []=> .tup [zTm,bl false]
theorem aTg {n:ByteArray} {ts:List Tm}:fF (.mk n ts)=if ts.length=1/\(n=wV\/n=wW)then[.mk gF ts]else if ts.length=2/\n=wX then[.mk jB ts]else[]:=rfl
theorem dJg (a:Tm):ACall prog 77 [eT a] (fun v=>v=aGw (fF a)):=by
 obtain⟨n,ts⟩:=a
 rw[aTg]
 by_cases h1:ts.length=1
 ·have h2: ¬ts.length=2:=by omega
  by_cases hi:n=wV
  ·rw[if_pos ⟨h1,.inl hi⟩]
   show ACall _ _ _ (fun v=>v= .tup [eT (.mk gF ts),bl true])
   subst hi
   refine aX func77 call77 rfl (by simp[ntmps77]) ?_;simp only[ntmps77,results77]
   repeat' (first|(refine aE fun _ _=>?_)|refine zHg ?_|(refine aL [] ?_;simp[go_sem,h1,h2])|simp(disch:=omega) [go_sem,h1,h2])
  ·by_cases hx:n=wW
   ·rw[if_pos ⟨h1,.inr hx⟩]
    show ACall _ _ _ (fun v=>v= .tup [eT (.mk gF ts),bl true])
    subst hx
    refine aX func77 call77 rfl (by simp[ntmps77]) ?_;simp only[ntmps77,results77]
    repeat' (first|(refine aE fun _ _=>?_)|refine zHg ?_|(refine aL [] ?_;simp[go_sem,h1,h2])|simp(disch:=omega) [go_sem,h1,h2])
   ·rw[if_neg (by rintro⟨_,h|h⟩;exact hi h;exact hx h),if_neg (by rintro⟨h,_⟩;omega)]
    show ACall _ _ _ (fun v=>v= .tup [zTm,bl false])
    refine aX func77 call77 rfl (by simp[ntmps77]) ?_;simp only[ntmps77,results77]
    repeat' (first|(refine aE fun _ _=>?_)|refine zHg ?_|(refine zgd ?_ ?_<;>(intro h;(simp only[h,zT])))|(refine aL [] ?_;simp[go_sem,h1,h2,hi,hx])|simp(disch:=omega) [go_sem,h1,h2,hi,hx])
    try any_goals (exfalso;omega)
    all_goals(by_cases hq:n=wX)
    all_goals repeat' (first|(refine aE fun _ _=>?_)|refine zHg ?_|fail)
    try any_goals (exfalso;omega)
 ·rw[if_neg (by rintro⟨h,_⟩;exact h1 h)]
  by_cases h2:ts.length=2
  ·by_cases hl:n=wX
   ·rw[if_pos ⟨h2,hl⟩]
    show ACall _ _ _ (fun v=>v= .tup [eT (.mk jB ts),bl true])
    subst hl
    refine aX func77 call77 rfl (by simp[ntmps77]) ?_;simp only[ntmps77,results77]
    repeat' (first|(refine aE fun _ _=>?_)|refine zHg ?_|(refine aL [] ?_;simp[go_sem,h1,h2])|simp(disch:=omega) [go_sem,h1,h2])
   ·rw[if_neg (by rintro⟨_,h⟩;exact hl h)]
    show ACall _ _ _ (fun v=>v= .tup [zTm,bl false])
    by_cases hi:n=wV
    ·subst hi
     refine aX func77 call77 rfl (by simp[ntmps77]) ?_;simp only[ntmps77,results77]
     repeat' (first|(refine aE fun _ _=>?_)|refine zHg ?_|(refine aL [] ?_;simp[go_sem,h1,h2])|simp(disch:=omega) [go_sem,h1,h2])
    ·by_cases hx:n=wW
     ·subst hx
      refine aX func77 call77 rfl (by simp[ntmps77]) ?_;simp only[ntmps77,results77]
      repeat' (first|(refine aE fun _ _=>?_)|refine zHg ?_|(refine aL [] ?_;simp[go_sem,h1,h2])|simp(disch:=omega) [go_sem,h1,h2])
     ·refine aX func77 call77 rfl (by simp[ntmps77]) ?_;simp only[ntmps77,results77]
      repeat' (first|(refine aE fun _ _=>?_)|refine zHg ?_|(refine aL [] ?_;simp[go_sem,h1,h2,hi,hx,hl])|simp(disch:=omega) [go_sem,h1,h2,hi,hx,hl])
  ·rw[if_neg (by rintro⟨h,_⟩;exact h2 h)]
   show ACall _ _ _ (fun v=>v= .tup [zTm,bl false])
   by_cases hi:n=wV
   ·subst hi
    refine aX func77 call77 rfl (by simp[ntmps77]) ?_;simp only[ntmps77,results77]
    repeat' (first|(refine aE fun _ _=>?_)|refine zHg ?_|(refine zqd ?_ ?_<;>(intro h;first|(exfalso;omega)|(simp only[h,zT])))|(refine aL [] ?_;simp[go_sem,h1,h2])|simp(disch:=omega) [go_sem,h1,h2])
   ·by_cases hx:n=wW
    ·subst hx
     refine aX func77 call77 rfl (by simp[ntmps77]) ?_;simp only[ntmps77,results77]
     repeat' (first|(refine aE fun _ _=>?_)|refine zHg ?_|(refine zqd ?_ ?_<;>(intro h;first|(exfalso;omega)|(simp only[h,zT])))|(refine aL [] ?_;simp[go_sem,h1,h2])|simp(disch:=omega) [go_sem,h1,h2])
    ·by_cases hl:n=wX
     ·subst hl
      refine aX func77 call77 rfl (by simp[ntmps77]) ?_;simp only[ntmps77,results77]
      repeat' (first|(refine aE fun _ _=>?_)|refine zHg ?_|(refine zqd ?_ ?_<;>(intro h;first|(exfalso;omega)|(simp only[h,zT])))|(refine aL [] ?_;simp[go_sem,h1,h2])|simp(disch:=omega) [go_sem,h1,h2])
     ·refine aX func77 call77 rfl (by simp[ntmps77]) ?_;simp only[ntmps77,results77]
      repeat' (first|(refine aE fun _ _=>?_)|refine zHg ?_|(refine aL [] ?_;simp[go_sem,h1,h2,hi,hx,hl])|simp(disch:=omega) [go_sem,h1,h2,hi,hx,hl])
theorem aTh {X Y:List Tm}:mC (X++Y)=(mC X||mC Y):=List.any_append
theorem aTi {A X Y:List Tm}:iH (iH A X) Y=iH A (X++Y):=(List.foldl_append).symm
theorem aGx {A:List Tm} (h:gI A) (X:List Tm):gI (iH A X):=(K7 X A h).1
theorem aGy {A:List Tm}: ∀{X:List Tm},(iH A X).length<=A.length+X.length:=by
 intro X
 induction X generalizing A with
 |nil=>exact Nat.le_refl _
 |cons x X ih=>
  have h1:=ih (A:=fE x A)
  have h2:=aGv x A
  show(iH (fE x A) X).length<=_
  rw[List.length_cons];omega
theorem aTj {r:Rl}: ∀{S:List (List Bd)} {q:Bool×List Tm},jD r q S=(q.1||mC (S.map fun s=>eU s r.head),iH q.2 (S.map fun s=>eU s r.head))
 | [],q=>by simp[jD,mC,iH]
 |s::S,q=>by
  show jD r (C3 r q s) S=_
  rw[aTj]
  simp only[C3,tK,List.map_cons]
  rw[Bool.or_assoc]
  rfl
theorem dJh {A O X:List Tm} {d:Bool} {r:Rl} (h:(d,O)=(mC X,iH A X)):jD r (d,O) (uW A r)=(mC (X++mV A r),iH A (X++mV A r)):=by
 rw[h,aTj,aTh,<-aTi]
 rfl
theorem dJi {A O X:List Tm} {d:Bool} {x:Tm} (h:(d,O)=(mC X,iH A X)):(tK d x,fE x O)=(mC (X++ [x]),iH A (X++ [x])):=by
 rw[aTh,<-aTi]
 obtain⟨rfl,rfl⟩:=Prod.mk.inj h
 simp[mC,iH,tK]
def C4 (q:List Tm×Int):AV:= .tup [if q.2=0 then .own 2 (q.1.map aP)else .list false true [],nt .i64 q.2]
theorem aTk {α β:Type} {f:α->List β} {l:List α} {j:Nat} (h:j<l.length):(l.take (j+1)).flatMap f=(l.take j).flatMap f++f l[j]:=by
 rw[hZ h,List.flatMap_append]
 simp
theorem aTl {α β:Type} {f:α->List β} {l:List α} {j:Nat}:((l.take j).flatMap f).length<=(l.flatMap f).length:=by
 have h:l.flatMap f=(l.take j).flatMap f++(l.drop j).flatMap f:=by rw[<-List.flatMap_append,List.take_append_drop]
 rw[h,List.length_append];omega
theorem dJj {a x:Tm} (h:x∈fF a):x.size=a.size:=by
 obtain⟨n,ts⟩:=a
 rw[aTg]at h
 repeat' split at h
 all_goals(first|(rw[List.mem_singleton.1 h,gV,gV,cM,cM])|simp at h)
theorem dJk (A:List Tm) (l:List Rl) (le fu le' fu':Bool) (hA:gI A) (ho: ∀r∈l,RlOk A r) (hAl:A.length<=1000000) (hAz: ∀a∈A,a.size<=1000) (hll:l.length<=1000000) (hm:(tG A l).length<=1000000):
 ACall prog 33 [.list le fu (l.map fP),.list le' fu' (A.map aP)] (fun v=>v=C4 (fG l A)):=by
 have hix:=dIz A le' fu' hAl
 have hcl:=aS7 A le' fu' hAl
 unfold tG at hm
 rw[List.length_append]at hm
 have hzero:(false,A)=(mC [],iH A []):=rfl
 have hrv:fG l A=if mC (l.flatMap (mV A)++fI A)=true then([],3)else if 512<(iH A (l.flatMap (mV A)++fI A)).length then([],11)else(iH A (l.flatMap (mV A)++fI A),0):=rfl
 rw[hrv]
 clear hrv
 generalize hR:C4 (if mC (l.flatMap (mV A)++fI A)=true then([],3)else if 512<(iH A (l.flatMap (mV A)++fI A)).length then([],11)else(iH A (l.flatMap (mV A)++fI A),0))=R
 refine aX func33 call33 rfl (by simp[ntmps33]) ?_;simp only[ntmps33,results33]
 repeat' (first|(refine aE fun _ _=>?_)|refine zHg ?_|simp(disch:=omega) [go_sem])
 refine bO [] [] 10000 _ _ (Fits.mk' (by simp[go_sem,dS]) (by simp[go_sem,dS])) (by simp[go_sem,dS]) (by simp[go_sem,dS]) (hix) (by simp[go_sem,dS]) (by simp[go_sem,dS]) ?_
 repeat' (first|(refine aE fun _ _=>?_)|refine zHg ?_|refine aI rfl (hcl) (by simp) ?_|simp(disch:=omega) [go_sem])
 refine bZ [1,6,7,8,9,21,22] [7,8,9,19,999] (fun x:Nat×Bool×List Tm=> [(23,nt .i64 x.1)]) (fun x:Nat×Bool×List Tm=> [(7,⟨false,false,false,1,[.ref 19 0 x.2.2.length],0⟩),(8,⟨false,false,false,1,[bl x.2.1],0⟩),(9,⟨false,false,false,1,[.clo 70 [.ptr 8 0 0,.ptr 7 0 0]],0⟩),(19,⟨true,false,false,2,x.2.2.map aP,0⟩)]) (fun x:Nat×Bool×List Tm=>l.length - x.1) (fun x:Nat×Bool×List Tm=>x.1<=l.length/\(x.2.1,x.2.2)=(mC ((l.take x.1).flatMap (mV A)),iH A ((l.take x.1).flatMap (mV A)))) ((0,false,A)) (Le.sub4 rfl (by simp[go_sem])) ⟨?_⟩ ?_
 ·exact⟨Nat.zero_le _,hzero⟩
 intro⟨j,d,O⟩ ⟨hj,hq⟩ AA hAA;simp only[kL,Nat.reduceBEq,Nat.reduceEqDiff]
 dsimp only at*
 by_cases hjl:j<l.length
 ·have hnx:=aTk (f:=mV A) hjl
  have hle:=aTl (f:=mV A) (l:=l) (j:=j+1)
  rw[hnx,List.length_append]at hle
  have hO:gI O:=by rw[(Prod.mk.inj hq).2];exact aGx hA _
  have hOl:O.length<=A.length+((l.take j).flatMap (mV A)).length:=by rw[(Prod.mk.inj hq).2];exact aGy
  have hsl:(mV A l[j]).length=(uW A l[j]).length:=List.length_map _
  have he:=dJf A l[j] (ho _ (List.getElem_mem hjl)) d O hO (by omega)
  have hq2:=dJh (r:=l[j]) hq
  rw[<-hnx]at hq2
  generalize jD l[j] (d,O) (uW A l[j])=q at*
  repeat' (first|(refine aE fun _ _=>?_)|refine zHg ?_|simp(disch:=omega) [go_sem,hjl])
  refine bO [(1000,8),(1001,7),(1002,19),(1003,9),(1004,11),(1009,11000)] [(8,1000),(7,1001),(19,1002),(9,1003),(11,1004),(11000,1009)] 20000 _ _ (Fits.mk' (by simp[go_sem,bE,bF,bD,bM,bV,bU,bW,dS,eH,bN,bC]) (by simp[go_sem,bE,bF,bD,bM,bV,bU,bW,dS,eH,bN,bC])) (by simp[go_sem,bE,bF,bD,bM,bV,bU,bW,dS,eH,bN,bC]) (by simp[go_sem,bE,bF,bD,bM,bV,bU,bW,dS,eH,bN,bC]) (he) (by simp[go_sem,bE,bF,bD,bM,bV,bU,bW,dS,eH,bN,bC]) (by simp[go_sem,bE,bF,bD,bM,bV,bU,bW,dS,eH,bN,bC]) ?_
  repeat' (first|(refine aE fun _ _=>?_)|refine zHg ?_|(refine(hAA.next ((j+1,q.1,q.2)) (Le.renSub [(21002,19),(19,21002)] [(19,21002),(21002,19)] (by simp[go_sem,bE,bF,bD,bM,bV,bU,bW,dS,eH,bN,bC]) (by simp[go_sem,bE,bF,bD,bM,bV,bU,bW,dS,eH,bN,bC]) (Le.sub4 rfl (by simp[go_sem,bE,bF,bD,bM,bV,bU,bW,dS,eH,bN,bC]))) (by(try dsimp only);omega) ?_))|simp(disch:=omega) [go_sem,bE,bF,bD,bM,bV,bU,bW,dS,eH,bN,bC])
  try any_goals omega
  all_goals exact⟨hjl,hq2⟩
 ·obtain rfl:j=l.length:=by omega
  rw[List.take_length]at hq
  generalize l.flatMap (mV A)=X at*
  have hzero2:(d,O)=(mC (X++fI (A.take 0)),iH A (X++fI (A.take 0))):=by
   rw[hq]
   simp[fI]
  clear hq hzero
  repeat' (first|(refine aE fun _ _=>?_)|refine zHg ?_|simp(disch:=omega) [go_sem])
  refine bZ [7,8,9,32,33] [7,8,19] (fun x:Nat×Bool×List Tm=> [(34,nt .i64 x.1)]) (fun x:Nat×Bool×List Tm=> [(7,⟨false,false,false,1,[.ref 19 0 x.2.2.length],0⟩),(8,⟨false,false,false,1,[bl x.2.1],0⟩),(19,⟨true,false,false,2,x.2.2.map aP,0⟩)]) (fun x:Nat×Bool×List Tm=>A.length - x.1) (fun x:Nat×Bool×List Tm=>x.1<=A.length/\(x.2.1,x.2.2)=(mC (X++fI (A.take x.1)),iH A (X++fI (A.take x.1)))) ((0,d,O)) (Le.sub4 rfl (by simp[go_sem])) ⟨?_⟩ ?_
  ·exact⟨Nat.zero_le _,hzero2⟩
  clear hzero2
  intro⟨k,d1,O1⟩ ⟨hk,hq⟩ AA hAA;simp only[kL,Nat.reduceBEq,Nat.reduceEqDiff]
  dsimp only at*
  have hO1:gI O1:=by rw[(Prod.mk.inj hq).2];exact aGx hA _
  by_cases hkl:k<A.length
  ·have hnx:fI (A.take (k+1))=fI (A.take k)++fF A[k]:=aTk hkl
   have hle:(fI (A.take (k+1))).length<=(fI A).length:=aTl
   rw[hnx,List.length_append]at hle
   have hOl:O1.length<=A.length+(X++fI (A.take k)).length:=by rw[(Prod.mk.inj hq).2];exact aGy
   rw[List.length_append]at hOl
   have hps:=dJg A[k]
   have haz:=hAz _ (List.getElem_mem hkl)
   have hxz:=fun x (h:x∈fF A[k])=>dJj h
   have hx1:=aSo A[k]
   generalize fF A[k]=e at*
   cases e with
   |nil=>
    rw[List.append_nil]at hnx
    rw[<-hnx]at hq
    unfold aGw at hps
    dsimp only at hps
    repeat' (first|(refine aE fun _ _=>?_)|refine zHg ?_|refine aI rfl (hps) (by simp) ?_|(refine(hAA.next ((k+1,d1,O1)) (Le.sub4 rfl (by simp[go_sem,bE,bF,bD,bM,bV,bU,bW,dS,eH,bN,bC])) (by(try dsimp only);omega) ?_))|simp(disch:=omega) [go_sem,bE,bF,bD,bM,bV,bU,bW,dS,eH,bN,bC,hkl])
    try any_goals omega
    all_goals exact⟨hkl,hq⟩
   |cons x e=>
    obtain rfl:e= []:=by
     rw[List.length_cons]at hx1
     exact List.eq_nil_of_length_eq_zero (by omega)
    have hq2:=dJi (x:=x) hq
    rw[List.append_assoc,<-hnx]at hq2
    have had:=aTb O1 d1 x hO1 (by omega) (by have:=hxz x (by simp);omega)
    unfold aGw at hps
    dsimp only at hps
    generalize tK d1 x=d2 at*
    generalize fE x O1=O2 at*
    repeat' (first|(refine aE fun _ _=>?_)|refine zHg ?_|refine aI rfl (hps) (by simp) ?_|simp(disch:=omega) [go_sem,bE,bF,bD,bM,bV,bU,bW,dS,eH,bN,bC,hkl])
    refine bO [(1000,8),(1001,7),(1002,19)] [(8,1000),(7,1001),(19,1002)] 20000 _ _ (Fits.mk' (by simp[go_sem,bE,bF,bD,bM,bV,bU,bW,dS,eH,bN,bC]) (by simp[go_sem,bE,bF,bD,bM,bV,bU,bW,dS,eH,bN,bC])) (by simp[go_sem,bE,bF,bD,bM,bV,bU,bW,dS,eH,bN,bC]) (by simp[go_sem,bE,bF,bD,bM,bV,bU,bW,dS,eH,bN,bC]) (had) (by simp[go_sem,bE,bF,bD,bM,bV,bU,bW,dS,eH,bN,bC]) (by simp[go_sem,bE,bF,bD,bM,bV,bU,bW,dS,eH,bN,bC]) ?_
    repeat' (first|(refine aE fun _ _=>?_)|refine zHg ?_|(refine(hAA.next ((k+1,d2,O2)) (Le.renSub [(21002,19),(19,21002)] [(19,21002),(21002,19)] (by simp[go_sem,bE,bF,bD,bM,bV,bU,bW,dS,eH,bN,bC]) (by simp[go_sem,bE,bF,bD,bM,bV,bU,bW,dS,eH,bN,bC]) (Le.sub4 rfl (by simp[go_sem,bE,bF,bD,bM,bV,bU,bW,dS,eH,bN,bC]))) (by(try dsimp only);omega) ?_))|simp(disch:=omega) [go_sem,bE,bF,bD,bM,bV,bU,bW,dS,eH,bN,bC])
    try any_goals omega
    all_goals exact⟨hkl,hq2⟩
  ·obtain rfl:k=A.length:=by omega
   rw[List.take_length]at hq
   have hOl:O1.length<=A.length+(X++fI A).length:=by rw[(Prod.mk.inj hq).2];exact aGy
   rw[List.length_append]at hOl
   obtain⟨e1,e2⟩:=Prod.mk.inj hq
   rw[<-e1,<-e2]at hR
   clear hq e1 e2
   unfold C4 at hR
   cases d1
   ·simp only[Bool.false_eq_true,if_false]at hR
    by_cases h5:512<O1.length
    ·have h5':(512:Int)<O1.length:=by omega
     rw[if_pos h5]at hR
     simp only[show ¬(11:Int)=0 from by decide,if_false]at hR
     subst hR
     repeat' (first|(refine aE fun _ _=>?_)|refine zHg ?_|(refine aL [] ?_;simp[go_sem,bE,bF,bD,bM,bV,bU,bW,dS,eH,bN,bC,h5'])|simp(disch:=omega) [go_sem,bE,bF,bD,bM,bV,bU,bW,dS,eH,bN,bC,h5'])
    ·have h5': ¬(512:Int)<O1.length:=by omega
     rw[if_neg h5]at hR
     simp only[if_true]at hR
     subst hR
     repeat' (first|(refine aE fun _ _=>?_)|refine zHg ?_|(refine aL [] ?_;simp[go_sem,bE,bF,bD,bM,bV,bU,bW,dS,eH,bN,bC,h5'])|simp(disch:=omega) [go_sem,bE,bF,bD,bM,bV,bU,bW,dS,eH,bN,bC,h5'])
   ·simp only[if_true,show ¬(3:Int)=0 from by decide,if_false]at hR
    subst hR
    repeat' (first|(refine aE fun _ _=>?_)|refine zHg ?_|(refine aL [] ?_;simp[go_sem,bE,bF,bD,bM,bV,bU,bW,dS,eH,bN,bC])|simp(disch:=omega) [go_sem,bE,bF,bD,bM,bV,bU,bW,dS,eH,bN,bC])
set_option maxHeartbeats 8000000
theorem dJl:ACall prog 204 [nt .u64 0] (fun r=>r=nt .i64 0):=by
 refine aX func204 call204 rfl (by simp[ntmps204]) ?_;simp only[ntmps204,results204]
 repeat' (first|(refine aE fun _ _=>?_)|refine zHg ?_|(refine aL [] ?_;simp[go_sem])|simp(disch:=omega) [go_sem])
 all_goals(first|rfl|decide+kernel)
theorem aTm:ACall prog 188 [nt .u64 0] (fun r=>r=nt .i64 0):=by
 have h:=dJl
 refine aX func188 call188 rfl (by simp[ntmps188]) ?_;simp only[ntmps188,results188]
 repeat' (first|(refine aE fun _ _=>?_)|refine zHg ?_|(refine aL [] ?_;simp[go_sem])|refine aI rfl (h) (by simp) ?_|simp(disch:=omega) [go_sem])
def lJ (es:List Ed) (s:ByteArray):List ByteArray:=(es.filter fun e=>decide (e.fr=s)).map Ed.to
theorem aAi {es:List Ed} {s x:ByteArray}:x∈lJ es s↔ ∃e∈es,e.fr=s/\e.to=x:=by
 unfold lJ
 rw[List.mem_map]
 constructor
 ·rintro⟨e,he,rfl⟩
  obtain⟨h1,h2⟩:=List.mem_filter.1 he
  exact⟨e,h1,of_decide_eq_true h2,rfl⟩
 ·rintro⟨e,h1,h2,rfl⟩
  exact⟨e,List.mem_filter.2 ⟨h1,decide_eq_true h2⟩,rfl⟩
theorem M6 (es:List Ed) (s:ByteArray):(lJ es s).length<=es.length:=by
 unfold lJ
 rw[List.length_map]
 exact List.length_filter_le _ _
def uZ (es:List Ed) (s:ByteArray) (R S:List ByteArray):Prop:=R.Nodup/\(∀x∈R,Rch es s x)/\(∀x∈S,Rch es s x)/\ ∀e∈es,(e.fr=s\/e.fr∈R)->e.to∈R\/e.to∈S
theorem dJm (es:List Ed) (s:ByteArray):uZ es s [] (lJ es s):=by
 refine⟨List.nodup_nil,by simp,fun x hx=>?_,fun e he h=> .inr (aAi.2 ⟨e,he,?_,rfl⟩)⟩
 ·obtain⟨e,he,h1,rfl⟩:=aAi.1 hx
  exact .one he h1
 ·rcases h with h|h
  ·exact h
  ·simp at h
theorem aTn {es:List Ed} {s:ByteArray} {R S:List ByteArray} {x:ByteArray} (h:uZ es s R (S++ [x])) (hx:x∈R):uZ es s R S:=by
 obtain⟨h1,h2,h3,h4⟩:=h
 refine⟨h1,h2,fun y hy=>h3 y (List.mem_append_left _ hy),fun e he hf=>?_⟩
 rcases h4 e he hf with g|g
 ·exact .inl g
 ·rcases List.mem_append.1 g with g|g
  ·exact .inr g
  ·rw[List.mem_singleton.1 g];exact .inl hx
theorem aTo {es:List Ed} {s:ByteArray} {R S:List ByteArray} {x:ByteArray} (h:uZ es s R (S++ [x])) (hx:x∉R):uZ es s (R++ [x]) (S++lJ es x):=by
 obtain⟨h1,h2,h3,h4⟩:=h
 have hr:Rch es s x:=h3 x (by simp)
 refine⟨List.nodup_append.2 ⟨h1,by simp,fun a ha b hb e=>hx (by rw[<-List.mem_singleton.1 hb,<-e];exact ha)⟩,fun y hy=>?_,fun y hy=>?_,fun e he hf=>?_⟩
 ·rcases List.mem_append.1 hy with hy|hy
  ·exact h2 y hy
  ·rw[List.mem_singleton.1 hy];exact hr
 ·rcases List.mem_append.1 hy with hy|hy
  ·exact h3 y (List.mem_append_left _ hy)
  ·obtain⟨e,he,g1,rfl⟩:=aAi.1 hy
   exact .more (g1▸hr) he
 ·by_cases hfx:e.fr=x
  ·exact .inr (List.mem_append_right _ (aAi.2 ⟨e,he,hfx,rfl⟩))
  ·have hf':e.fr=s\/e.fr∈R:=by
    rcases hf with hf|hf
    ·exact .inl hf
    ·rcases List.mem_append.1 hf with hf|hf
     ·exact .inr hf
     ·exact absurd (List.mem_singleton.1 hf) hfx
   rcases h4 e he hf' with g|g
   ·exact .inl (List.mem_append_left _ g)
   ·rcases List.mem_append.1 g with g|g
    ·exact .inr (List.mem_append_left _ g)
    ·exact .inl (List.mem_append_right _ g)
theorem aTp {es:List Ed} {s:ByteArray} {R:List ByteArray} (h:uZ es s R []) (x:ByteArray):x∈R↔Rch es s x:=by
 obtain⟨h1,h2,_,h4⟩:=h
 have hc: ∀e∈es,(e.fr=s\/e.fr∈R)->e.to∈R:=fun e he hf=>by
  rcases h4 e he hf with g|g
  ·exact g
  ·simp at g
 refine⟨h2 x,fun hx=>?_⟩
 induction hx with
 |one he hf=>exact hc _ he (.inl hf)
 |more _ he ih=>exact hc _ he (.inr ih)
theorem M7 {es:List Ed} {s:ByteArray} {R S:List ByteArray} (h:uZ es s R S):R.length<=es.length:=by
 have:=yN (b:=es.map Ed.to) h.1 fun x hx=>aSh (h.2.1 x hx)
 rwa [List.length_map]at this
def yT (es:List Ed) (R S:List ByteArray):Nat:=(es.length - R.length)*(es.length+1)+S.length
theorem aTq (es:List Ed) (R S:List ByteArray) (x:ByteArray):yT es R S<yT es R (S++ [x]):=by
 unfold yT
 simp
theorem aTr {es:List Ed} {s:ByteArray} {R S:List ByteArray} {x:ByteArray} (h:uZ es s (R++ [x]) (S++lJ es x)):yT es (R++ [x]) (S++lJ es x)<yT es R (S++ [x]):=by
 have h1:=M7 h
 have h2:=M6 es x
 unfold yT
 simp only[List.length_append,List.length_cons,List.length_nil,Nat.zero_add]at*
 have e:es.length - R.length=(es.length - (R.length+1))+1:=by omega
 rw[e,Nat.add_mul]
 omega
theorem aTs (a b:Tm):ACall prog 37 [eT a,eT b] (fun r=>r=bl (decide (a=b))):=by
 have h:=aN6 a b
 have e:sV a b=decide (a=b):=by
  by_cases hab:a=b
  ·rw[decide_eq_true hab];exact(X4 a b).2 hab
  ·rw[decide_eq_false hab]
   cases hq:sV a b
   ·rfl
   ·exact absurd ((X4 a b).1 hq) hab
 rw[<-e]
 exact h
set_option maxHeartbeats 16000000
abbrev bJ (pin:Bool) (lf:Int):AObj:=⟨false,false,pin,1,[.agg [nt .i64 lf]],0⟩
abbrev aO (pin:Bool) (A:List Tm):AObj:=⟨true,false,pin,2,A.map aP,0⟩
abbrev qX (t:Tm):AV:= .tup [.sc (.string (gQ t)),bl true]
abbrev aS (pin:Bool) (A:List Tm):AObj:=⟨true,false,pin,0,A.map qX,1⟩
abbrev aV (pin:Bool) (L:Nat):AObj:=⟨false,false,pin,1,[.mp L],0⟩
abbrev aT (pin:Bool) (L n:Nat):AObj:=⟨false,false,pin,1,[.ref L 0 n],0⟩
abbrev bX (A:List Tm):aK:= [(1000,aV true 1002),(1001,aT true 1003 A.length),(1002,aS true A),(1003,aO true A)]
abbrev cB (A:List Tm):aK:= [(1000,aV true 1002),(1001,aT true 1004 A.length),(1002,aS true A),(1004,aO false A)]
def nP (A:List Tm) (t:Tm):Bool:=A.any fun u=>decide (gQ u=gQ t)
theorem aAj {t:Tm}: ∀{A:List Tm} {i:Nat},nP A t=false->dD (.string (gQ t)) (A.map qX) i=some none
 | [],_,_=>rfl
 |u::A,i,h=>by
  unfold nP at h
  rw[List.any_cons,Bool.or_eq_false_iff,decide_eq_false_iff_not]at h
  have e:jS (.string (gQ t)) (.string (gQ u))=some false:=by
   show some (decide (gQ t=gQ u))=_
   rw[decide_eq_false (fun h'=>h.1 h'.symm)]
  rw[List.map_cons,dD,e]
  exact aAj h.2
theorem aTw {t:Tm}: ∀{A:List Tm} {i:Nat},nP A t=true-> ∃j,dD (.string (gQ t)) (A.map qX) i=some (some (j,bl true))
 | [],_,h=>by cases h
 |u::A,i,h=>by
  unfold nP at h
  rw[List.any_cons,Bool.or_eq_true,decide_eq_true_eq]at h
  have e:jS (.string (gQ t)) (.string (gQ u))=some (decide (gQ t=gQ u)):=rfl
  rw[List.map_cons,dD,e]
  by_cases hq:gQ t=gQ u
  ·rw[decide_eq_true hq];exact⟨i,rfl⟩
  ·rw[decide_eq_false hq]
   exact aTw (h.resolve_left fun h'=>hq h'.symm)
theorem dJ0 {t:Tm} {A:List Tm} (h:nP A t=false):fK (.string (gQ t)) (bl true) (A.map qX)=some (A.map qX++ [qX t]):=by
 unfold fK
 rw[aAj h]
theorem aAk {q M:Nat} (hq:q<=1000000) (A:List Tm) (t:Tm) (ho:eQ q M t) (hz:fY t<=2305843009213693952) (hd:t.depth<=1000000) (hA:A.length<=1000000) (h:nP A t=true):
 MCall prog 50 [eT t,.ptr 1000 0 0,.ptr 1001 0 0] (bX A) (fun r o'=>r= .tup []/\o'=bX A):=by
 have h1:=aGo t hz
 obtain⟨j,hm⟩:=aTw (i:=0) h
 generalize gQ t=k at*
 refine dM func50 call50 rfl (by simp[ntmps50]) ?_;simp only[ntmps50,results50]
 repeat' (first|(refine aE fun _ _=>?_)|refine zHg ?_|refine aI rfl (h1) (by simp) ?_|simp(disch:=omega) [go_sem,bX,aV,aT,aS,aO,hm])
 refine eW ⟨24,[],bX A⟩ [] (Le.renSub [] [] (by simp[go_sem,bX,aV,aT,aS,aO]) (by simp[go_sem,bX,aV,aT,aS,aO]) (Le.sub4 rfl (by simp[go_sem,bX,aV,aT,aS,aO]))) (by simp[go_sem,bX,aV,aT,aS,aO]) ⟨rfl,rfl⟩
theorem aAl {q M:Nat} (hq:q<=1000000) (A:List Tm) (t:Tm) (ho:eQ q M t) (hz:fY t<=2305843009213693952) (hd:t.depth<=1000000) (hA:A.length<=1000000) (h:nP A t=false) (h4: ¬t.depth<=4):
 MCall prog 50 [eT t,.ptr 1000 0 0,.ptr 1001 0 0] (bX A) (fun r o'=>r= .tup []/\o'=bX A):=by
 have h1:=aGo t hz
 have h2:=aSy hq t ho hd
 have hm:=aAj (i:=0) h
 have h4': ¬(t.depth:Int)<=4:=by omega
 generalize gQ t=k at*
 refine dM func50 call50 rfl (by simp[ntmps50]) ?_;simp only[ntmps50,results50]
 repeat' (first|(refine aE fun _ _=>?_)|refine zHg ?_|refine aI rfl (h1) (by simp) ?_|refine aI rfl (h2) (by simp) ?_|simp(disch:=omega) [go_sem,bX,aV,aT,aS,aO,hm,h4'])
 refine eW ⟨24,[],bX A⟩ [] (Le.renSub [] [] (by simp[go_sem,bX,aV,aT,aS,aO]) (by simp[go_sem,bX,aV,aT,aS,aO]) (Le.sub4 rfl (by simp[go_sem,bX,aV,aT,aS,aO]))) (by simp[go_sem,bX,aV,aT,aS,aO]) ⟨rfl,rfl⟩
theorem aAm {q M:Nat} (hq:q<=1000000) (A:List Tm) (t:Tm) (ho:eQ q M t) (hz:fY t<=2305843009213693952) (hd:t.depth<=1000000) (hA:A.length<=1000000) (h:nP A t=false) (h4:t.depth<=4):
 MCall prog 50 [eT t,.ptr 1000 0 0,.ptr 1001 0 0] (bX A) (fun r o'=>r= .tup []/\o'=cB (A++ [t])):=by
 have h1:=aGo t hz
 have h2:=aSy hq t ho hd
 have hm:=aAj (i:=0) h
 have hp:fK (.string (gQ t)) (.sc (.bool true)) (A.map qX)=some (A.map qX++ [qX t]):=dJ0 h
 have h4':(t.depth:Int)<=4:=by omega
 have hr:(A++ [t]).map qX=A.map qX++ [qX t]:=by simp
 have hlm:A.length<=140737488355327:=by omega
 have hcs:kO (.agg #[.string ⟨#[]⟩,.slice none 0 0])=some (.agg [.sc (.string ⟨#[]⟩),.list false true []]):=rfl
 have hge: ∀z:AV,(A.map aP++ [z])[A.length]?=some z:=fun z=>by
  rw[List.getElem?_append_right (by simp)];simp
 have hse: ∀z x:AV,(A.map aP++ [z]).set A.length x=A.map aP++ [x]:=fun z x=>by
  rw[List.set_append_right _ _ (by simp)];simp
 refine dM func50 call50 rfl (by simp[ntmps50]) ?_;simp only[ntmps50,results50]
 repeat' (first|(refine aE fun _ _=>?_)|refine zHg ?_|(with_reducible refine eO ?_;first|(exact eL)|(refine zSkip ?_)|(refine eM rfl ?_ ?_))|(with_reducible refine eN ?_;first|(refine zDone ?_)|(refine zQu 0 rfl rfl rfl rfl ?_)|(refine zQu 1 rfl rfl rfl rfl ?_)|(refine zQu 2 rfl rfl rfl rfl ?_)|(refine zQu 5 rfl rfl rfl rfl ?_)|(refine zAll ?_;show dR _ _ _ _ _ _ _))|with_reducible refine eJ ?_|refine aI rfl (h1) (by simp) ?_|refine aI rfl (h2) (by simp) ?_|simp(disch:=omega) [go_sem,hge,hse,bX,aV,aT,aS,aO,hm,hp,h4',hlm,hcs]|refine zAo ?_|refine zAny bA ?_|fail)
 try any_goals omega
 all_goals refine eW ⟨24,[],cB (A++ [t])⟩ [] (Le.renSub [(22,1004),(1004,22)] [(1004,22),(22,1004)] (by simp[go_sem,cB,bX,aV,aT,aS,aO,hr]) (by simp[go_sem,cB,bX,aV,aT,aS,aO,hr]) (Le.sub4 rfl (by simp[go_sem,cB,bX,aV,aT,aS,aO,hr]))) (by simp[go_sem,cB,bX,aV,aT,aS,aO,hr]) ⟨rfl,rfl⟩
theorem aAn {A:List Tm} {t:Tm} (h:nP A t=true):gY A t=A:=by
 unfold gY
 rw[if_neg]
 intro⟨h1,_⟩
 unfold nP at h
 rw[h]at h1;cases h1
theorem aAo {A:List Tm} {t:Tm} (h: ¬t.depth<=4):gY A t=A:=by
 unfold gY
 rw[if_neg fun h'=>h h'.2]
theorem aAp {A:List Tm} {t:Tm} (h:nP A t=false) (h':t.depth<=4):gY A t=A++ [t]:=by
 unfold gY
 rw[if_pos ⟨h,h'⟩]
theorem dJ1 {α β:Type} {f:β->α->β} {b:β} {l:List α} {i:Nat} (h:i<l.length):(l.take (i+1)).foldl f b=f ((l.take i).foldl f b) l[i]:=by
 rw[hZ h,List.foldl_append];rfl
def gA (A X:List Tm) (i:Nat):List Tm:=(X.take i).foldl gY A
theorem aAq {A X:List Tm}:gA A X 0=A:=rfl
theorem aAr {A X:List Tm} {i:Nat} (h:i<X.length):gA A X (i+1)=gY (gA A X i) X[i]:=dJ1 h
theorem aAs {A X:List Tm}:gA A X X.length=X.foldl gY A:=by unfold gA;rw[List.take_length]
theorem wY {A X:List Tm} {i:Nat} (h:i<=X.length):(gA A X i).length<=A.length+i:=by
 have:=(aSp (X:=X.take i) (A:=A)).2
 rw[List.length_take,Nat.min_eq_left h]at this
 exact this
theorem aTx {A:List Tm} {j:Nat} (h:j<A.length):fI (A.take (j+1))=fI (A.take j)++fF A[j]:=by
 unfold fI
 rw[hZ h,List.flatMap_append]
 simp
theorem aTy {A:List Tm} {m:List Tm} {lf:Int}:rW A [] m lf=(some m,lf):=rfl
def aAt (l:List Rl) (f:Nat) (A:List Tm):Option (List Tm)×Int->Bool
 |(some m,lf')=>rX l f A.length ((m++fI A).foldl gY A) lf'
 |(none,_)=>false
theorem aTz {l:List Rl} {f:Nat} {n:Int} {A:List Tm} {lf:Int} (h:n<A.length/\A.length<=1000):rX l (f+1) n A lf=aAt l f A (rW A l [] lf):=by
 rw[rX,if_pos h]
 generalize rW A l [] lf=R
 obtain⟨x,y⟩:=R
 cases x<;>rfl
theorem aAu {l:List Rl} {f:Nat} {n:Int} {A:List Tm} {lf:Int} (h: ¬(n<A.length/\A.length<=1000)):rX l (f+1) n A lf=decide (A.length<=1000):=by
 rw[rX,if_neg h]
def vA (q M B:Nat) (A:List Tm):Prop:= ∀t∈A,eQ q M t/\t.depth<=4/\fY t<=B
theorem dJ5 {q M B:Nat} {A:List Tm} (hA:vA q M B A) {t:Tm} (ht:eQ q M t/\fY t<=B):vA q M B (gY A t):=by
 unfold gY
 split
 ·rename_i h
  intro u hu
  rcases List.mem_append.1 hu with hu|hu
  ·exact hA u hu
  ·rw[List.mem_singleton.1 hu];exact⟨ht.1,h.2,ht.2⟩
 ·exact hA
theorem M8 {q M B:Nat}: ∀{X A:List Tm},vA q M B A->(∀t∈X,eQ q M t/\fY t<=B)->vA q M B (X.foldl gY A)
 | [],_,hA,_=>hA
 |x::X,A,hA,hX=>by
  rw[List.foldl_cons]
  exact M8 (dJ5 hA (hX x (by simp))) fun t ht=>hX t (by simp[ht])
theorem dJ6 {q M B:Nat} (hM:5<=M) {A:List Tm} (hA:vA q M B A): ∀t∈fI A,eQ q M t/\fY t<=B/\t.depth<=1000:=by
 intro t ht
 obtain⟨a,ha,hx⟩:=List.mem_flatMap.1 ht
 obtain⟨h1,h2,h3⟩:=hA a ha
 obtain⟨n,ts⟩:=a
 rw[oE]at h1
 rw[uJ]at h3
 have hd: ∀s:ByteArray,(Tm.mk s ts).depth=(Tm.mk n ts).depth:=fun s=>rfl
 rw[show fF (.mk n ts)=if ts.length=1/\(n=wV\/n=wW)then[.mk gF ts]else if ts.length=2/\n=wX then[.mk jB ts]else[]from rfl]at hx
 have e1:gF.size=4:=rfl
 have e2:jB.size=4:=rfl
 split at hx
 ·rename_i h
  rw[List.mem_singleton.1 hx,oE,uJ,hd]
  have:n.size=4:=by rcases h.2 with rfl|rfl<;>rfl
  exact⟨⟨by omega,h1.2⟩,by omega,by omega⟩
 ·split at hx
  ·rename_i h
   rw[List.mem_singleton.1 hx,oE,uJ,hd]
   have:n.size=5:=by rw[h.2];rfl
   exact⟨⟨by omega,h1.2⟩,by omega,by omega⟩
  ·simp at hx
theorem dJ7 {q M B:Nat} (hq:q<=1000000) (hM:5<=M) (hB:B<=2305843009213693952) (G:List Tm) (fl lg fg:Bool) (hG: ∀t∈G,eQ q M t/\fY t<=B/\t.depth<=1000) (hGl:G.length<=1000):
 ACall prog 27 [.list false fl [],.list lg fg (G.map aP)] (fun r=>r=bl (uU [] G)):=by
 generalize hV:uU [] G=V
 unfold uU at hV
 refine aX func27 call27 rfl (by simp[ntmps27]) ?_;simp only[ntmps27,results27]
 repeat' (first|(refine aE fun _ _=>?_)|refine zHg ?_|simp(disch:=omega) [go_sem])
 refine bZ [0,1,5,7,8,26] [7,23,900,6] (fun i:Nat=> [(27,nt .i64 i)]) (fun i:Nat=> [(7,aT false 900 (gA [] G i).length),(23,aS false (gA [] G i)),(900,aO false (gA [] G i)),(6,aV false 23)]) (fun i:Nat=>G.length - i) (fun i:Nat=>i<=G.length) (0) (by refine Le.trans ?_ (Le.nilBox 7 900 2 rfl (by decide) (by decide));exact(Le.sub4 rfl (by simp[go_sem,aT,aS,aO,aV,aAq,List.map_nil,List.length_nil]))) ⟨?_⟩ ?_
 ·exact Nat.zero_le _
 intro i hi AA hAA;simp only[kL,Nat.reduceBEq,Nat.reduceEqDiff]
 by_cases hlt:i<G.length
 ·skip
  have hnx:=aAr (A:= []) hlt
  have hAl:(gA [] G i).length<=0+i:=wY (A:= []) (Nat.le_of_lt hlt)
  have hAo:vA q M B (gA [] G i):=M8 (fun u hu=>by simp at hu) fun u hu=>⟨(hG u (List.mem_of_mem_take hu)).1,(hG u (List.mem_of_mem_take hu)).2.1⟩
  have ht:=hG _ (List.getElem_mem hlt)
  generalize gA [] G i=Z at*
  generalize hte:G[i]=t at*
  cases hh:nP Z t
  ·by_cases h4:t.depth<=4
   ·have hu:=aAm hq Z t ht.1 (by omega) (by omega) (by omega) hh h4
    rw[aAp hh h4]at hnx
    repeat' (first|(refine aE fun _ _=>?_)|refine zHg ?_|simp(disch:=omega) [go_sem,hlt,hte,aT,aS,aO,aV])
    refine bO [(1000,6),(1001,7),(1002,23),(1003,900)] [(6,1000),(7,1001),(23,1002),(900,1003)] 10000 _ _ (Fits.mk' (by simp[go_sem,bX,cB,aT,aS,aO,aV]) (by simp[go_sem,bX,cB,aT,aS,aO,aV])) (by simp[go_sem,bX,cB,aT,aS,aO,aV]) (by simp[go_sem,bX,cB,aT,aS,aO,aV]) (hu) (by simp[go_sem,bX,cB,aT,aS,aO,aV]) (by simp[go_sem,bX,cB,aT,aS,aO,aV]) ?_
    repeat' (first|(refine aE fun _ _=>?_)|refine zHg ?_|(refine(hAA.next (i+1) (Le.renSub [(11004,900),(900,11004)] [(900,11004),(11004,900)] (by simp[go_sem,hnx,aT,aS,aO,aV,cB]) (by simp[go_sem,hnx,aT,aS,aO,aV,cB]) (Le.sub4 rfl (by simp[go_sem,hnx,aT,aS,aO,aV,cB]))) (by(try dsimp only);omega) ?_))|simp(disch:=omega) [go_sem,hlt,hte,aT,aS,aO,aV,cB])
    try any_goals omega
    exact⟨hlt⟩
   ·have hu:=aAl hq Z t ht.1 (by omega) (by omega) (by omega) hh h4
    rw[aAo h4]at hnx
    repeat' (first|(refine aE fun _ _=>?_)|refine zHg ?_|simp(disch:=omega) [go_sem,hlt,hte,aT,aS,aO,aV])
    refine bO [(1000,6),(1001,7),(1002,23),(1003,900)] [(6,1000),(7,1001),(23,1002),(900,1003)] 10000 _ _ (Fits.mk' (by simp[go_sem,bX,cB,aT,aS,aO,aV]) (by simp[go_sem,bX,cB,aT,aS,aO,aV])) (by simp[go_sem,bX,cB,aT,aS,aO,aV]) (by simp[go_sem,bX,cB,aT,aS,aO,aV]) (hu) (by simp[go_sem,bX,cB,aT,aS,aO,aV]) (by simp[go_sem,bX,cB,aT,aS,aO,aV]) ?_
    repeat' (first|(refine aE fun _ _=>?_)|refine zHg ?_|(refine(hAA.next (i+1) (Le.sub4 rfl (by simp[go_sem,hnx,aT,aS,aO,aV,bX])) (by(try dsimp only);omega) ?_))|simp(disch:=omega) [go_sem,hlt,hte,aT,aS,aO,aV,bX])
    try any_goals omega
    exact⟨hlt⟩
  ·have hu:=aAk hq Z t ht.1 (by omega) (by omega) (by omega) hh
   rw[aAn hh]at hnx
   repeat' (first|(refine aE fun _ _=>?_)|refine zHg ?_|simp(disch:=omega) [go_sem,hlt,hte,aT,aS,aO,aV])
   refine bO [(1000,6),(1001,7),(1002,23),(1003,900)] [(6,1000),(7,1001),(23,1002),(900,1003)] 10000 _ _ (Fits.mk' (by simp[go_sem,bX,cB,aT,aS,aO,aV]) (by simp[go_sem,bX,cB,aT,aS,aO,aV])) (by simp[go_sem,bX,cB,aT,aS,aO,aV]) (by simp[go_sem,bX,cB,aT,aS,aO,aV]) (hu) (by simp[go_sem,bX,cB,aT,aS,aO,aV]) (by simp[go_sem,bX,cB,aT,aS,aO,aV]) ?_
   repeat' (first|(refine aE fun _ _=>?_)|refine zHg ?_|(refine(hAA.next (i+1) (Le.sub4 rfl (by simp[go_sem,hnx,aT,aS,aO,aV,bX])) (by(try dsimp only);omega) ?_))|simp(disch:=omega) [go_sem,hlt,hte,aT,aS,aO,aV,bX])
   try any_goals omega
   exact⟨hlt⟩
 ·obtain rfl:i=G.length:=by omega
  rw[<-aAs]at hV
  have hAl:=wY (A:= []) (X:=G) (Nat.le_refl _)
  have hAo:vA q M B (gA [] G G.length):=M8 (fun u hu=>by simp at hu) fun u hu=>⟨(hG u (List.mem_of_mem_take hu)).1,(hG u (List.mem_of_mem_take hu)).2.1⟩
  simp only[List.length_nil,Nat.zero_add]at hAl
  generalize gA [] G G.length=Z at*
  clear hlt hi
  repeat' (first|(refine aE fun _ _=>?_)|refine zHg ?_|simp(disch:=omega) [go_sem,aT,aS,aO,aV])
  refine bZ [0,5,7,8] [7,23,900,22] (fun y:Nat×Int×List Tm×Int=> [(10,nt .i64 y.2.1)]) (fun y:Nat×Int×List Tm×Int=> [(7,aT false 900 y.2.2.1.length),(23,aS false y.2.2.1),(900,aO false y.2.2.1),(22,bJ false y.2.2.2)]) (fun y:Nat×Int×List Tm×Int=>(1002 - y.2.1).toNat) (fun y:Nat×Int×List Tm×Int=> -1<=y.2.1/\y.2.1<=1000/\1001<=y.1+y.2.1/\vA q M B y.2.2.1/\y.2.2.1.length<=1000000/\0<=y.2.2.2/\y.2.2.2<=1000000/\rX [] (y.1+1) y.2.1 y.2.2.1 y.2.2.2=V) ((1002,-1,Z,1000000)) (Le.sub4 rfl (by simp[go_sem,aT,aS,aO,aV,bJ])) ⟨?_⟩ ?_
  ·exact⟨by(try dsimp only);omega,by(try dsimp only);omega,by(try dsimp only);omega,hAo,by(try dsimp only);omega,by(try dsimp only);omega,by(try dsimp only);omega,hV⟩
  clear hV hAo hAl hG
  intro⟨f,n,A,lf⟩ ⟨hn1,hn2,hf,hA,hAl,h0,h1,hV⟩ AA hAA;simp only[kL,Nat.reduceBEq,Nat.reduceEqDiff]
  dsimp only at*
  by_cases c1:n<A.length
  ·by_cases c2:(A.length:Int)<=1000
   ·rw[aTz ⟨c1,by omega⟩]at hV
    have hAB:=hAA
    repeat' (first|(refine aE fun _ _=>?_)|refine zHg ?_|simp(disch:=omega) [go_sem,c1,c2,aT,aS,aO,aV,bJ])
    refine bZ [0,5,7,8,11,52] [901,22] (fun x:Nat×List Tm×Int=> [(10,nt .i64 A.length),(53,nt .i64 x.1),(12,.ref 901 0 x.2.1.length)]) (fun x:Nat×List Tm×Int=> [(901,aO false x.2.1),(22,bJ false x.2.2)]) (fun x:Nat×List Tm×Int=>([]:List Rl).length - x.1) (fun x:Nat×List Tm×Int=>x.1<=([]:List Rl).length/\x.2.1= []/\x.2.1.length<=x.1*5000/\0<=x.2.2/\x.2.2<=1000000/\aAt [] f A (rW A (([]:List Rl).drop x.1) x.2.1 x.2.2)=V) ((0,[],lf)) (by refine Le.trans ?_ (Le.nil (i:=12) (T:=901) (es:=2) rfl);exact(Le.sub4 rfl (by simp[go_sem,aT,aS,aO,aV,bJ,List.map_nil,List.length_nil]))) ⟨?_⟩ ?_
    ·exact⟨Nat.zero_le _,rfl,by simp,h0,h1,hV⟩
    clear hV h0 h1
    intro⟨i,m,lf⟩ ⟨hi,hm,hml,h0,h1,hV⟩ AA hAA;simp only[kL,Nat.reduceBEq,Nat.reduceEqDiff]
    dsimp only at*
    by_cases hil:i<([]:List Rl).length
    ·exact absurd hil (by simp)
    ·obtain rfl:i=0:=by simp at hi;omega
     rw[List.drop_nil,aTy]at hV
     have hV:rX [] f A.length ((m++fI A).foldl gY A) lf=V:=hV
     repeat' (first|(refine aE fun _ _=>?_)|refine zHg ?_|simp(disch:=omega) [go_sem,aT,aS,aO,aV,bJ])
     refine bZ [0,5,7,8,10,11,95] [901] (fun z:Nat×List Tm=> [(96,nt .i64 z.1),(12,.ref 901 0 z.2.length)]) (fun z:Nat×List Tm=> [(901,aO false z.2)]) (fun z:Nat×List Tm=>A.length - z.1) (fun z:Nat×List Tm=>z.1<=A.length/\z.2=m++fI (A.take z.1)) ((0,m)) (Le.sub4 rfl (by simp[go_sem,aT,aS,aO,aV,bJ])) ⟨?_⟩ ?_
     ·exact⟨Nat.zero_le _,by simp[fI]⟩
     intro⟨j,m'⟩ ⟨hj,hm'⟩ AA hAA;simp only[kL,Nat.reduceBEq,Nat.reduceEqDiff]
     dsimp only at*
     have hln:m'.length<=m.length+j:=by
      have h2:=aGj (A.take j)
      rw[hm',List.length_append]
      rw[List.length_take]at h2
      omega
     by_cases hjl:j<A.length
     ·have hen:=aTx hjl
      generalize hta:A[j]=t at*
      by_cases e1:t.args.length=1
      ·have e1': ¬t.args.length=2:=by omega
       by_cases e2:t.name=wV
       ·have hx:fF t= [.mk gF t.args]:=by unfold fF;rw[if_pos ⟨e1,.inl e2⟩]
        repeat' (first|(refine aE fun _ _=>?_)|refine zHg ?_|(refine(hAA.next ((j+1,m'++ [.mk gF t.args])) (Le.sub4 rfl (by simp[go_sem,aT,aS,aO,aV,bJ])) (by(try dsimp only);omega) ?_))|simp(disch:=omega) [go_sem,hjl,hta,e1,e2,aT,aS,aO,aV,bJ]|refine zAo ?_|fail)
        try any_goals omega
        exact⟨hjl,by rw[hm',hen,hx];simp⟩
       ·by_cases e3:t.name=wW
        ·have hx:fF t= [.mk gF t.args]:=by unfold fF;rw[if_pos ⟨e1,.inr e3⟩]
         repeat' (first|(refine aE fun _ _=>?_)|refine zHg ?_|(refine(hAA.next ((j+1,m'++ [.mk gF t.args])) (Le.sub4 rfl (by simp[go_sem,aT,aS,aO,aV,bJ])) (by(try dsimp only);omega) ?_))|simp(disch:=omega) [go_sem,hjl,hta,e1,e2,e3,aT,aS,aO,aV,bJ]|refine zAo ?_|fail)
         try any_goals omega
         exact⟨hjl,by rw[hm',hen,hx];simp⟩
        ·have hx:fF t= []:=by unfold fF;rw[if_neg (fun h=>h.2.elim e2 e3),if_neg (fun h=>e1' h.1)]
         repeat' (first|(refine aE fun _ _=>?_)|refine zHg ?_|(refine(hAA.next ((j+1,m')) (Le.sub4 rfl (by simp[go_sem,aT,aS,aO,aV,bJ])) (by(try dsimp only);omega) ?_))|simp(disch:=omega) [go_sem,hjl,hta,e1,e1',e2,e3,aT,aS,aO,aV,bJ])
         try any_goals omega
         exact⟨hjl,by rw[hm',hen,hx];simp⟩
      ·by_cases e2:t.args.length=2
       ·by_cases e3:t.name=wX
        ·have hx:fF t= [.mk jB t.args]:=by unfold fF;rw[if_neg (fun h=>e1 h.1),if_pos ⟨e2,e3⟩]
         repeat' (first|(refine aE fun _ _=>?_)|refine zHg ?_|(refine(hAA.next ((j+1,m'++ [.mk jB t.args])) (Le.sub4 rfl (by simp[go_sem,aT,aS,aO,aV,bJ])) (by(try dsimp only);omega) ?_))|simp(disch:=omega) [go_sem,hjl,hta,e1,e2,e3,aT,aS,aO,aV,bJ]|refine zAo ?_|fail)
         try any_goals omega
         exact⟨hjl,by rw[hm',hen,hx];simp⟩
        ·have hx:fF t= []:=by unfold fF;rw[if_neg (fun h=>e1 h.1),if_neg (fun h=>e3 h.2)]
         repeat' (first|(refine aE fun _ _=>?_)|refine zHg ?_|(refine(hAA.next ((j+1,m')) (Le.sub4 rfl (by simp[go_sem,aT,aS,aO,aV,bJ])) (by(try dsimp only);omega) ?_))|simp(disch:=omega) [go_sem,hjl,hta,e1,e2,e3,aT,aS,aO,aV,bJ])
         try any_goals omega
         exact⟨hjl,by rw[hm',hen,hx];simp⟩
       ·have hx:fF t= []:=by unfold fF;rw[if_neg (fun h=>e1 h.1),if_neg (fun h=>e2 h.1)]
        repeat' (first|(refine aE fun _ _=>?_)|refine zHg ?_|(refine zgd ?_ ?_<;>(intro h;first|(exfalso;omega)|(simp only[h,zT])))|(refine(hAA.next ((j+1,m')) (Le.sub4 rfl (by simp[go_sem,aT,aS,aO,aV,bJ])) (by(try dsimp only);omega) ?_))|simp(disch:=omega) [go_sem,hjl,hta,e1,e2,aT,aS,aO,aV,bJ])
        try any_goals omega
        exact⟨hjl,by rw[hm',hen,hx];simp⟩
     ·obtain rfl:j=A.length:=by omega
      rw[List.take_length]at hm'
      rw[<-hm']at hV
      have hX: ∀t∈m',eQ q M t/\fY t<=B/\t.depth<=1000:=fun t h=>by
       rw[hm']at h
       exact(List.mem_append.1 h).elim (fun h=>by rw[hm]at h;cases h) (dJ6 hM hA t)
      obtain⟨g,rfl⟩: ∃g,f=g+1:=⟨f - 1,by omega⟩
      generalize m'=X at*
      clear hm' hm
      repeat' (first|(refine aE fun _ _=>?_)|refine zHg ?_|simp(disch:=omega) [go_sem,aT,aS,aO,aV,bJ])
      refine bZ [0,5,7,8,10,12,159] [7,23,900] (fun z:Nat=> [(160,nt .i64 z)]) (fun z:Nat=> [(7,aT false 900 (gA A X z).length),(23,aS false (gA A X z)),(900,aO false (gA A X z))]) (fun z:Nat=>X.length - z) (fun z:Nat=>z<=X.length) (0) (Le.sub4 rfl (by simp[go_sem,aT,aS,aO,aV,bJ,aAq])) ⟨?_⟩ ?_
      ·exact Nat.zero_le _
      intro z hz AA hAA;simp only[kL,Nat.reduceBEq,Nat.reduceEqDiff]
      by_cases hlt:z<X.length
      ·skip
       have hnx:=aAr (A:=A) hlt
       have hAl:=wY (A:=A) (Nat.le_of_lt hlt)
       have hAo:vA q M B (gA A X z):=M8 hA fun u hu=>⟨(hX u (List.mem_of_mem_take hu)).1,(hX u (List.mem_of_mem_take hu)).2.1⟩
       have ht:=hX _ (List.getElem_mem hlt)
       generalize gA A X z=Z at*
       generalize hte:X[z]=t at*
       cases hh:nP Z t
       ·by_cases h4:t.depth<=4
        ·have hu:=aAm hq Z t ht.1 (by omega) (by omega) (by omega) hh h4
         rw[aAp hh h4]at hnx
         repeat' (first|(refine aE fun _ _=>?_)|refine zHg ?_|simp(disch:=omega) [go_sem,hlt,hte,aT,aS,aO,aV])
         refine bO [(1000,6),(1001,7),(1002,23),(1003,900)] [(6,1000),(7,1001),(23,1002),(900,1003)] 40000 _ _ (Fits.mk' (by simp[go_sem,bX,cB,aT,aS,aO,aV]) (by simp[go_sem,bX,cB,aT,aS,aO,aV])) (by simp[go_sem,bX,cB,aT,aS,aO,aV]) (by simp[go_sem,bX,cB,aT,aS,aO,aV]) (hu) (by simp[go_sem,bX,cB,aT,aS,aO,aV]) (by simp[go_sem,bX,cB,aT,aS,aO,aV]) ?_
         repeat' (first|(refine aE fun _ _=>?_)|refine zHg ?_|(refine(hAA.next (z+1) (Le.renSub [(41004,900),(900,41004)] [(900,41004),(41004,900)] (by simp[go_sem,hnx,aT,aS,aO,aV,cB]) (by simp[go_sem,hnx,aT,aS,aO,aV,cB]) (Le.sub4 rfl (by simp[go_sem,hnx,aT,aS,aO,aV,cB]))) (by(try dsimp only);omega) ?_))|simp(disch:=omega) [go_sem,hlt,hte,aT,aS,aO,aV,cB])
         try any_goals omega
         exact⟨hlt⟩
        ·have hu:=aAl hq Z t ht.1 (by omega) (by omega) (by omega) hh h4
         rw[aAo h4]at hnx
         repeat' (first|(refine aE fun _ _=>?_)|refine zHg ?_|simp(disch:=omega) [go_sem,hlt,hte,aT,aS,aO,aV])
         refine bO [(1000,6),(1001,7),(1002,23),(1003,900)] [(6,1000),(7,1001),(23,1002),(900,1003)] 40000 _ _ (Fits.mk' (by simp[go_sem,bX,cB,aT,aS,aO,aV]) (by simp[go_sem,bX,cB,aT,aS,aO,aV])) (by simp[go_sem,bX,cB,aT,aS,aO,aV]) (by simp[go_sem,bX,cB,aT,aS,aO,aV]) (hu) (by simp[go_sem,bX,cB,aT,aS,aO,aV]) (by simp[go_sem,bX,cB,aT,aS,aO,aV]) ?_
         repeat' (first|(refine aE fun _ _=>?_)|refine zHg ?_|(refine(hAA.next (z+1) (Le.sub4 rfl (by simp[go_sem,hnx,aT,aS,aO,aV,bX])) (by(try dsimp only);omega) ?_))|simp(disch:=omega) [go_sem,hlt,hte,aT,aS,aO,aV,bX])
         try any_goals omega
         exact⟨hlt⟩
       ·have hu:=aAk hq Z t ht.1 (by omega) (by omega) (by omega) hh
        rw[aAn hh]at hnx
        repeat' (first|(refine aE fun _ _=>?_)|refine zHg ?_|simp(disch:=omega) [go_sem,hlt,hte,aT,aS,aO,aV])
        refine bO [(1000,6),(1001,7),(1002,23),(1003,900)] [(6,1000),(7,1001),(23,1002),(900,1003)] 40000 _ _ (Fits.mk' (by simp[go_sem,bX,cB,aT,aS,aO,aV]) (by simp[go_sem,bX,cB,aT,aS,aO,aV])) (by simp[go_sem,bX,cB,aT,aS,aO,aV]) (by simp[go_sem,bX,cB,aT,aS,aO,aV]) (hu) (by simp[go_sem,bX,cB,aT,aS,aO,aV]) (by simp[go_sem,bX,cB,aT,aS,aO,aV]) ?_
        repeat' (first|(refine aE fun _ _=>?_)|refine zHg ?_|(refine(hAA.next (z+1) (Le.sub4 rfl (by simp[go_sem,hnx,aT,aS,aO,aV,bX])) (by(try dsimp only);omega) ?_))|simp(disch:=omega) [go_sem,hlt,hte,aT,aS,aO,aV,bX])
        try any_goals omega
        exact⟨hlt⟩
      ·obtain rfl:z=X.length:=by omega
       have hAl2:=wY (A:=A) (X:=X) (Nat.le_refl _)
       have hAo:=M8 hA fun u hu=>⟨(hX u hu).1,(hX u hu).2.1⟩
       rw[aAs]at*
       repeat' (first|(refine aE fun _ _=>?_)|refine zHg ?_|(refine(hAB.next ((g,A.length,X.foldl gY A,lf)) (Le.sub4 rfl (by simp[go_sem,aT,aS,aO,aV,bJ])) (by(try dsimp only);omega) ?_))|simp(disch:=omega) [go_sem,aT,aS,aO,aV,bJ])
       try any_goals omega
       exact⟨by(try dsimp only);omega,by(try dsimp only);omega,by(try dsimp only);omega,hAo,by(try dsimp only);omega,h0,h1,hV⟩
   ·rw[aAu (fun h=>c2 (by omega)),decide_eq_false (fun h=>c2 (by omega))]at hV
    subst hV
    repeat' (first|(refine aE fun _ _=>?_)|refine zHg ?_|(refine aL [] ?_;simp[go_sem,c1,c2,aT,aS,aO,aV,bJ])|simp(disch:=omega) [go_sem,c1,c2,aT,aS,aO,aV,bJ])
  ·rw[aAu (fun h=>c1 h.1)]at hV
   by_cases c2:A.length<=1000
   ·rw[decide_eq_true c2]at hV
    subst hV
    have c3:(A.length:Int)<=1000:=by omega
    repeat' (first|(refine aE fun _ _=>?_)|refine zHg ?_|(refine aL [] ?_;simp[go_sem,c1,c3,aT,aS,aO,aV,bJ])|simp(disch:=omega) [go_sem,c1,c3,aT,aS,aO,aV,bJ])
   ·rw[decide_eq_false c2]at hV
    subst hV
    have c3: ¬(A.length:Int)<=1000:=by omega
    repeat' (first|(refine aE fun _ _=>?_)|refine zHg ?_|(refine aL [] ?_;simp[go_sem,c1,c3,aT,aS,aO,aV,bJ])|simp(disch:=omega) [go_sem,c1,c3,aT,aS,aO,aV,bJ])
set_option maxHeartbeats 8000000
mutual
def lK (M:Nat):Tm->Prop
 | .mk n ts=>n.size<=M/\C5 M ts
def C5 (M:Nat):List Tm->Prop
 | []=>True
 |t::ts=>lK M t/\C5 M ts
end
theorem C6 {M:Nat}: ∀{l:List Tm},C5 M l↔ ∀t∈l,lK M t
 | []=>by simp[C5]
 |t::r=>by rw[C5,C6];simp
open Go.Ab Go.ChangeShapes Go.WideShapes Go.ChangeAt Go.RowKit
theorem own:ownKnob prog.godebug=none:=by kernel_rfl
theorem dNi:Kids prog (· <prog.types.size):=kids_rows (by kernel_rfl) (by kernel_rfl)
theorem iT: ∀t e,t<prog.types.size->prog.underlying t=some (.slice e)->0<prog.cellsOf e:=slices_full_of prog (by kernel_rfl)
section
variable {H : Type} {enc : TypeId × Value -> H} {W : World}
theorem aT2: ∀n:Nat,Came enc prog W n 33 eT (lK reachBytes)/\Came enc prog W n 23 (fun l:List Tm=> .list false false (l.map aP)) (C5 reachBytes)
 |0=>⟨Came.zero,Came.zero⟩
 |n+1=>by
  obtain⟨h1,h2⟩:=aT2 n
  refine⟨(Came.struct underlying33 rfl (by kernel_rfl) (CameF.cons 1 rfl (by kernel_rfl) (Came.string underlying9) (CameF.cons 1 rfl (by kernel_rfl) h2 CameF.nil))).map (fun x=>Tm.mk x.1 x.2.1) (fun x h=>⟨⟨h.1,h.2.1⟩,rfl⟩),?_⟩
  refine(Came.slice underlying23 (by decide+kernel) (by decide+kernel) h1).map (fun x=>x) (fun x h=>⟨C6.2 h.1,?_⟩)
  congr 1
  exact List.map_congr_left fun t _=>jH t
end
open Go.Ab Go.RowKit
section
variable {H : Type} {enc : TypeId × Value -> H} {W : World}
theorem dKa: ∀n:Nat,Came enc prog W n 33 eT (lK reachBytes):=fun n=>(aT2 n).1
theorem dNj: ∀n:Nat,Came enc prog W n 23 (fun l:List Tm=> .list false false (l.map aP)) (fun l=>(∀t∈l,lK reachBytes t)/\l.length<=dU)
 |0=>Came.zero
 |n+1=>((Came.slice underlying23 (by decide+kernel) (by decide+kernel) (dKa n)).len).map (fun x=>x) (fun x h=>⟨⟨h.1.1,h.2⟩,by congr 1;exact List.map_congr_left fun t _=>jH t⟩)
end
open Go.Ab Go.ChangeShapes Go.WideShapes Go.ChangeAt Go.RowKit
set_option maxRecDepth 100000
theorem dNk (os:Os) (args:Array Value):laidMetH prog Rows.relaxPartsRow.laid ((World.doorLaid prog 400 os).forCall (fun _ _=>0) ⟨#[],args,[]⟩).memory:=
 laidMetH_of_parts3 (fuel:=8) (laidMet_of_run' 8 (by kernel_rfl) (by kernel_rfl)) (by kernel_rfl) (by kernel_rfl)
end Go.Proofs.YtgmibdiofkmmbaaGreatDoor
