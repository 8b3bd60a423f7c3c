import Derived.Test.YtkbglbcphjmiiaaGreatDoorS1
import Derived.Test.YtkbglbcphjmiiaaGreatDoorA5
import Derived.Lib.Strings
import Derived.Lib.Slices
import Derived.Lib.Walk
import Derived.Lib.Bytealg
set_option linter.unusedSimpArgs false
set_option linter.unusedVariables false
open Go.Proofs.Tryz
namespace Go.Proofs.YtkbglbcphjmiiaaGreatDoor
open Go.Ab
inductive Tm where
 |mk (name:ByteArray) (args:List Tm)
namespace Tm
def name:Tm→ByteArray
 | .mk s _=>s
def args:Tm→List Tm
 | .mk _ ts=>ts
end Tm
mutual
def bO:Tm→AV
 | .mk s ts=> .agg [.sc (.string s),.list false false (G6 ts)]
def G6:List Tm→List AV
 | []=> []
 |t::r=>bO t::G6 r
end
theorem aEy: ∀l:List Tm,G6 l=l.map bO
 | []=>rfl
 |t::r=>by rw[G6,aEy r];rfl
abbrev eT (t:Tm):AV:= .agg [.sc (.string t.name),.list false false (t.args.map bO)]
theorem G7: ∀t:Tm,bO t=eT t
 | .mk s ts=>by rw[bO,aEy];rfl
theorem yT {s:ByteArray} {ts:List Tm}:(Tm.mk s ts).name=s:=rfl
theorem cT {s:ByteArray} {ts:List Tm}:(Tm.mk s ts).args=ts:=rfl
attribute [go_sem] G7 yT cT
mutual
def Tm.size:Tm→Nat
 | .mk _ ts=>1+cU ts
def cU:List Tm→Nat
 | []=>0
 |t::r=>t.size+cU r
end
mutual
def Tm.depth:Tm→Nat
 | .mk _ ts=>eV ts+1
def eV:List Tm→Nat
 | []=>0
 |t::r=>max t.depth (eV r)
end
theorem iA (t:Tm):t.size=1+cU t.args:=by cases t;rfl
theorem pS (t:Tm):t.depth=eV t.args+1:=by cases t;rfl
theorem U5: ∀a b:List Tm,cU (a++b)=cU a+cU b
 | [],b=>by simp[cU]
 |t::r,b=>by simp[cU,U5 r b,Nat.add_assoc]
theorem U6: ∀a b:List Tm,eV (a++b)=max (eV a) (eV b)
 | [],b=>by simp[eV]
 |t::r,b=>by simp only[List.cons_append,eV,U6 r b];omega
theorem iT {α:Type} {l:List α} {i:Nat} (h:i<l.length):l.take (i+1)=l.take i++ [l[i]]:=by
 rw[List.take_add_one,List.getElem?_eq_getElem h];rfl
theorem aEz {l:List Tm} {i:Nat} (h:i<l.length):cU (l.take (i+1))=cU (l.take i)+l[i].size:=by
 rw[iT h,U5];simp[cU]
theorem cDq {l:List Tm} {i:Nat} (h:i<l.length):eV (l.take (i+1))=max (eV (l.take i)) l[i].depth:=by
 rw[iT h,U6];simp[eV]
theorem G8: ∀{l:List Tm} {t:Tm},t∈l→t.size≤cU l
 |u::r,t,h=>by
  rcases List.mem_cons.1 h with rfl|h
  ·simp[cU]
  ·have:=G8 h;simp only[cU];omega
theorem vT {l:List Tm} {i:Nat} (h:i<l.length):l[i].size≤cU l:=G8 (List.getElem_mem h)
theorem aE0 (l:List Tm) (i:Nat):cU (l.take i)≤cU l:=by
 have:=U5 (l.take i) (l.drop i)
 rw[List.take_append_drop]at this;omega
theorem tV (t:Tm):1≤t.size:=by rw[iA];omega
theorem sG: ∀l:List Tm,l.length≤cU l
 | []=>by simp[cU]
 |t::r=>by have:=sG r;have:=tV t;simp only[cU,List.length_cons];omega
theorem cDr: ∀t:Tm,t.depth≤t.size:=by
 have key: ∀n (t:Tm),t.size≤n→t.depth≤t.size:=by
  intro n
  induction n with
  |zero=>intro t h;have:=tV t;omega
  |succ n ih=>
   intro t h
   rw[iA]at*
   rw[pS]
   have: ∀l:List Tm,cU l≤n→eV l≤cU l:=by
    intro l
    induction l with
    |nil=>intro _;simp[eV,cU]
    |cons u r ihr=>
     intro hl
     simp only[cU,eV]at*
     have h1:=ih u (by omega)
     have h2:=ihr (by omega)
     omega
   have:=this t.args (by omega)
   omega
 exact fun t=>key t.size t (Nat.le_refl _)
theorem dS {p:Tm→Prop} (h: ∀t:Tm,(∀u∈t.args,p u)→p t): ∀t,p t:=by
 have key: ∀n (t:Tm),t.size≤n→p t:=by
  intro n
  induction n with
  |zero=>intro t h;have:=tV t;omega
  |succ n ih=>
   intro t ht
   refine h t fun u hu=>ih u ?_
   have:=G8 hu
   rw[iA]at ht;omega
 exact fun t=>key t.size t (Nat.le_refl _)
open Go.Ab
set_option maxRecDepth 100000
set_option maxHeartbeats 4000000
theorem cDs (a b:Nat):((max a b:Nat):Int)=max (a:Int) (b:Int):=by omega
mutual
def kN (m:Int):Int→Tm→Int
 |lv,.mk _ ts=>if lv<1 then m+1 else iI m (lv - 1) 1 ts
def iI (m:Int):Int→Int→List Tm→Int
 |_,n,[]=>n
 |lv,n,t::r=>if n>m then n else iI m lv (n+kN m lv t) r
end
theorem yU {m lv:Int} {t:Tm}:kN m lv t=if lv<1 then m+1 else iI m (lv - 1) 1 t.args:=by cases t;rfl
theorem U7 {m:Int} (hm:0≤m): ∀(t:Tm) (lv:Int),1≤kN m lv t:=by
 refine dS fun t ih lv=>?_
 rw[yU]
 split
 ·omega
 ·have key: ∀(r:List Tm),(∀u∈r,∀lv,1≤kN m lv u)→ ∀n,1≤n→1≤iI m (lv - 1) n r:=by
   intro r
   induction r with
   |nil=>intro _ n hn;simpa[iI]using hn
   |cons u r ihr=>
    intro h n hn
    simp only[iI]
    split
    ·exact hn
    ·have:=h u (by simp) (lv - 1)
     exact ihr (fun v hv=>h v (by simp[hv])) _ (by omega)
  exact key t.args ih 1 (by omega)
theorem cDt {m:Int} (hm:0≤m): ∀(k:Nat) (t:Tm) (lv:Int),lv≤k→kN m lv t≤(k+1)*(m+1):=by
 intro k
 induction k with
 |zero=>
  intro t lv h
  rw[yU,if_pos (by omega)]
  simp
 |succ k ih=>
  intro t lv h
  rw[yU]
  have e:((k+1:Nat)+1:Int)*(m+1)=((k:Int)+1)*(m+1)+(m+1):=by
   rw[show((k+1:Nat)+1:Int)=((k:Int)+1)+1 by omega,Int.add_mul,Int.one_mul]
  have hp:0≤((k:Int)+1)*(m+1):=Int.mul_nonneg (by omega) (by omega)
  split
  ·omega
  ·have key: ∀(r:List Tm) (n:Int),n≤((k:Int)+1)*(m+1)+m+1→iI m (lv - 1) n r≤((k:Int)+1)*(m+1)+m+1:=by
    intro r
    induction r with
    |nil=>intro n hn;simpa[iI]using hn
    |cons u r ihr=>
     intro n hn
     simp only[iI]
     split
     ·exact hn
     ·have:=ih u (lv - 1) (by omega)
      exact ihr _ (by omega)
   have h1:1≤((k:Int)+1)*(m+1)+m+1:=by omega
   have:=key t.args 1 h1
   omega
theorem cDu {m:Int} (hm:0≤m): ∀(t:Tm) (lv:Int),kN m lv t≤m→(kN m lv t=t.size∧(t.depth:Int)≤lv):=by
 refine dS fun t ih lv h=>?_
 rw[yU]at*
 split at h
 ·omega
 ·rename_i hl
  rw[if_neg hl]
  have key: ∀(r:List Tm),(∀u∈r,u∈t.args)→ ∀n,1≤n→iI m (lv - 1) n r≤m→iI m (lv - 1) n r=n+cU r∧(eV r:Int)≤lv - 1:=by
   intro r
   induction r with
   |nil=>intro _ n hn _;simp[iI,cU,eV];omega
   |cons u r ihr=>
    intro hr n hn hp
    simp only[iI]at*
    split at hp
    ·omega
    ·rename_i hc
     rw[if_neg hc]
     have g:=U7 hm u (lv - 1)
     have hmono: ∀(r:List Tm) (n:Int),n≤iI m (lv - 1) n r:=by
      intro r
      induction r with
      |nil=>intro n;simp[iI]
      |cons u r ihr=>
       intro n
       simp only[iI]
       split
       ·omega
       ·have g:=U7 hm u (lv - 1)
        have:=ihr (n+kN m (lv - 1) u)
        omega
     have h2:=hmono r (n+kN m (lv - 1) u)
     obtain⟨a1,a2⟩:=ih u (hr u (by simp)) (lv - 1) (by omega)
     obtain⟨b1,b2⟩:=ihr (fun v hv=>hr v (by simp[hv])) (n+kN m (lv - 1) u) (by omega) hp
     simp only[cU,eV]
     omega
  obtain⟨a1,a2⟩:=key t.args (fun u hu=>hu) 1 (by omega) h
  rw[iA,pS]
  omega
def qY (m:Int) (t:Tm):Bool:=decide (kN m m t≤m)
theorem G9 {m:Int} (hm:0≤m) {t:Tm} (h:qY m t=true):(t.size:Int)≤m:=by
 have:=of_decide_eq_true h
 have:=(cDu hm t m this).1
 omega
theorem cDv {m:Int} (hm:0≤m∧m≤10000) (t:Tm) {lv:Int} (h:lv≤10000):1≤kN m lv t∧kN m lv t≤100020001:=by
 refine⟨U7 hm.1 t lv,?_⟩
 have h1:=cDt hm.1 10000 t lv h
 omega
theorem cDw (m:Int) (hm:0≤m∧m≤10000): ∀(t:Tm) (lv:Int),lv≤10000→ -10000≤lv→ACall prog 86 [eT t,nt .i64 m,nt .i64 lv] (fun r=>r=nt .i64 (kN m lv t)):=by
 refine dS fun t ih lv hlv hlv2=>?_
 obtain⟨s,ts⟩:=t
 rw[yU]
 simp only[cT]at*
 by_cases hl:lv<1
 ·rw[if_pos hl]
  refine bD func86 call86 rfl (by simp[ntmps86]) ?_;simp only[ntmps86,results86]
  repeat' (first|(refine aC fun _ _=>?_)|refine zHg ?_|(refine zqd ?_ ?_<;>(intro h;first|(exfalso;omega)|(simp only[h,zT])))|(refine aT [] ?_;simp[go_sem])|simp(disch:=omega) [go_sem])
 ·rw[if_neg hl]
  generalize hR:iI m (lv - 1) 1 ts=R
  refine bD func86 call86 rfl (by simp[ntmps86]) ?_;simp only[ntmps86,results86]
  repeat' (first|(refine aC fun _ _=>?_)|refine zHg ?_|(refine zqd ?_ ?_<;>(intro h;first|(exfalso;omega)|(simp only[h,zT])))|simp(disch:=omega) [go_sem])
  refine bR [1,2,3,15] [] (fun x:Nat×Int=> [(16,nt .i64 x.1),(7,nt .i64 x.2)]) (fun x:Nat×Int=> []) (fun x:Nat×Int=>ts.length - x.1) (fun x:Nat×Int=>x.1≤ts.length∧1+(x.1:Int)≤x.2∧x.2≤100040001∧(x.1<ts.length→x.1≤10000∨x.2>m)∧iI m (lv - 1) x.2 (ts.drop x.1)=R) ((0,1)) (Le.sub4 rfl (by simp[go_sem])) ⟨?_⟩ ?_
  ·exact⟨Nat.zero_le _,by simp,by simp,by simp,by simpa using hR⟩
  intro⟨i,n⟩ ⟨hi,hn,hn2,hbd,hr⟩ AA hAA;simp only[kL,Nat.reduceBEq,Nat.reduceEqDiff,if_true,if_false,List.cons_append,List.nil_append,List.append_nil]
  dsimp only at*
  by_cases hlt:i<ts.length
  ·have hu:=ih ts[i] (List.getElem_mem hlt) (lv - 1) (by omega) (by omega)
   have hb:=cDv hm ts[i] (lv:=lv - 1) (by omega)
   have hd:ts.drop i=ts[i]::ts.drop (i+1):=List.drop_eq_getElem_cons hlt
   rw[hd]at hr
   simp only[iI]at hr
   by_cases hc:n>m
   ·rw[if_pos hc]at hr
    repeat' (first|(refine aC fun _ _=>?_)|refine zHg ?_|(refine zqd ?_ ?_<;>(intro h;first|(exfalso;omega)|(simp only[h,zT])))|(refine aT [] ?_;simp[go_sem,hlt,hr])|simp(disch:=omega) [go_sem,hlt,hr])
   ·rw[if_neg hc]at hr
    repeat' (first|(refine aC fun _ _=>?_)|refine zHg ?_|(refine zqd ?_ ?_<;>(intro h;first|(exfalso;omega)|(simp only[h,zT])))|refine aP rfl (hu) (by simp) ?_|(refine(hAA.next ((i+1,n+kN m (lv - 1) ts[i])) (Le.sub4 rfl (by simp[go_sem])) (by(try dsimp only);omega) ?_))|simp(disch:=omega) [go_sem,hlt])
    exact⟨⟨by omega,by omega,by omega,by omega,hr⟩⟩
  ·obtain rfl:i=ts.length:=by omega
   simp[iI]at hr
   repeat' (first|(refine aC fun _ _=>?_)|refine zHg ?_|(refine aT [] ?_;simp[go_sem])|simp(disch:=omega) [go_sem])
   exact hr
theorem aE1 (t:Tm) (m:Int) (hm:0≤m∧m≤10000):ACall prog 48 [eT t,nt .i64 m] (fun r=>r=bl (qY m t)):=by
 have h:=cDw m hm t m hm.2 (by omega)
 unfold qY
 generalize kN m m t=q at*
 refine bD func48 call48 rfl (by simp[ntmps48]) ?_;simp only[ntmps48,results48]
 repeat' (first|(refine aC fun _ _=>?_)|refine zHg ?_|(refine aT [] ?_;simp[go_sem])|refine aP rfl (h) (by simp) ?_|simp(disch:=omega) [go_sem])
open Go.Ab
set_option maxRecDepth 100000
def vU (p:Int×Int):AV:= .agg [nt .u8 p.1,nt .u8 p.2]
def jQ (c:Int) (l:List (Int×Int)):Bool:=l.any fun p=>decide (p.1≤c)&&decide (c≤p.2)
theorem aE2 (c:Int) (l f:Bool) (ss:List (Int×Int)) (hl:ss.length≤1000):ACall prog 142 [nt .u8 c,.list l f (ss.map vU)] (fun r=>r=bl (jQ c ss)):=by
 refine bD func142 call142 rfl (by simp[ntmps142]) ?_;simp only[ntmps142,results142]
 repeat' (first|(refine aC fun _ _=>?_)|refine zHg ?_|simp(disch:=omega) [go_sem])
 refine F9 (fun n s=> ∃i:Nat,i≤ss.length∧n=ss.length - i∧jQ c (ss.take i)=false∧s= {n:=24,t:= [(0,nt .u8 c),(7,.list l f (ss.map vU)),(8,nt .i64 ss.length),(9,nt .i64 i),(4,bl false)],o:= []})
  ss.length {n:=24,t:= [(0,nt .u8 c),(7,.list l f (ss.map vU)),(8,nt .i64 ss.length),(9,nt .i64 0),(4,bl false)],o:= []} (Le.sub4 rfl (by simp[go_sem])) ⟨0,Nat.zero_le _,rfl,rfl,rfl⟩ ?_
 rintro _ _ ⟨i,hi,rfl,hin,rfl⟩
 by_cases hlt:i<ss.length
 ·have hs:jQ c (ss.take (i+1))=(decide (ss[i].1≤c)&&decide (c≤ss[i].2)):=by
   rw[List.take_add_one,List.getElem?_eq_getElem hlt];unfold jQ at*;rw[List.any_append,hin];simp
  repeat' (first|(refine aC fun _ _=>?_)|refine zHg ?_|((first|refine zqd ?_ ?_|refine zgd ?_ ?_)<;>(intro h;(simp only[h,zT])))|(refine aT [] ?_;simp[go_sem,hlt,vU])|(refine Again.mk (ss.length - (i+1)) {n:=24,t:= [(0,nt .u8 c),(7,.list l f (ss.map vU)),(8,nt .i64 ss.length),(9,nt .i64 (i+1:Nat)),(4,bl false)],o:= []} (by omega) (Le.sub4 rfl (by simp[go_sem])) ⟨i+1,by omega,rfl,by rw[hs];simp[*],rfl⟩)|simp(disch:=omega) [go_sem,hlt,vU])
  unfold jQ
  rw[List.any_eq_true]
  exact⟨ss[i],List.getElem_mem hlt,by simp[*]⟩
 ·obtain rfl:i=ss.length:=by omega
  rw[List.take_length]at hin
  repeat' (first|(refine aC fun _ _=>?_)|refine zHg ?_|(refine aT [] ?_;simp[go_sem,hin])|simp(disch:=omega) [go_sem,hin])
def nW (s:ByteArray) (p q r:Int×Int) (n:Nat):Bool:=(List.range n).all fun i=>jQ (bt s i) [p,q,r]
theorem aE3 (s:ByteArray) (p q r:Int×Int) (n:Nat):nW s p q r (n+1)=(nW s p q r n&&jQ (bt s n) [p,q,r]):=by
 simp[nW,List.range_succ,List.all_append]
def kO (s:ByteArray) (p q r:Int×Int):Bool:=decide (1≤s.size)&&decide (s.size≤16)&&jQ (bt s 0) [p]&&nW s p q r s.size
theorem aE4 {s:ByteArray} {p q r:Int×Int} {i:Nat} (h:jQ (bt s i) [p,q,r]=false) {n:Nat} (hn:i<n):nW s p q r n=false:=by
 unfold nW;rw[List.all_eq_false];exact⟨i,by simpa using hn,by simp[h]⟩
theorem aE5 (s:ByteArray) (p q r:Int×Int):ACall prog 106 [.sc (.string s),.agg [nt .u8 p.1,nt .u8 p.2,nt .u8 q.1,nt .u8 q.2,nt .u8 r.1,nt .u8 r.2]] (fun x=>x=bl (kO s p q r)):=by
 have h1:ACall prog 142 [nt .u8 (bt s 0),.list true false [.agg [nt .u8 p.1,nt .u8 p.2]]] (fun x=>x=bl (jQ (bt s 0) [p])):=aE2 (bt s 0) true false [p] (by simp)
 have h3: ∀i,ACall prog 142 [nt .u8 (bt s i),.list true false [.agg [nt .u8 p.1,nt .u8 p.2],.agg [nt .u8 q.1,nt .u8 q.2],.agg [nt .u8 r.1,nt .u8 r.2]]] (fun x=>x=bl (jQ (bt s i) [p,q,r])):=fun i=>aE2 (bt s i) true false [p,q,r] (by simp)
 by_cases a1:1≤s.size∧s.size≤16
 ·by_cases a2:jQ (bt s 0) [p]=true
  ·have e:kO s p q r=nW s p q r s.size:=by simp[kO,a1,a2]
   rw[e]
   rw[a2]at h1
   refine bD func106 call106 rfl (by simp[ntmps106]) ?_;simp only[ntmps106,results106]
   repeat' (first|(refine aC fun _ _=>?_)|refine zHg ?_|(refine zdd ?_ ?_<;>(intro h;first|(exfalso;omega)|(simp only[h,zT])))|refine cP rfl (h1) rfl (by simp) ?_|simp(disch:=omega) [go_sem]|refine zAo ?_|refine zDr 15 bE ?_|fail)
   refine F9 (fun nn ss_=> ∃i:Nat,i≤s.size∧nn=s.size - i∧(nW s p q r i=true)∧ss_= {n:=33,t:= [(0,.sc (.string s)),(3,.ptr 3 0 0),(5,nt .i64 (i))],o:= [(3,{arr:=false,fz:=false,pin:=false,es:=6,xs:= [.agg [nt .u8 p.1,nt .u8 p.2,nt .u8 q.1,nt .u8 q.2,nt .u8 r.1,nt .u8 r.2]]})]}) (s.size) {n:=33,t:= [(0,.sc (.string s)),(3,.ptr 3 0 0),(5,nt .i64 (0))],o:= [(3,{arr:=false,fz:=false,pin:=false,es:=6,xs:= [.agg [nt .u8 p.1,nt .u8 p.2,nt .u8 q.1,nt .u8 q.2,nt .u8 r.1,nt .u8 r.2]]})]} (Le.sub4 rfl (by simp[go_sem])) ⟨0,Nat.zero_le _,rfl,rfl,rfl⟩ ?_;rintro _ _ ⟨i,hi,rfl,hin,rfl⟩
   have hb:=h3 i
   by_cases hlt:i<s.size
   ·cases hz:jQ (bt s i) [p,q,r]with
    |false=>
     rw[hz]at hb
     repeat' (first|(refine aC fun _ _=>?_)|refine zHg ?_|(refine aT [] ?_;simp[go_sem,hlt])|refine cP rfl (hb) rfl (by simp) ?_|simp(disch:=omega) [go_sem,hlt]|refine zDr 6 bE ?_|fail)
     all_goals exact aE4 hz hlt
    |true=>
     rw[hz]at hb
     have hs:nW s p q r (i+1)=true:=by rw[aE3,hin,hz];rfl
     repeat' (first|(refine aC fun _ _=>?_)|refine zHg ?_|refine cP rfl (hb) rfl (by simp) ?_|refine Again.mk (s.size - (i+1)) {n:=33,t:= [(0,.sc (.string s)),(3,.ptr 3 0 0),(5,nt .i64 ((i+1:Nat)))],o:= [(3,{arr:=false,fz:=false,pin:=false,es:=6,xs:= [.agg [nt .u8 p.1,nt .u8 p.2,nt .u8 q.1,nt .u8 q.2,nt .u8 r.1,nt .u8 r.2]]})]} (by omega) (Le.sub4 rfl (by simp[go_sem])) ⟨i+1,by omega,rfl,hs,rfl⟩|simp(disch:=omega) [go_sem,hlt]|refine zDr 6 bE ?_|fail)
   ·obtain rfl:i=s.size:=by omega
    repeat' (first|(refine aC fun _ _=>?_)|refine zHg ?_|(refine aT [] ?_;simp[go_sem,hin])|simp(disch:=omega) [go_sem,hin])
  ·have e:kO s p q r=false:=by simp[kO,a2]
   rw[e]
   simp only[Bool.not_eq_true]at a2
   rw[a2]at h1
   refine bD func106 call106 rfl (by simp[ntmps106]) ?_;simp only[ntmps106,results106]
   repeat' (first|(refine aC fun _ _=>?_)|refine zHg ?_|(refine zdd ?_ ?_<;>(intro h;first|(exfalso;omega)|(simp only[h,zT])))|(refine aT [] ?_;simp[go_sem])|refine cP rfl (h1) rfl (by simp) ?_|simp(disch:=omega) [go_sem]|refine zAo ?_|refine zDr 15 bE ?_|fail)
 ·have e:kO s p q r=false:=by simp[kO];omega
  rw[e]
  refine bD func106 call106 rfl (by simp[ntmps106]) ?_;simp only[ntmps106,results106]
  repeat' (first|(refine aC fun _ _=>?_)|refine zHg ?_|(refine zdd ?_ ?_<;>(intro h;first|(exfalso;omega)|(simp only[h,zT])))|(refine aT [] ?_;simp[go_sem])|simp(disch:=omega) [go_sem]|refine zDr 15 bE ?_|fail)
abbrev sIf:ByteArray:=ByteArray.mk #[105,102]
abbrev aE7:ByteArray:=ByteArray.mk #[97,110,100]
abbrev U8:ByteArray:=ByteArray.mk #[110,111,116]
theorem U9 (c:Int) (p q r:Int×Int):jQ c [p,q,r]=decide ((p.1≤c∧c≤p.2)∨(q.1≤c∧c≤q.2)∨(r.1≤c∧c≤r.2)):=by
 rw[Bool.eq_iff_iff];simp[jQ]
theorem V0 (c:Int) (p:Int×Int):jQ c [p]=decide (p.1≤c∧c≤p.2):=by
 rw[Bool.eq_iff_iff];simp[jQ]
def lI (s:ByteArray):Bool:=kO s (97,122) (48,57) (45,45)&& !decide (s=sIf)&& !decide (s=aE7)&& !decide (s=U8)
theorem aE8 (s:ByteArray):ACall prog 67 [.sc (.string s)] (fun r=>r=bl (lI s)):=by
 have h1:=aE5 s (97,122) (48,57) (45,45)
 simp only[lI]
 generalize kO s (97,122) (48,57) (45,45)=b at*
 refine bD func67 call67 rfl (by simp[ntmps67]) ?_;simp only[ntmps67,results67]
 cases b
 ·repeat' (first|(refine aC fun _ _=>?_)|refine zHg ?_|(refine aT [] ?_;simp[go_sem])|refine aP rfl (h1) (by simp) ?_|simp(disch:=omega) [go_sem])
 ·repeat' (first|(refine aC fun _ _=>?_)|refine zHg ?_|(refine zgn ?_ ?_<;>(intro h;(simp only[h,zT])))|(refine aT [] ?_;simp[go_sem])|refine aP rfl (h1) (by simp) ?_|simp(disch:=omega) [go_sem])
  all_goals(simp_all [sIf,aE7,U8]<;>(rw[Bool.eq_iff_iff];simp))
def cA (s:ByteArray):Bool:=kO s (65,90) (97,122) (48,57)
theorem H0 (s:ByteArray):ACall prog 70 [.sc (.string s)] (fun r=>r=bl (cA s)):=by
 have h1:=aE5 s (65,90) (97,122) (48,57)
 simp only[cA]
 generalize kO s (65,90) (97,122) (48,57)=b at*
 refine bD func70 call70 rfl (by simp[ntmps70]) ?_;simp only[ntmps70,results70]
 repeat' (first|(refine aC fun _ _=>?_)|refine zHg ?_|(refine aT [] ?_;simp[go_sem])|refine aP rfl (h1) (by simp) ?_|simp(disch:=omega) [go_sem])
theorem cDx (c:Int):ACall prog 97 [nt .u8 c] (fun r=>r=bl (decide (97≤c∧c≤122))):=by
 refine bD func97 call97 rfl (by simp[ntmps97]) ?_;simp only[ntmps97,results97]
 repeat' (first|(refine aC fun _ _=>?_)|refine zHg ?_|(refine zgd ?_ ?_<;>(intro h;(simp only[h,zT])))|(refine aT [] ?_;simp[go_sem])|simp(disch:=omega) [go_sem])
 all_goals(first|omega|(rw[Bool.eq_iff_iff];simp;omega))
theorem aE9 (c:Int):ACall prog 96 [nt .u8 c] (fun r=>r=bl (decide (65≤c∧c≤90))):=by
 refine bD func96 call96 rfl (by simp[ntmps96]) ?_;simp only[ntmps96,results96]
 repeat' (first|(refine aC fun _ _=>?_)|refine zHg ?_|(refine zgd ?_ ?_<;>(intro h;(simp only[h,zT])))|(refine aT [] ?_;simp[go_sem])|simp(disch:=omega) [go_sem])
 all_goals(first|omega|(rw[Bool.eq_iff_iff];simp;omega))
theorem cDy (c:Int):ACall prog 98 [nt .u8 c] (fun r=>r=bl (decide (48≤c∧c≤57))):=by
 refine bD func98 call98 rfl (by simp[ntmps98]) ?_;simp only[ntmps98,results98]
 repeat' (first|(refine aC fun _ _=>?_)|refine zHg ?_|(refine zgd ?_ ?_<;>(intro h;(simp only[h,zT])))|(refine aT [] ?_;simp[go_sem])|simp(disch:=omega) [go_sem])
 all_goals(first|omega|(rw[Bool.eq_iff_iff];simp;omega))
theorem aFa (s:ByteArray):ACall prog 53 [.sc (.string s)] (fun r=>r=bl (cA s)):=by
 have h1:=aE9 (bt s 0)
 by_cases a1:1≤s.size∧s.size≤16∧(65≤bt s 0∧bt s 0≤90)
 ·have e:cA s=nW s (65,90) (97,122) (48,57) s.size:=by simp[cA,kO,a1,V0]
  rw[e]
  obtain⟨b1,b2,b3⟩:=a1
  refine bD func53 call53 rfl (by simp[ntmps53]) ?_;simp only[ntmps53,results53]
  repeat' (first|(refine aC fun _ _=>?_)|refine zHg ?_|(refine zgd ?_ ?_<;>(intro h;first|(exfalso;omega)|(simp only[h,zT])))|refine aP rfl (h1) (by simp) ?_|simp(disch:=omega) [go_sem]|refine zAo ?_|(refine zqs ?_ ?_<;>(intro h;first|(exfalso;simp at h;omega)|((try simp only[h]);(try simp at h)))))
  refine F9 (fun nn ss_=> ∃i:Nat,i≤s.size∧nn=s.size - i∧(nW s (65,90) (97,122) (48,57) i=true)∧ss_= {n:=43,t:= [(0,.sc (.string s)),(19,nt .i64 s.size),(20,nt .i64 (i))],o:= []}) (s.size) {n:=43,t:= [(0,.sc (.string s)),(19,nt .i64 s.size),(20,nt .i64 (0))],o:= []} (Le.sub4 rfl (by simp[go_sem])) ⟨0,Nat.zero_le _,rfl,rfl,rfl⟩ ?_;rintro _ _ ⟨i,hi,rfl,hin,rfl⟩
  have hl:=cDx (bt s i)
  have hu:=aE9 (bt s i)
  have hd:=cDy (bt s i)
  by_cases hlt:i<s.size
  ·have hs:=aE3 s (65,90) (97,122) (48,57) i
   rw[U9,hin,Bool.true_and]at hs
   dsimp only at hs
   repeat' (first|(refine aC fun _ _=>?_)|refine zHg ?_|(refine aT [] ?_;simp[go_sem,hlt])|refine aP rfl (hl) (by simp) ?_|refine aP rfl (hd) (by simp) ?_|refine aP rfl (hu) (by simp) ?_|(refine Again.mk (s.size - (i+1)) {n:=43,t:= [(0,.sc (.string s)),(19,nt .i64 s.size),(20,nt .i64 ((i+1:Nat)))],o:= []} (by omega) (Le.sub4 rfl (by simp[go_sem])) ⟨i+1,by omega,rfl,by rw[hs];exact decide_eq_true (by omega),rfl⟩)|simp(disch:=omega) [go_sem,hlt]|((first|refine zqs ?_ ?_|refine zgs ?_ ?_)<;>(intro h;((try simp only[h]);(try simp at h)))))
   all_goals exact aE4 (i:=i) (by rw[U9];exact decide_eq_false (by(try dsimp only);omega)) hlt
  ·obtain rfl:i=s.size:=by omega
   repeat' (first|(refine aC fun _ _=>?_)|refine zHg ?_|(refine aT [] ?_;simp[go_sem,hin])|simp(disch:=omega) [go_sem,hin])
 ·have e:cA s=false:=by
   rw[Bool.eq_false_iff]
   intro h
   simp[cA,kO,V0]at h
   exact a1 (by simp[h])
  rw[e]
  refine bD func53 call53 rfl (by simp[ntmps53]) ?_;simp only[ntmps53,results53]
  repeat' (first|(refine aC fun _ _=>?_)|refine zHg ?_|(refine zgd ?_ ?_<;>(intro h;(simp only[h,zT])))|(refine aT [] ?_;simp[go_sem])|refine aP rfl (h1) (by simp) ?_|simp(disch:=omega) [go_sem]|refine zAo ?_|(refine zqs ?_ ?_<;>(intro h;first|(exfalso;simp at h;omega)|((try simp only[h]);(try simp at h)))))
  all_goals(exfalso;apply a1;omega)
def mA (s:ByteArray) (n:Nat):Bool:=(List.range n).all fun i=>decide (48≤bt s i∧bt s i≤57)
theorem aFb (s:ByteArray) (n:Nat):mA s (n+1)=(mA s n&&decide (48≤bt s n∧bt s n≤57)):=by
 simp[mA,List.range_succ,List.all_append]
theorem cDz {s:ByteArray} {i n:Nat} (h: ¬(48≤bt s i∧bt s i≤57)) (hn:i<n):mA s n=false:=by
 unfold mA;rw[List.all_eq_false];exact⟨i,by simpa using hn,by simpa using h⟩
def jR (s:ByteArray):Nat→Int
 |0=>0
 |n+1=>10*jR s n+(bt s n - 48)
theorem V1 {s:ByteArray}: ∀{n:Nat},mA s n=true→0≤jR s n∧jR s n≤10^n - 1
 |0,_=>by simp[jR]
 |n+1,h=>by
  rw[aFb,Bool.and_eq_true,decide_eq_true_eq]at h
  have:=V1 h.1
  rw[Int.pow_succ]
  simp only[jR]
  omega
theorem cD0 {s:ByteArray} {n:Nat} (h:mA s n=true) (hn:n≤3):0≤jR s n∧jR s n≤999:=by
 have h1:=V1 h
 have:n=0∨n=1∨n=2∨n=3:=by omega
 rcases this with rfl|rfl|rfl|rfl<;>simp at h1<;>omega
theorem cD1 {s:ByteArray} {n:Nat} (h:mA s n=true) (hn:n≤4):0≤jR s n∧jR s n≤9999:=by
 have h1:=V1 h
 have:n=0∨n=1∨n=2∨n=3∨n=4:=by omega
 rcases this with rfl|rfl|rfl|rfl|rfl<;>simp at h1<;>omega
def fZ (s:ByteArray):Int×Bool:=if(1≤s.size∧s.size≤4∧ ¬(bt s 0=48∧1<s.size))∧mA s s.size=true then(jR s s.size,true)else(0,false)
theorem cD2 {s:ByteArray} (h: ¬(1≤s.size∧s.size≤4∧ ¬(bt s 0=48∧1<s.size))):fZ s=(0,false):=by
 unfold fZ;rw[if_neg (fun e=>h e.1)]
theorem cD3 {s:ByteArray} (h:1≤s.size∧s.size≤4∧ ¬(bt s 0=48∧1<s.size)):fZ s=if mA s s.size=true then(jR s s.size,true)else(0,false):=by
 unfold fZ;simp only[h,true_and];simp
theorem aFc (s:ByteArray):ACall prog 102 [.sc (.string s)] (fun r=>r= .tup [nt .i64 (fZ s).1,bl (fZ s).2]):=by
 by_cases a1:1≤s.size∧s.size≤4∧ ¬(bt s 0=48∧1<s.size)
 ·rw[cD3 a1]
  refine bD func102 call102 rfl (by simp[ntmps102]) ?_;simp only[ntmps102,results102]
  repeat' (first|(refine aC fun _ _=>?_)|refine zHg ?_|((first|refine zqd ?_ ?_|refine zgd ?_ ?_)<;>(intro h;first|(exfalso;omega)|(simp only[h,zT])))|simp(disch:=omega) [go_sem]|refine zAo ?_|fail)
  all_goals(try(exfalso;omega))
  all_goals
   refine F9 (fun nn ss_=> ∃i:Nat,i≤s.size∧nn=s.size - i∧(mA s i=true)∧ss_= {n:=51,t:= [(0,.sc (.string s)),(4,nt .i64 (jR s i)),(5,nt .i64 (i))],o:= []}) (s.size) {n:=51,t:= [(0,.sc (.string s)),(4,nt .i64 (jR s 0)),(5,nt .i64 (0))],o:= []} (Le.sub4 rfl (by simp[go_sem,jR])) ⟨0,Nat.zero_le _,rfl,rfl,rfl⟩ ?_;rintro _ _ ⟨i,hi,rfl,hin,rfl⟩
   have hb:=bBh s i
   by_cases hlt:i<s.size
   ·have hv:=cD0 hin (by omega)
    have hs:=aFb s i
    rw[hin,Bool.true_and]at hs
    repeat' (first|(refine aC fun _ _=>?_)|refine zHg ?_|((first|refine zqd ?_ ?_|refine zgd ?_ ?_)<;>(intro h;(simp only[h,zT])))|(refine aT [] ?_;simp[go_sem,hlt])|(refine Again.mk (s.size - (i+1)) {n:=51,t:= [(0,.sc (.string s)),(4,nt .i64 (jR s (i+1:Nat))),(5,nt .i64 ((i+1:Nat)))],o:= []} (by omega) (Le.sub4 rfl (by simp[go_sem,jR])) ⟨i+1,by omega,rfl,by rw[hs];exact decide_eq_true (by omega),rfl⟩)|simp(disch:=omega) [go_sem,hlt])
    all_goals(try simp)
    all_goals(have hf:mA s s.size=false:=cDz (i:=i) (by omega) hlt)
    all_goals(simp[hf])
   ·obtain rfl:i=s.size:=by omega
    have hv:=cD1 hin (by omega)
    repeat' (first|(refine aC fun _ _=>?_)|refine zHg ?_|(refine aT [] ?_;simp[go_sem,hin])|simp(disch:=omega) [go_sem,hin])
    all_goals(try simp[hin])
    all_goals(try omega)
 ·rw[cD2 a1]
  refine bD func102 call102 rfl (by simp[ntmps102]) ?_;simp only[ntmps102,results102]
  repeat' (first|(refine aC fun _ _=>?_)|refine zHg ?_|((first|refine zqd ?_ ?_|refine zgd ?_ ?_)<;>(intro h;first|(exfalso;omega)|(simp only[h,zT])))|(refine aT [] ?_;simp[go_sem])|simp(disch:=omega) [go_sem]|refine zAo ?_|fail)
  all_goals(exfalso;omega)
theorem cD4 (s:ByteArray):ACall prog 143 [.sc (.string s)] (fun r=>r=bl (fZ s).2):=by
 have hc:=aFc s
 generalize fZ s=q at*
 obtain⟨v,b⟩:=q
 dsimp only at*
 refine bD func143 call143 rfl (by simp[ntmps143]) ?_;simp only[ntmps143,results143]
 repeat' (first|(refine aC fun _ _=>?_)|refine zHg ?_|(refine aT [] ?_;simp[go_sem])|refine aP rfl (hc) (by simp) ?_|simp(disch:=omega) [go_sem])
set_option maxHeartbeats 4000000
def pT (s:ByteArray):Bool:=lI s||(fZ s).2
mutual
def eW:Int→Bool→Tm→Bool
 |lv,v,.mk s ts=>if lv<1∨4<ts.length then false else if ts.length=0 then pT s||(v&&cA s)else lI s&&gS (lv - 1) v ts
def gS:Int→Bool→List Tm→Bool
 |_,_,[]=>true
 |lv,v,t::r=>eW lv v t&&gS lv v r
end
theorem tW {lv:Int} {v:Bool} {s:ByteArray} {ts:List Tm}:eW lv v (.mk s ts)=if lv<1∨4<ts.length then false else if ts.length=0 then pT s||(v&&cA s)else lI s&&gS (lv - 1) v ts:=rfl
theorem aFd {lv:Int} {v:Bool}: ∀a b:List Tm,gS lv v (a++b)=(gS lv v a&&gS lv v b)
 | [],b=>by simp[gS]
 |t::r,b=>by simp[gS,aFd r b,Bool.and_assoc]
theorem cD5 {lv:Int} {v:Bool} {l:List Tm} {i:Nat} (h:i<l.length):gS lv v (l.take (i+1))=(gS lv v (l.take i)&&eW lv v l[i]):=by
 rw[iT h,aFd];simp[gS]
theorem aFe {lv:Int} {v:Bool}: ∀{l:List Tm} {t:Tm},t∈l→eW lv v t=false→gS lv v l=false
 |u::r,t,h,hf=>by
  rcases List.mem_cons.1 h with rfl|h
  ·simp[gS,hf]
  ·simp[gS,aFe h hf]
theorem cD6 (v:Bool): ∀(t:Tm) (lv:Int),-1000≤lv→lv≤1000→ACall prog 107 [eT t,nt .i64 lv,bl v] (fun r=>r=bl (eW lv v t)):=by
 refine dS fun t ih lv hl1 hl2=>?_
 obtain⟨s,ts⟩:=t
 rw[tW]
 simp only[cT,yT]at*
 have h1:=aE8 s
 have h2:=cD4 s
 have h3:=H0 s
 unfold pT
 by_cases hc:lv<1∨4<ts.length
 ·rw[if_pos hc]
  refine bD func107 call107 rfl (by simp[ntmps107]) ?_;simp only[ntmps107,results107]
  repeat' (first|(refine aC fun _ _=>?_)|refine zHg ?_|((first|refine zqd ?_ ?_|refine zgd ?_ ?_)<;>(intro h;first|(exfalso;omega)|(simp only[h,zT])))|(refine aT [] ?_;simp[go_sem])|simp(disch:=omega) [go_sem])
  all_goals omega
 ·rw[if_neg hc]
  simp only[not_or]at hc
  obtain⟨hc1,hc2⟩:=hc
  by_cases h0:ts.length=0
  ·rw[if_pos h0]
   generalize lI s=a at*
   generalize(fZ s).2=b at*
   generalize cA s=c at*
   refine bD func107 call107 rfl (by simp[ntmps107]) ?_;simp only[ntmps107,results107]
   cases a<;>cases b<;>cases v
   all_goals
    repeat' (first|(refine aC fun _ _=>?_)|refine zHg ?_|(refine zgd ?_ ?_<;>(intro h;first|(exfalso;omega)|(simp only[h,zT])))|(refine aT [] ?_;simp[go_sem,h0])|refine aP rfl (h1) (by simp) ?_|refine aP rfl (h2) (by simp) ?_|refine aP rfl (h3) (by simp) ?_|simp(disch:=omega) [go_sem,h0])
  ·rw[if_neg h0]
   generalize hR:(lI s&&gS (lv - 1) v ts)=R
   refine bD func107 call107 rfl (by simp[ntmps107]) ?_;simp only[ntmps107,results107]
   repeat' (first|(refine aC fun _ _=>?_)|refine zHg ?_|((first|refine zqd ?_ ?_|refine zgd ?_ ?_)<;>(intro h;first|(exfalso;omega)|(simp only[h,zT])))|simp(disch:=omega) [go_sem,h0])
   refine bR [1,2,3,38,39] [] (fun i:Nat=> [(40,nt .i64 i)]) (fun i:Nat=> []) (fun i:Nat=>ts.length - i) (fun i:Nat=>i≤ts.length∧gS (lv - 1) v (ts.take i)=true) (0) (Le.sub4 rfl (by simp[go_sem])) ⟨?_⟩ ?_
   ·exact⟨Nat.zero_le _,rfl⟩
   intro i ⟨hi,hw⟩ AA hAA;simp only[kL,Nat.reduceBEq,Nat.reduceEqDiff,if_true,if_false,List.cons_append,List.nil_append,List.append_nil]
   by_cases hlt:i<ts.length
   ·have hu:=ih ts[i] (List.getElem_mem hlt) (lv - 1) (by omega) (by omega)
    have hn:=cD5 (lv:=lv - 1) (v:=v) hlt
    rw[hw,Bool.true_and]at hn
    cases hq:eW (lv - 1) v ts[i]with
    |true=>
     rw[hq]at hu hn
     repeat' (first|(refine aC fun _ _=>?_)|refine zHg ?_|refine aP rfl (hu) (by simp) ?_|(refine(hAA.next (i+1) (Le.sub4 rfl (by simp[go_sem])) (by(try dsimp only);omega) ?_))|simp(disch:=omega) [go_sem,hlt])
     exact⟨⟨hlt,hn⟩⟩
    |false=>
     rw[hq]at hu
     have:=aFe (List.getElem_mem hlt) hq
     rw[this,Bool.and_false]at hR
     subst hR
     repeat' (first|(refine aC fun _ _=>?_)|refine zHg ?_|(refine aT [] ?_;simp[go_sem,hlt])|refine aP rfl (hu) (by simp) ?_|simp(disch:=omega) [go_sem,hlt])
   ·obtain rfl:i=ts.length:=by omega
    rw[List.take_length]at hw
    rw[hw,Bool.and_true]at hR
    subst hR
    repeat' (first|(refine aC fun _ _=>?_)|refine zHg ?_|(refine aT [] ?_;simp[go_sem])|refine aP rfl (h1) (by simp) ?_|simp(disch:=omega) [go_sem])
theorem cD7 (t:Tm):ACall prog 68 [eT t] (fun r=>r=bl (eW 4 true t)):=by
 have h:=cD6 true t 4 (by decide) (by decide)
 generalize eW 4 true t=b at*
 refine bD func68 call68 rfl (by simp[ntmps68]) ?_;simp only[ntmps68,results68]
 repeat' (first|(refine aC fun _ _=>?_)|refine zHg ?_|(refine aT [] ?_;simp[go_sem])|refine aP rfl (h) (by simp) ?_|simp(disch:=omega) [go_sem])
open Go.Ab Go.RowKit
set_option maxRecDepth 100000
set_option maxHeartbeats 4000000
theorem cD8 (a b:ByteArray) (w:World):
 Calls prog 103 #[.string a,.string b] w fun e w'=>e= .returned (.int .i64 (Lib.compareBytes a.data.toList b.data.toList))∧w'=w:=by
 go_enter func103,ntmps103
 go_wp2
 rw[run_callFunc_extern func141 (by kernel_rfl) (by kernel_rfl) (by kernel_rfl) (e:=Extern.BytealgCompare.compare) (by kernel_rfl),Lib.run_compareString]
 simp only[Result.andThen]
 rw[Oper.upon_value]
 go_wp2
 go_ret
 exact⟨rfl,rfl⟩
theorem APost.refl {F:Bool→bJ} {w:World} (h:Fok F w):APost F w F w:=⟨h,FLe.refl _,fun _ _ _ h=> .inl h,fun _ _ _ h=> .inl h,Fr.refl _ _⟩
def cD (a b:ByteArray):Int:=Lib.compareBytes a.data.toList b.data.toList
theorem cD9 (a b:ByteArray):ACall prog 103 [.sc (.string a),.sc (.string b)] (fun r=>r=nt .i64 (cD a b)):=by
 refine⟨call103,fun w F cargs h0 h1 h2 h3=>?_⟩
 obtain⟨l⟩:=cargs
 match l,h2,h3 with
 | [v0,v1],_,h3=>
  have g0:=h3 0 _ v0 rfl rfl
  have g1:=h3 1 _ v1 rfl rfl
  cases g0
  cases g1
  exact(cD8 a b w).mono fun e w' ⟨he,hw⟩=>by
   subst hw
   exact⟨_,nt .i64 (cD a b),F,he,rfl,APost.refl h1,none,rfl,.sc rfl⟩
theorem aFf (a b:ByteArray):ACall prog 61 [.sc (.string a),.sc (.string b)] (fun r=>r=nt .i64 (cD a b)):=by
 have h:=cD9 a b
 generalize cD a b=c at*
 refine bD func61 call61 rfl (by simp[ntmps61]) ?_;simp only[ntmps61,results61]
 repeat' (first|(refine aC fun _ _=>?_)|refine zHg ?_|(refine aT [] ?_;simp[go_sem])|refine aP rfl (h) (by simp) ?_|simp(disch:=omega) [go_sem])
theorem aFg: ∀a b:List UInt8,Lib.compareBytes a b= -1∨Lib.compareBytes a b=0∨Lib.compareBytes a b=1
 | [],[]=>by simp[Lib.compareBytes]
 | [],_::_=>by simp[Lib.compareBytes]
 |_::_,[]=>by simp[Lib.compareBytes]
 |a::xs,b::bs=>by
  simp only[Lib.compareBytes]
  split
  ·simp
  ·split
   ·simp
   ·exact aFg xs bs
theorem aFh: ∀a b:List UInt8,Lib.compareBytes a b=0↔a=b
 | [],[]=>by simp[Lib.compareBytes]
 | [],_::_=>by simp[Lib.compareBytes]
 |_::_,[]=>by simp[Lib.compareBytes]
 |a::xs,b::bs=>by
  simp only[Lib.compareBytes]
  split
  ·rename_i h
   have:a≠b:=fun e=>by subst e;exact UInt8.lt_irrefl _ h
   simp[this]
  ·split
   ·rename_i h
    have:a≠b:=fun e=>by subst e;exact UInt8.lt_irrefl _ h
    simp[this]
   ·rename_i h1 h2
    have:a=b:=UInt8.le_antisymm (UInt8.not_lt.1 h2) (UInt8.not_lt.1 h1)
    subst this
    rw[aFh xs bs];simp
theorem aFi: ∀a b:List UInt8,Lib.compareBytes b a= -Lib.compareBytes a b
 | [],[]=>by simp[Lib.compareBytes]
 | [],_::_=>by simp[Lib.compareBytes]
 |_::_,[]=>by simp[Lib.compareBytes]
 |a::xs,b::bs=>by
  simp only[Lib.compareBytes]
  by_cases h1:a<b
  ·have h2: ¬b<a:=fun h=>UInt8.lt_irrefl _ (UInt8.lt_trans h h1)
   simp[h1,h2]
  ·by_cases h2:b<a
   ·simp[h1,h2]
   ·simp[h1,h2,aFi xs bs]
theorem aFj: ∀a b c:List UInt8,Lib.compareBytes a b≤0→Lib.compareBytes b c≤0→Lib.compareBytes a c≤0
 | [],_,[],_,_=>by simp[Lib.compareBytes]
 | [],_,_::_,_,_=>by simp[Lib.compareBytes]
 |a::xs,[],_,h,_=>by simp[Lib.compareBytes]at h
 |a::xs,b::bs,[],_,h=>by simp[Lib.compareBytes]at h
 |a::xs,b::bs,c::cs,h1,h2=>by
  simp only[Lib.compareBytes]at*
  by_cases hac:a<c
  ·simp[hac]
  ·by_cases hab:a<b
   ·have hcb:c<b:=Nat.lt_of_le_of_lt (UInt8.not_lt.1 hac) hab
    have hbc: ¬b<c:=fun h=>UInt8.lt_irrefl _ (UInt8.lt_trans h hcb)
    rw[if_neg hbc,if_pos hcb]at h2
    omega
   ·rw[if_neg hab]at h1
    by_cases hba:b<a
    ·rw[if_pos hba]at h1;omega
    ·rw[if_neg hba]at h1
     have e:a=b:=UInt8.le_antisymm (UInt8.not_lt.1 hba) (UInt8.not_lt.1 hab)
     subst e
     rw[if_neg hac]at h2
     by_cases hca:c<a
     ·rw[if_pos hca]at h2;omega
     ·rw[if_neg hca]at h2
      rw[if_neg hac,if_neg hca]
      exact aFj xs bs cs h1 h2
theorem aFk: ∀a b:List UInt8,Op.bytesLess a b=decide (Lib.compareBytes a b<0)
 | [],[]=>by simp[Lib.compareBytes,Op.bytesLess]
 | [],_::_=>by simp[Lib.compareBytes,Op.bytesLess]
 |_::_,[]=>by simp[Lib.compareBytes,Op.bytesLess]
 |a::xs,b::bs=>by
  simp only[Lib.compareBytes,Op.bytesLess]
  by_cases h1:a<b
  ·simp[h1]
  ·by_cases h2:b<a
   ·have:a≠b:=fun e=>by subst e;exact UInt8.lt_irrefl _ h2
    simp[h1,h2,this]
   ·have:a=b:=UInt8.le_antisymm (UInt8.not_lt.1 h2) (UInt8.not_lt.1 h1)
    subst this
    simp[UInt8.lt_irrefl,aFk xs bs]
theorem aFl (a b:ByteArray):cD a b= -1∨cD a b=0∨cD a b=1:=aFg _ _
theorem sH {a b:ByteArray}:cD a b=0↔a=b:=by
 unfold cD
 rw[aFh]
 constructor
 ·intro h
  obtain⟨⟨a⟩⟩:=a;obtain⟨⟨b⟩⟩:=b
  simp only at h;subst h;rfl
 ·rintro rfl;rfl
theorem H1 (a b:ByteArray):cD b a= -cD a b:=aFi _ _
theorem aFm {a b c:ByteArray} (h1:cD a b≤0) (h2:cD b c≤0):cD a c≤0:=aFj _ _ _ h1 h2
theorem toList_data (a:ByteArray):a.toList=a.data.toList:=Lib.toList_data a
theorem cEa (a b:ByteArray):Op.bytesLess a.toList b.toList=decide (cD a b<0):=by
 rw[toList_data,toList_data,aFk];rfl
theorem cEb (a:ByteArray):cD a a=0:=sH.2 rfl
def dI (a b:Int):Int:=if a<b then -1 else if b<a then 1 else 0
theorem H2 (a b:Int):ACall prog 60 [nt .i64 a,nt .i64 b] (fun r=>r=nt .i64 (dI a b)):=by
 unfold dI
 refine bD func60 call60 rfl (by simp[ntmps60]) ?_;simp only[ntmps60,results60]
 repeat' (first|(refine aC fun _ _=>?_)|refine zHg ?_|(refine zqd ?_ ?_<;>(intro h;(simp only[h,zT])))|(refine aT [] ?_;simp[go_sem])|simp(disch:=omega) [go_sem])
 all_goals(first|omega|simp[*])
def kd (t:Tm):Int×Int×Int×ByteArray:=
 if 0<t.args.length then(3,0,t.args.length,t.name)
 else if(fZ t.name).2=true then(0,(fZ t.name).1,0,ByteArray.mk #[])
 else if cA t.name=true then(2,0,0,t.name)
 else(1,0,0,t.name)
abbrev eK (k:Int×Int×Int×ByteArray):AV:= .agg [nt .i64 k.1,nt .i64 k.2.1,nt .i64 k.2.2.1,.sc (.string k.2.2.2)]
theorem aFn (t:Tm):ACall prog 58 [eT t] (fun r=>r=eK (kd t)):=by
 have h1:=aFc t.name
 have h2:=H0 t.name
 unfold kd
 by_cases h0:0<t.args.length
 ·rw[if_pos h0]
  have h0':(0:Int)<t.args.length:=by omega
  refine bD func58 call58 rfl (by simp[ntmps58]) ?_;simp only[ntmps58,results58]
  repeat' (first|(refine aC fun _ _=>?_)|refine zHg ?_|(refine aT [] ?_;simp[go_sem,h0])|simp(disch:=omega) [go_sem,h0])
 ·rw[if_neg h0]
  generalize fZ t.name=q at*
  obtain⟨v,b⟩:=q
  dsimp only at*
  cases b
  ·generalize cA t.name=c at*
   cases c
   ·refine bD func58 call58 rfl (by simp[ntmps58]) ?_;simp only[ntmps58,results58]
    repeat' (first|(refine aC fun _ _=>?_)|refine zHg ?_|(refine aT [] ?_;simp[go_sem,h0])|refine aP rfl (h1) (by simp) ?_|refine aP rfl (h2) (by simp) ?_|simp(disch:=omega) [go_sem,h0])
   ·refine bD func58 call58 rfl (by simp[ntmps58]) ?_;simp only[ntmps58,results58]
    repeat' (first|(refine aC fun _ _=>?_)|refine zHg ?_|(refine aT [] ?_;simp[go_sem,h0])|refine aP rfl (h1) (by simp) ?_|refine aP rfl (h2) (by simp) ?_|simp(disch:=omega) [go_sem,h0])
  ·refine bD func58 call58 rfl (by simp[ntmps58]) ?_;simp only[ntmps58,results58]
   repeat' (first|(refine aC fun _ _=>?_)|refine zHg ?_|(refine aT [] ?_;simp[go_sem,h0])|refine aP rfl (h1) (by simp) ?_|simp(disch:=omega) [go_sem,h0])
mutual
def eF:Tm→Tm→Int
 | .mk s ts,b=>
  let x:=kd (.mk s ts)
  let y:=kd b
  if x=y then eO ts b.args
  else if x.1≠y.1 then dI x.1 y.1
  else if x.2.1≠y.2.1 then dI x.2.1 y.2.1
  else if x.2.2.1≠y.2.2.1 then dI x.2.2.1 y.2.2.1
  else cD x.2.2.2 y.2.2.2
def eO:List Tm→List Tm→Int
 | [],[]=>0
 | [],_::_=> -1
 |_::_,[]=>1
 |t::r,u::q=>if eF t u≠0 then eF t u else eO r q
end
theorem aFo {a b:Tm}:eF a b=if kd a=kd b then eO a.args b.args
 else if(kd a).1≠(kd b).1 then dI (kd a).1 (kd b).1
 else if(kd a).2.1≠(kd b).2.1 then dI (kd a).2.1 (kd b).2.1
 else if(kd a).2.2.1≠(kd b).2.2.1 then dI (kd a).2.2.1 (kd b).2.2.1
 else cD (kd a).2.2.2 (kd b).2.2.2:=by cases a;rfl
theorem cEd (ts us:List Tm) (l f l' f':Bool) (h: ∀t∈ts,∀u,ACall prog 28 [eT t,eT u] (fun r=>r=nt .i64 (eF t u))):
 ACall prog 59 [.list l f (ts.map bO),.list l' f' (us.map bO)] (fun r=>r=nt .i64 (eO ts us)):=by
 refine ACall.bound (i:=0) rfl call59 fun hb=>?_
 rw[List.length_map]at hb
 have hb:ts.length≤140737488355328:=hb
 have ho:=H2 ts.length us.length
 generalize hR:eO ts us=R
 refine bD func59 call59 rfl (by simp[ntmps59]) ?_;simp only[ntmps59,results59]
 repeat' (first|(refine aC fun _ _=>?_)|refine zHg ?_|simp(disch:=omega) [go_sem])
 refine bR [0,1] [] (fun i:Nat=> [(5,nt .i64 i)]) (fun i:Nat=> []) (fun i:Nat=>ts.length - i) (fun i:Nat=>i≤ts.length∧i≤us.length∧eO (ts.drop i) (us.drop i)=R) (0) (Le.sub4 rfl (by simp[go_sem])) ⟨?_⟩ ?_
 ·exact⟨Nat.zero_le _,Nat.zero_le _,by simpa using hR⟩
 intro i ⟨hi,hi2,hc⟩ AA hAA;simp only[kL,Nat.reduceBEq,Nat.reduceEqDiff,if_true,if_false,List.cons_append,List.nil_append,List.append_nil]
 by_cases h1:i<ts.length
 ·by_cases h2:i<us.length
  ·have hu:=h ts[i] (List.getElem_mem h1) us[i]
   rw[List.drop_eq_getElem_cons h1,List.drop_eq_getElem_cons h2]at hc
   simp only[eO]at hc
   generalize eF ts[i] us[i]=c at*
   by_cases hz:c=0
   ·subst hz
    simp at hc
    repeat' (first|(refine aC fun _ _=>?_)|refine zHg ?_|refine cP rfl (hu) rfl (by simp) ?_|(refine(hAA.next (i+1) (Le.sub4 rfl (by simp[go_sem])) (by(try dsimp only);omega) ?_))|simp(disch:=omega) [go_sem,h1,h2]|refine zDr 10 bE ?_|fail)
    exact⟨⟨h1,h2,hc⟩⟩
   ·simp only[ne_eq,hz,not_false_eq_true,if_true]at hc
    repeat' (first|(refine aC fun _ _=>?_)|refine zHg ?_|(refine zqn ?_ ?_<;>(intro h;first|(exfalso;omega)|(simp only[h,zT])))|(refine aT [] ?_;simp[go_sem,h1,h2,hz,hc])|refine cP rfl (hu) rfl (by simp) ?_|simp(disch:=omega) [go_sem,h1,h2,hz,hc]|refine zDr 10 bE ?_|fail)
  ·have e1:us.drop i= []:=List.drop_of_length_le (by omega)
   rw[List.drop_eq_getElem_cons h1,e1]at hc
   simp only[eO]at hc
   have e2:dI ts.length us.length=1:=by unfold dI;rw[if_neg (by omega),if_pos (by omega)]
   rw[e2]at ho
   repeat' (first|(refine aC fun _ _=>?_)|refine zHg ?_|(refine aT [] ?_;simp[go_sem,h1,h2,hc])|refine aP rfl (ho) (by simp) ?_|simp(disch:=omega) [go_sem,h1,h2,hc])
 ·have e1:ts.drop i= []:=List.drop_of_length_le (by omega)
  by_cases h2:i<us.length
  ·rw[List.drop_eq_getElem_cons h2,e1]at hc
   simp only[eO]at hc
   have e2:dI ts.length us.length= -1:=by unfold dI;rw[if_pos (by omega)]
   rw[e2]at ho
   repeat' (first|(refine aC fun _ _=>?_)|refine zHg ?_|(refine aT [] ?_;simp[go_sem,h1,h2,hc])|refine aP rfl (ho) (by simp) ?_|simp(disch:=omega) [go_sem,h1,h2,hc])
  ·have e3:us.drop i= []:=List.drop_of_length_le (by omega)
   rw[e1,e3]at hc
   simp only[eO]at hc
   have e2:dI ts.length us.length=0:=by unfold dI;rw[if_neg (by omega),if_neg (by omega)]
   rw[e2]at ho
   repeat' (first|(refine aC fun _ _=>?_)|refine zHg ?_|(refine aT [] ?_;simp[go_sem,h1,h2,hc])|refine aP rfl (ho) (by simp) ?_|simp(disch:=omega) [go_sem,h1,h2,hc])
theorem aFp: ∀a b:Tm,ACall prog 28 [eT a,eT b] (fun r=>r=nt .i64 (eF a b)):=by
 refine dS fun a ih b=>?_
 have h1:=aFn a
 have h2:=aFn b
 have h3:=cEd a.args b.args false false false false ih
 rw[aFo]
 have ho1:=H2 (kd a).1 (kd b).1
 have ho2:=H2 (kd a).2.1 (kd b).2.1
 have ho3:=H2 (kd a).2.2.1 (kd b).2.2.1
 have ho4:=aFf (kd a).2.2.2 (kd b).2.2.2
 generalize eO a.args b.args=c at*
 generalize kd a=x at*
 generalize kd b=y at*
 obtain⟨x1,x2,x3,x4⟩:=x
 obtain⟨y1,y2,y3,y4⟩:=y
 dsimp only at*
 generalize dI x1 y1=o1 at*
 generalize dI x2 y2=o2 at*
 generalize dI x3 y3=o3 at*
 generalize cD x4 y4=o4 at*
 refine bD func28 call28 rfl (by simp[ntmps28]) ?_;simp only[ntmps28,results28]
 by_cases q1:x1=y1
 ·by_cases q2:x2=y2
  ·by_cases q3:x3=y3
   ·by_cases q4:x4=y4
    ·subst q1;subst q2;subst q3;subst q4
     repeat' (first|(refine aC fun _ _=>?_)|refine zHg ?_|(refine aT [] ?_;simp[go_sem])|refine cP rfl (h1) rfl (by simp) ?_|refine cP rfl (h2) rfl (by simp) ?_|refine aP rfl (h3) (by simp) ?_|simp(disch:=omega) [go_sem]|refine zDr 6 bE ?_|fail)
    ·subst q1;subst q2;subst q3
     repeat' (first|(refine aC fun _ _=>?_)|refine zHg ?_|(refine aT [] ?_;simp[go_sem,q4])|refine cP rfl (h1) rfl (by simp) ?_|refine cP rfl (h2) rfl (by simp) ?_|refine aP rfl (ho4) (by simp) ?_|simp(disch:=omega) [go_sem,q4]|refine zDr 6 bE ?_|fail)
   ·subst q1;subst q2
    repeat' (first|(refine aC fun _ _=>?_)|refine zHg ?_|(refine aT [] ?_;simp[go_sem,q3])|refine cP rfl (h1) rfl (by simp) ?_|refine cP rfl (h2) rfl (by simp) ?_|refine aP rfl (ho3) (by simp) ?_|simp(disch:=omega) [go_sem,q3]|refine zDr 6 bE ?_|fail)
  ·subst q1
   repeat' (first|(refine aC fun _ _=>?_)|refine zHg ?_|(refine aT [] ?_;simp[go_sem,q2])|refine cP rfl (h1) rfl (by simp) ?_|refine cP rfl (h2) rfl (by simp) ?_|refine aP rfl (ho2) (by simp) ?_|simp(disch:=omega) [go_sem,q2]|refine zDr 6 bE ?_|fail)
 ·repeat' (first|(refine aC fun _ _=>?_)|refine zHg ?_|(refine aT [] ?_;simp[go_sem,q1])|refine cP rfl (h1) rfl (by simp) ?_|refine cP rfl (h2) rfl (by simp) ?_|refine aP rfl (ho1) (by simp) ?_|simp(disch:=omega) [go_sem,q1]|refine zDr 6 bE ?_|fail)
open Go.Ab
set_option maxRecDepth 100000
set_option maxHeartbeats 4000000
theorem V2 (t:Tm):(t.args= []∧(fZ t.name).2=true∧kd t=(0,(fZ t.name).1,0,ByteArray.mk #[]))∨((kd t).1≠0∧kd t=((kd t).1,0,(t.args.length:Int),t.name)):=by
 unfold kd
 by_cases h0:0<t.args.length
 ·rw[if_pos h0];right;simp
 ·rw[if_neg h0]
  have e:t.args= []:=List.eq_nil_of_length_eq_zero (by omega)
  by_cases h1:(fZ t.name).2=true
  ·rw[if_pos h1];left;exact⟨e,h1,rfl⟩
  ·rw[if_neg h1]
   split<;>(right;simp[e])
end Go.Proofs.YtkbglbcphjmiiaaGreatDoor
