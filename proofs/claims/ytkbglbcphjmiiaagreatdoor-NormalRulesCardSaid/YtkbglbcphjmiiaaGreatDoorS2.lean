import Derived.Test.YtkbglbcphjmiiaaGreatDoorS1
import Derived.Test.YtkbglbcphjmiiaaGreatDoorA5
import Derived.Lib.Strings
import Derived.Lib.Slices
import Derived.Lib.Walk
import Derived.Lib.Bytealg
set_option linter.unusedSimpArgs false
set_option linter.unusedVariables false
namespace Go.Proofs.YtkbglbcphjmiiaaGreatDoor
open Go.Ab
inductive Tm where
 |mk (name:ByteArray) (args:List Tm)
namespace Tm
def name:Tm→ByteArray
 | .mk s _=>s
def args:Tm→List Tm
 | .mk _ ts=>ts
end Tm
mutual
def eTm:Tm→AV
 | .mk s ts=> .agg [.sc (.string s),.list false false (eTms ts)]
def eTms:List Tm→List AV
 | []=> []
 |t::r=>eTm t::eTms r
end
theorem eTms_map: ∀l:List Tm,eTms l=l.map eTm
 | []=>rfl
 |t::r=>by rw[eTms,eTms_map r];rfl
abbrev eT (t:Tm):AV:= .agg [.sc (.string t.name),.list false false (t.args.map eTm)]
theorem eTm_eq: ∀t:Tm,eTm t=eT t
 | .mk s ts=>by rw[eTm,eTms_map];rfl
theorem name_mk {s:ByteArray} {ts:List Tm}:(Tm.mk s ts).name=s:=rfl
theorem args_mk {s:ByteArray} {ts:List Tm}:(Tm.mk s ts).args=ts:=rfl
attribute [go_sem] eTm_eq name_mk args_mk
mutual
def Tm.size:Tm→Nat
 | .mk _ ts=>1+sizeL ts
def sizeL:List Tm→Nat
 | []=>0
 |t::r=>t.size+sizeL r
end
mutual
def Tm.depth:Tm→Nat
 | .mk _ ts=>depthL ts+1
def depthL:List Tm→Nat
 | []=>0
 |t::r=>max t.depth (depthL r)
end
theorem size_eq (t:Tm):t.size=1+sizeL t.args:=by cases t;rfl
theorem depth_eq (t:Tm):t.depth=depthL t.args+1:=by cases t;rfl
theorem depthL_append: ∀a b:List Tm,depthL (a++b)=max (depthL a) (depthL b)
 | [],b=>by simp[depthL]
 |t::r,b=>by simp only[List.cons_append,depthL,depthL_append r b];omega
theorem take_next {α:Type} {l:List α} {i:Nat} (h:i<l.length):l.take (i+1)=l.take i++ [l[i]]:=by
 rw[List.take_add_one,List.getElem?_eq_getElem h];rfl
theorem depthL_next {l:List Tm} {i:Nat} (h:i<l.length):depthL (l.take (i+1))=max (depthL (l.take i)) l[i].depth:=by
 rw[take_next h,depthL_append];simp[depthL]
theorem size_mem: ∀{l:List Tm} {t:Tm},t∈l→t.size≤sizeL l
 |u::r,t,h=>by
  rcases List.mem_cons.1 h with rfl|h
  ·simp[sizeL]
  ·have:=size_mem h;simp only[sizeL];omega
theorem size_get {l:List Tm} {i:Nat} (h:i<l.length):l[i].size≤sizeL l:=size_mem (List.getElem_mem h)
theorem size_pos (t:Tm):1≤t.size:=by rw[size_eq];omega
theorem length_le_sizeL: ∀l:List Tm,l.length≤sizeL l
 | []=>by simp[sizeL]
 |t::r=>by have:=length_le_sizeL r;have:=size_pos t;simp only[sizeL,List.length_cons];omega
theorem depth_le_size: ∀t:Tm,t.depth≤t.size:=by
 have key: ∀n (t:Tm),t.size≤n→t.depth≤t.size:=by
  intro n
  induction n with
  |zero=>intro t h;have:=size_pos t;omega
  |succ n ih=>
   intro t h
   rw[size_eq]at*
   rw[depth_eq]
   have: ∀l:List Tm,sizeL l≤n→depthL l≤sizeL l:=by
    intro l
    induction l with
    |nil=>intro _;simp[depthL,sizeL]
    |cons u r ihr=>
     intro hl
     simp only[sizeL,depthL]at*
     have h1:=ih u (by omega)
     have h2:=ihr (by omega)
     omega
   have:=this t.args (by omega)
   omega
 exact fun t=>key t.size t (Nat.le_refl _)
theorem tm_ind {p:Tm→Prop} (h: ∀t:Tm,(∀u∈t.args,p u)→p t): ∀t,p t:=by
 have key: ∀n (t:Tm),t.size≤n→p t:=by
  intro n
  induction n with
  |zero=>intro t h;have:=size_pos t;omega
  |succ n ih=>
   intro t ht
   refine h t fun u hu=>ih u ?_
   have:=size_mem hu
   rw[size_eq]at ht;omega
 exact fun t=>key t.size t (Nat.le_refl _)
open Go.Ab
set_option maxRecDepth 100000
set_option maxHeartbeats 4000000
theorem cast_max (a b:Nat):((max a b:Nat):Int)=max (a:Int) (b:Int):=by omega
mutual
def partsT (m:Int):Int→Tm→Int
 |lv,.mk _ ts=>if lv<1 then m+1 else partsL m (lv - 1) 1 ts
def partsL (m:Int):Int→Int→List Tm→Int
 |_,n,[]=>n
 |lv,n,t::r=>if n>m then n else partsL m lv (n+partsT m lv t) r
end
theorem parts_eq {m lv:Int} {t:Tm}:partsT m lv t=if lv<1 then m+1 else partsL m (lv - 1) 1 t.args:=by cases t;rfl
theorem partsL_ge {m:Int} (hm:0≤m): ∀(t:Tm) (lv:Int),1≤partsT m lv t:=by
 refine tm_ind fun t ih lv=>?_
 rw[parts_eq]
 split
 ·omega
 ·have key: ∀(r:List Tm),(∀u∈r,∀lv,1≤partsT m lv u)→ ∀n,1≤n→1≤partsL m (lv - 1) n r:=by
   intro r
   induction r with
   |nil=>intro _ n hn;simpa[partsL]using hn
   |cons u r ihr=>
    intro h n hn
    simp only[partsL]
    split
    ·exact hn
    ·have:=h u (by simp) (lv - 1)
     exact ihr (fun v hv=>h v (by simp[hv])) _ (by omega)
  exact key t.args ih 1 (by omega)
theorem parts_le {m:Int} (hm:0≤m): ∀(k:Nat) (t:Tm) (lv:Int),lv≤k→partsT m lv t≤(k+1)*(m+1):=by
 intro k
 induction k with
 |zero=>
  intro t lv h
  rw[parts_eq,if_pos (by omega)]
  simp
 |succ k ih=>
  intro t lv h
  rw[parts_eq]
  have e:((k+1:Nat)+1:Int)*(m+1)=((k:Int)+1)*(m+1)+(m+1):=by
   rw[show((k+1:Nat)+1:Int)=((k:Int)+1)+1 by omega,Int.add_mul,Int.one_mul]
  have hp:0≤((k:Int)+1)*(m+1):=Int.mul_nonneg (by omega) (by omega)
  split
  ·omega
  ·have key: ∀(r:List Tm) (n:Int),n≤((k:Int)+1)*(m+1)+m+1→partsL m (lv - 1) n r≤((k:Int)+1)*(m+1)+m+1:=by
    intro r
    induction r with
    |nil=>intro n hn;simpa[partsL]using hn
    |cons u r ihr=>
     intro n hn
     simp only[partsL]
     split
     ·exact hn
     ·have:=ih u (lv - 1) (by omega)
      exact ihr _ (by omega)
   have h1:1≤((k:Int)+1)*(m+1)+m+1:=by omega
   have:=key t.args 1 h1
   omega
theorem parts_size {m:Int} (hm:0≤m): ∀(t:Tm) (lv:Int),partsT m lv t≤m→(partsT m lv t=t.size∧(t.depth:Int)≤lv):=by
 refine tm_ind fun t ih lv h=>?_
 rw[parts_eq]at*
 split at h
 ·omega
 ·rename_i hl
  rw[if_neg hl]
  have key: ∀(r:List Tm),(∀u∈r,u∈t.args)→ ∀n,1≤n→partsL m (lv - 1) n r≤m→partsL m (lv - 1) n r=n+sizeL r∧(depthL r:Int)≤lv - 1:=by
   intro r
   induction r with
   |nil=>intro _ n hn _;simp[partsL,sizeL,depthL];omega
   |cons u r ihr=>
    intro hr n hn hp
    simp only[partsL]at*
    split at hp
    ·omega
    ·rename_i hc
     rw[if_neg hc]
     have g:=partsL_ge hm u (lv - 1)
     have hmono: ∀(r:List Tm) (n:Int),n≤partsL m (lv - 1) n r:=by
      intro r
      induction r with
      |nil=>intro n;simp[partsL]
      |cons u r ihr=>
       intro n
       simp only[partsL]
       split
       ·omega
       ·have g:=partsL_ge hm u (lv - 1)
        have:=ihr (n+partsT m (lv - 1) u)
        omega
     have h2:=hmono r (n+partsT m (lv - 1) u)
     obtain⟨a1,a2⟩:=ih u (hr u (by simp)) (lv - 1) (by omega)
     obtain⟨b1,b2⟩:=ihr (fun v hv=>hr v (by simp[hv])) (n+partsT m (lv - 1) u) (by omega) hp
     simp only[sizeL,depthL]
     omega
  obtain⟨a1,a2⟩:=key t.args (fun u hu=>hu) 1 (by omega) h
  rw[size_eq,depth_eq]
  omega
def smallT (m:Int) (t:Tm):Bool:=decide (partsT m m t≤m)
theorem smallT_size {m:Int} (hm:0≤m) {t:Tm} (h:smallT m t=true):(t.size:Int)≤m:=by
 have:=of_decide_eq_true h
 have:=(parts_size hm t m this).1
 omega
theorem parts_bd {m:Int} (hm:0≤m∧m≤10000) (t:Tm) {lv:Int} (h:lv≤10000):1≤partsT m lv t∧partsT m lv t≤100020001:=by
 refine⟨partsL_ge hm.1 t lv,?_⟩
 have h1:=parts_le hm.1 10000 t lv h
 omega
theorem parts_ok (m:Int) (hm:0≤m∧m≤10000): ∀(t:Tm) (lv:Int),lv≤10000→ -10000≤lv→ACall Tryz.prog 86 [eT t,nt .i64 m,nt .i64 lv] (fun r=>r=nt .i64 (partsT m lv t)):=by
 refine tm_ind fun t ih lv hlv hlv2=>?_
 obtain⟨s,ts⟩:=t
 rw[parts_eq]
 simp only[args_mk]at*
 by_cases hl:lv<1
 ·rw[if_pos hl]
  refine acall_of_awp Tryz.func86 Tryz.call86 rfl (by simp[Tryz.ntmps86]) ?_;simp only[Tryz.ntmps86,Tryz.results86]
  repeat' (first|(refine awK fun _ _=>?_)|refine zHg ?_|refine zqd ?_ ?_<;>(intro h;first|(exfalso;omega)|(simp only[h,zT]))|refine end_ret [] ?_;simp[go_sem]|(fail_if_success with_reducible refine Owe.mk ?_);(simp(disch:=omega) [go_sem]))
 ·rw[if_neg hl]
  generalize hR:partsL m (lv - 1) 1 ts=R
  refine acall_of_awp Tryz.func86 Tryz.call86 rfl (by simp[Tryz.ntmps86]) ?_;simp only[Tryz.ntmps86,Tryz.results86]
  repeat' (first|(refine awK fun _ _=>?_)|refine zHg ?_|refine zqd ?_ ?_<;>(intro h;first|(exfalso;omega)|(simp only[h,zT]))|(fail_if_success with_reducible refine Owe.mk ?_);(simp(disch:=omega) [go_sem]))
  refine awp_for [1,2,3,15] [] (fun x:Nat×Int=> [(16,nt .i64 x.1),(7,nt .i64 x.2)]) (fun x:Nat×Int=> []) (fun x:Nat×Int=>ts.length - x.1) (fun x:Nat×Int=>x.1≤ts.length∧1+(x.1:Int)≤x.2∧x.2≤100040001∧(x.1<ts.length→x.1≤10000∨x.2>m)∧partsL m (lv - 1) x.2 (ts.drop x.1)=R) ((0,1)) (Le.sub4 rfl (by simp[go_sem])) ⟨?_⟩ ?_
  ·exact⟨Nat.zero_le _,by simp,by simp,by simp,by simpa using hR⟩
  intro⟨i,n⟩ ⟨hi,hn,hn2,hbd,hr⟩ AA hAA;simp only[kL,Nat.reduceBEq,Nat.reduceEqDiff,if_true,if_false,List.cons_append,List.nil_append,List.append_nil]
  dsimp only at*
  by_cases hlt:i<ts.length
  ·have hu:=ih ts[i] (List.getElem_mem hlt) (lv - 1) (by omega) (by omega)
   have hb:=parts_bd hm ts[i] (lv:=lv - 1) (by omega)
   have hd:ts.drop i=ts[i]::ts.drop (i+1):=List.drop_eq_getElem_cons hlt
   rw[hd]at hr
   simp only[partsL]at hr
   by_cases hc:n>m
   ·rw[if_pos hc]at hr
    repeat' (first|(refine awK fun _ _=>?_)|refine zHg ?_|refine zqd ?_ ?_<;>(intro h;first|(exfalso;omega)|(simp only[h,zT]))|refine end_ret [] ?_;simp[go_sem,hlt,hr]|(fail_if_success with_reducible refine Owe.mk ?_);(simp(disch:=omega) [go_sem,hlt,hr]))
   ·rw[if_neg hc]at hr
    repeat' (first|(refine awK fun _ _=>?_)|refine zHg ?_|refine zqd ?_ ?_<;>(intro h;first|(exfalso;omega)|(simp only[h,zT]))|refine stepK_is rfl (hu) (by simp) ?_|refine(hAA.next ((i+1,n+partsT m (lv - 1) ts[i])) (Le.sub4 rfl (by simp[go_sem])) (by(try dsimp only);omega) ?_)|(fail_if_success with_reducible refine Owe.mk ?_);(simp(disch:=omega) [go_sem,hlt]))
    exact⟨⟨by omega,by omega,by omega,by omega,hr⟩⟩
  ·obtain rfl:i=ts.length:=by omega
   simp[partsL]at hr
   repeat' (first|(refine awK fun _ _=>?_)|refine zHg ?_|refine end_ret [] ?_;simp[go_sem]|(fail_if_success with_reducible refine Owe.mk ?_);(simp(disch:=omega) [go_sem]))
   exact hr
theorem Small_ok (t:Tm) (m:Int) (hm:0≤m∧m≤10000):ACall Tryz.prog 48 [eT t,nt .i64 m] (fun r=>r=bl (smallT m t)):=by
 have h:=parts_ok m hm t m hm.2 (by omega)
 unfold smallT
 generalize partsT m m t=q at*
 refine acall_of_awp Tryz.func48 Tryz.call48 rfl (by simp[Tryz.ntmps48]) ?_;simp only[Tryz.ntmps48,Tryz.results48]
 repeat' (first|(refine awK fun _ _=>?_)|refine zHg ?_|refine end_ret [] ?_;simp[go_sem]|refine stepK_is rfl (h) (by simp) ?_|(fail_if_success with_reducible refine Owe.mk ?_);(simp(disch:=omega) [go_sem]))
open Go.Ab
set_option maxRecDepth 100000
def eSpan (p:Int×Int):AV:= .agg [nt .u8 p.1,nt .u8 p.2]
def inS (c:Int) (l:List (Int×Int)):Bool:=l.any fun p=>decide (p.1≤c)&&decide (c≤p.2)
theorem in_ok (c:Int) (l f:Bool) (ss:List (Int×Int)) (hl:ss.length≤1000):ACall Tryz.prog 142 [nt .u8 c,.list l f (ss.map eSpan)] (fun r=>r=bl (inS c ss)):=by
 refine acall_of_awp Tryz.func142 Tryz.call142 rfl (by simp[Tryz.ntmps142]) ?_;simp only[Tryz.ntmps142,Tryz.results142]
 repeat' (first|(refine awK fun _ _=>?_)|refine zHg ?_|(fail_if_success with_reducible refine Owe.mk ?_);(simp(disch:=omega) [go_sem]))
 refine awp_loop (fun n s=> ∃i:Nat,i≤ss.length∧n=ss.length - i∧inS c (ss.take i)=false∧s= {n:=24,t:= [(0,nt .u8 c),(7,.list l f (ss.map eSpan)),(8,nt .i64 ss.length),(9,nt .i64 i),(4,bl false)],o:= []})
  ss.length {n:=24,t:= [(0,nt .u8 c),(7,.list l f (ss.map eSpan)),(8,nt .i64 ss.length),(9,nt .i64 0),(4,bl false)],o:= []} (Le.sub4 rfl (by simp[go_sem])) ⟨0,Nat.zero_le _,rfl,rfl,rfl⟩ ?_
 rintro _ _ ⟨i,hi,rfl,hin,rfl⟩
 by_cases hlt:i<ss.length
 ·have hs:inS c (ss.take (i+1))=(decide (ss[i].1≤c)&&decide (c≤ss[i].2)):=by
   rw[List.take_add_one,List.getElem?_eq_getElem hlt];unfold inS at*;rw[List.any_append,hin];simp
  repeat' (first|(refine awK fun _ _=>?_)|refine zHg ?_|(first|refine zqd ?_ ?_|refine zgd ?_ ?_)<;>(intro h;(simp only[h,zT]))|refine end_ret [] ?_;simp[go_sem,hlt,eSpan]|refine Again.mk (ss.length - (i+1)) {n:=24,t:= [(0,nt .u8 c),(7,.list l f (ss.map eSpan)),(8,nt .i64 ss.length),(9,nt .i64 (i+1:Nat)),(4,bl false)],o:= []} (by omega) (Le.sub4 rfl (by simp[go_sem])) ⟨i+1,by omega,rfl,by rw[hs];simp[*],rfl⟩|(fail_if_success with_reducible refine Owe.mk ?_);(simp(disch:=omega) [go_sem,hlt,eSpan]))
  unfold inS
  rw[List.any_eq_true]
  exact⟨ss[i],List.getElem_mem hlt,by simp[*]⟩
 ·obtain rfl:i=ss.length:=by omega
  rw[List.take_length]at hin
  repeat' (first|(refine awK fun _ _=>?_)|refine zHg ?_|refine end_ret [] ?_;simp[go_sem,hin]|(fail_if_success with_reducible refine Owe.mk ?_);(simp(disch:=omega) [go_sem,hin]))
def allS (s:ByteArray) (p q r:Int×Int) (n:Nat):Bool:=(List.range n).all fun i=>inS (bt s i) [p,q,r]
theorem allS_succ (s:ByteArray) (p q r:Int×Int) (n:Nat):allS s p q r (n+1)=(allS s p q r n&&inS (bt s n) [p,q,r]):=by
 simp[allS,List.range_succ,List.all_append]
def spellS (s:ByteArray) (p q r:Int×Int):Bool:=decide (1≤s.size)&&decide (s.size≤16)&&inS (bt s 0) [p]&&allS s p q r s.size
theorem allS_false {s:ByteArray} {p q r:Int×Int} {i:Nat} (h:inS (bt s i) [p,q,r]=false) {n:Nat} (hn:i<n):allS s p q r n=false:=by
 unfold allS;rw[List.all_eq_false];exact⟨i,by simpa using hn,by simp[h]⟩
theorem spelled_ok (s:ByteArray) (p q r:Int×Int):ACall Tryz.prog 106 [.sc (.string s),.agg [nt .u8 p.1,nt .u8 p.2,nt .u8 q.1,nt .u8 q.2,nt .u8 r.1,nt .u8 r.2]] (fun x=>x=bl (spellS s p q r)):=by
 have h1:ACall Tryz.prog 142 [nt .u8 (bt s 0),.list true false [.agg [nt .u8 p.1,nt .u8 p.2]]] (fun x=>x=bl (inS (bt s 0) [p])):=in_ok (bt s 0) true false [p] (by simp)
 have h3: ∀i,ACall Tryz.prog 142 [nt .u8 (bt s i),.list true false [.agg [nt .u8 p.1,nt .u8 p.2],.agg [nt .u8 q.1,nt .u8 q.2],.agg [nt .u8 r.1,nt .u8 r.2]]] (fun x=>x=bl (inS (bt s i) [p,q,r])):=fun i=>in_ok (bt s i) true false [p,q,r] (by simp)
 by_cases a1:1≤s.size∧s.size≤16
 ·by_cases a2:inS (bt s 0) [p]=true
  ·have e:spellS s p q r=allS s p q r s.size:=by simp[spellS,a1,a2]
   rw[e]
   rw[a2]at h1
   refine acall_of_awp Tryz.func106 Tryz.call106 rfl (by simp[Tryz.ntmps106]) ?_;simp only[Tryz.ntmps106,Tryz.results106]
   repeat' (first|(refine awK fun _ _=>?_)|refine zHg ?_|refine zdd ?_ ?_<;>(intro h;first|(exfalso;omega)|(simp only[h,zT]))|refine dstepK_is rfl (h1) rfl (by simp) ?_|(fail_if_success with_reducible refine Owe.mk ?_);(simp(disch:=omega) [go_sem])|refine zAo ?_|refine zDr 15 mix ?_)
   refine awp_loop (fun nn ss_=> ∃i:Nat,i≤s.size∧nn=s.size - i∧(allS s p q r i=true)∧ss_= {n:=33,t:= [(0,.sc (.string s)),(3,.ptr 3 0 0),(5,nt .i64 (i))],o:= [(3,{arr:=false,fz:=false,pin:=false,es:=6,xs:= [.agg [nt .u8 p.1,nt .u8 p.2,nt .u8 q.1,nt .u8 q.2,nt .u8 r.1,nt .u8 r.2]]})]}) (s.size) {n:=33,t:= [(0,.sc (.string s)),(3,.ptr 3 0 0),(5,nt .i64 (0))],o:= [(3,{arr:=false,fz:=false,pin:=false,es:=6,xs:= [.agg [nt .u8 p.1,nt .u8 p.2,nt .u8 q.1,nt .u8 q.2,nt .u8 r.1,nt .u8 r.2]]})]} (Le.sub4 rfl (by simp[go_sem])) ⟨0,Nat.zero_le _,rfl,rfl,rfl⟩ ?_;rintro _ _ ⟨i,hi,rfl,hin,rfl⟩
   have hb:=h3 i
   by_cases hlt:i<s.size
   ·cases hz:inS (bt s i) [p,q,r]with
    |false=>
     rw[hz]at hb
     repeat' (first|(refine awK fun _ _=>?_)|refine zHg ?_|refine end_ret [] ?_;simp[go_sem,hlt]|refine dstepK_is rfl (hb) rfl (by simp) ?_|(fail_if_success with_reducible refine Owe.mk ?_);(simp(disch:=omega) [go_sem,hlt])|refine zDr 6 mix ?_)
     all_goals exact allS_false hz hlt
    |true=>
     rw[hz]at hb
     have hs:allS s p q r (i+1)=true:=by rw[allS_succ,hin,hz];rfl
     repeat' (first|(refine awK fun _ _=>?_)|refine zHg ?_|refine dstepK_is rfl (hb) rfl (by simp) ?_|refine Again.mk (s.size - (i+1)) {n:=33,t:= [(0,.sc (.string s)),(3,.ptr 3 0 0),(5,nt .i64 ((i+1:Nat)))],o:= [(3,{arr:=false,fz:=false,pin:=false,es:=6,xs:= [.agg [nt .u8 p.1,nt .u8 p.2,nt .u8 q.1,nt .u8 q.2,nt .u8 r.1,nt .u8 r.2]]})]} (by omega) (Le.sub4 rfl (by simp[go_sem])) ⟨i+1,by omega,rfl,hs,rfl⟩|(fail_if_success with_reducible refine Owe.mk ?_);(simp(disch:=omega) [go_sem,hlt])|refine zDr 6 mix ?_)
   ·obtain rfl:i=s.size:=by omega
    repeat' (first|(refine awK fun _ _=>?_)|refine zHg ?_|refine end_ret [] ?_;simp[go_sem,hin]|(fail_if_success with_reducible refine Owe.mk ?_);(simp(disch:=omega) [go_sem,hin]))
  ·have e:spellS s p q r=false:=by simp[spellS,a2]
   rw[e]
   simp only[Bool.not_eq_true]at a2
   rw[a2]at h1
   refine acall_of_awp Tryz.func106 Tryz.call106 rfl (by simp[Tryz.ntmps106]) ?_;simp only[Tryz.ntmps106,Tryz.results106]
   repeat' (first|(refine awK fun _ _=>?_)|refine zHg ?_|refine zdd ?_ ?_<;>(intro h;first|(exfalso;omega)|(simp only[h,zT]))|refine end_ret [] ?_;simp[go_sem]|refine dstepK_is rfl (h1) rfl (by simp) ?_|(fail_if_success with_reducible refine Owe.mk ?_);(simp(disch:=omega) [go_sem])|refine zAo ?_|refine zDr 15 mix ?_)
 ·have e:spellS s p q r=false:=by simp[spellS];omega
  rw[e]
  refine acall_of_awp Tryz.func106 Tryz.call106 rfl (by simp[Tryz.ntmps106]) ?_;simp only[Tryz.ntmps106,Tryz.results106]
  repeat' (first|(refine awK fun _ _=>?_)|refine zHg ?_|refine zdd ?_ ?_<;>(intro h;first|(exfalso;omega)|(simp only[h,zT]))|refine end_ret [] ?_;simp[go_sem]|(fail_if_success with_reducible refine Owe.mk ?_);(simp(disch:=omega) [go_sem])|refine zDr 15 mix ?_)
abbrev sIf:ByteArray:=ByteArray.mk #[105,102]
abbrev sAnd:ByteArray:=ByteArray.mk #[97,110,100]
abbrev sNot:ByteArray:=ByteArray.mk #[110,111,116]
theorem in3 (c:Int) (p q r:Int×Int):inS c [p,q,r]=decide ((p.1≤c∧c≤p.2)∨(q.1≤c∧c≤q.2)∨(r.1≤c∧c≤r.2)):=by
 rw[Bool.eq_iff_iff];simp[inS]
theorem in1 (c:Int) (p:Int×Int):inS c [p]=decide (p.1≤c∧c≤p.2):=by
 rw[Bool.eq_iff_iff];simp[inS]
def nameS (s:ByteArray):Bool:=spellS s (97,122) (48,57) (45,45)&& !decide (s=sIf)&& !decide (s=sAnd)&& !decide (s=sNot)
theorem Name_ok (s:ByteArray):ACall Tryz.prog 67 [.sc (.string s)] (fun r=>r=bl (nameS s)):=by
 have h1:=spelled_ok s (97,122) (48,57) (45,45)
 simp only[nameS]
 generalize spellS s (97,122) (48,57) (45,45)=b at*
 refine acall_of_awp Tryz.func67 Tryz.call67 rfl (by simp[Tryz.ntmps67]) ?_;simp only[Tryz.ntmps67,Tryz.results67]
 cases b
 ·repeat' (first|(refine awK fun _ _=>?_)|refine zHg ?_|refine end_ret [] ?_;simp[go_sem]|refine stepK_is rfl (h1) (by simp) ?_|(fail_if_success with_reducible refine Owe.mk ?_);(simp(disch:=omega) [go_sem]))
 ·repeat' (first|(refine awK fun _ _=>?_)|refine zHg ?_|refine zgn ?_ ?_<;>(intro h;(simp only[h,zT]))|refine end_ret [] ?_;simp[go_sem]|refine stepK_is rfl (h1) (by simp) ?_|(fail_if_success with_reducible refine Owe.mk ?_);(simp(disch:=omega) [go_sem]))
  all_goals(simp_all [sIf,sAnd,sNot]<;>(rw[Bool.eq_iff_iff];simp))
def varS (s:ByteArray):Bool:=spellS s (65,90) (97,122) (48,57)
theorem Variable_ok (s:ByteArray):ACall Tryz.prog 70 [.sc (.string s)] (fun r=>r=bl (varS s)):=by
 have h1:=spelled_ok s (65,90) (97,122) (48,57)
 simp only[varS]
 generalize spellS s (65,90) (97,122) (48,57)=b at*
 refine acall_of_awp Tryz.func70 Tryz.call70 rfl (by simp[Tryz.ntmps70]) ?_;simp only[Tryz.ntmps70,Tryz.results70]
 repeat' (first|(refine awK fun _ _=>?_)|refine zHg ?_|refine end_ret [] ?_;simp[go_sem]|refine stepK_is rfl (h1) (by simp) ?_|(fail_if_success with_reducible refine Owe.mk ?_);(simp(disch:=omega) [go_sem]))
def digs (s:ByteArray) (n:Nat):Bool:=(List.range n).all fun i=>decide (48≤bt s i∧bt s i≤57)
theorem digs_succ (s:ByteArray) (n:Nat):digs s (n+1)=(digs s n&&decide (48≤bt s n∧bt s n≤57)):=by
 simp[digs,List.range_succ,List.all_append]
theorem digs_false {s:ByteArray} {i n:Nat} (h: ¬(48≤bt s i∧bt s i≤57)) (hn:i<n):digs s n=false:=by
 unfold digs;rw[List.all_eq_false];exact⟨i,by simpa using hn,by simpa using h⟩
def valS (s:ByteArray):Nat→Int
 |0=>0
 |n+1=>10*valS s n+(bt s n - 48)
theorem valS_range {s:ByteArray}: ∀{n:Nat},digs s n=true→0≤valS s n∧valS s n≤10^n - 1
 |0,_=>by simp[valS]
 |n+1,h=>by
  rw[digs_succ,Bool.and_eq_true,decide_eq_true_eq]at h
  have:=valS_range h.1
  rw[Int.pow_succ]
  simp only[valS]
  omega
theorem valS_small {s:ByteArray} {n:Nat} (h:digs s n=true) (hn:n≤3):0≤valS s n∧valS s n≤999:=by
 have h1:=valS_range h
 have:n=0∨n=1∨n=2∨n=3:=by omega
 rcases this with rfl|rfl|rfl|rfl<;>simp at h1<;>omega
theorem valS_max {s:ByteArray} {n:Nat} (h:digs s n=true) (hn:n≤4):0≤valS s n∧valS s n≤9999:=by
 have h1:=valS_range h
 have:n=0∨n=1∨n=2∨n=3∨n=4:=by omega
 rcases this with rfl|rfl|rfl|rfl|rfl<;>simp at h1<;>omega
def numS (s:ByteArray):Int×Bool:=if(1≤s.size∧s.size≤4∧ ¬(bt s 0=48∧1<s.size))∧digs s s.size=true then(valS s s.size,true)else(0,false)
theorem numS_no {s:ByteArray} (h: ¬(1≤s.size∧s.size≤4∧ ¬(bt s 0=48∧1<s.size))):numS s=(0,false):=by
 unfold numS;rw[if_neg (fun e=>h e.1)]
theorem numS_yes {s:ByteArray} (h:1≤s.size∧s.size≤4∧ ¬(bt s 0=48∧1<s.size)):numS s=if digs s s.size=true then(valS s s.size,true)else(0,false):=by
 unfold numS;simp only[h,true_and];simp
theorem Number_ok (s:ByteArray):ACall Tryz.prog 102 [.sc (.string s)] (fun r=>r= .tup [nt .i64 (numS s).1,bl (numS s).2]):=by
 by_cases a1:1≤s.size∧s.size≤4∧ ¬(bt s 0=48∧1<s.size)
 ·rw[numS_yes a1]
  refine acall_of_awp Tryz.func102 Tryz.call102 rfl (by simp[Tryz.ntmps102]) ?_;simp only[Tryz.ntmps102,Tryz.results102]
  repeat' (first|(refine awK fun _ _=>?_)|refine zHg ?_|(first|refine zqd ?_ ?_|refine zgd ?_ ?_)<;>(intro h;first|(exfalso;omega)|(simp only[h,zT]))|(fail_if_success with_reducible refine Owe.mk ?_);(simp(disch:=omega) [go_sem])|refine zAo ?_)
  all_goals(try(exfalso;omega))
  all_goals
   refine awp_loop (fun nn ss_=> ∃i:Nat,i≤s.size∧nn=s.size - i∧(digs s i=true)∧ss_= {n:=51,t:= [(0,.sc (.string s)),(4,nt .i64 (valS s i)),(5,nt .i64 (i))],o:= []}) (s.size) {n:=51,t:= [(0,.sc (.string s)),(4,nt .i64 (valS s 0)),(5,nt .i64 (0))],o:= []} (Le.sub4 rfl (by simp[go_sem,valS])) ⟨0,Nat.zero_le _,rfl,rfl,rfl⟩ ?_;rintro _ _ ⟨i,hi,rfl,hin,rfl⟩
   have hb:=bt_range s i
   by_cases hlt:i<s.size
   ·have hv:=valS_small hin (by omega)
    have hs:=digs_succ s i
    rw[hin,Bool.true_and]at hs
    repeat' (first|(refine awK fun _ _=>?_)|refine zHg ?_|(first|refine zqd ?_ ?_|refine zgd ?_ ?_)<;>(intro h;(simp only[h,zT]))|refine end_ret [] ?_;simp[go_sem,hlt]|refine Again.mk (s.size - (i+1)) {n:=51,t:= [(0,.sc (.string s)),(4,nt .i64 (valS s (i+1:Nat))),(5,nt .i64 ((i+1:Nat)))],o:= []} (by omega) (Le.sub4 rfl (by simp[go_sem,valS])) ⟨i+1,by omega,rfl,by rw[hs];exact decide_eq_true (by omega),rfl⟩|(fail_if_success with_reducible refine Owe.mk ?_);(simp(disch:=omega) [go_sem,hlt]))
    all_goals(try simp)
    all_goals(have hf:digs s s.size=false:=digs_false (i:=i) (by omega) hlt)
    all_goals(simp[hf])
   ·obtain rfl:i=s.size:=by omega
    have hv:=valS_max hin (by omega)
    repeat' (first|(refine awK fun _ _=>?_)|refine zHg ?_|refine end_ret [] ?_;simp[go_sem,hin]|(fail_if_success with_reducible refine Owe.mk ?_);(simp(disch:=omega) [go_sem,hin]))
    all_goals(try simp[hin])
    all_goals(try omega)
 ·rw[numS_no a1]
  refine acall_of_awp Tryz.func102 Tryz.call102 rfl (by simp[Tryz.ntmps102]) ?_;simp only[Tryz.ntmps102,Tryz.results102]
  repeat' (first|(refine awK fun _ _=>?_)|refine zHg ?_|(first|refine zqd ?_ ?_|refine zgd ?_ ?_)<;>(intro h;first|(exfalso;omega)|(simp only[h,zT]))|refine end_ret [] ?_;simp[go_sem]|(fail_if_success with_reducible refine Owe.mk ?_);(simp(disch:=omega) [go_sem])|refine zAo ?_)
  all_goals(exfalso;omega)
theorem number_ok (s:ByteArray):ACall Tryz.prog 143 [.sc (.string s)] (fun r=>r=bl (numS s).2):=by
 have hc:=Number_ok s
 generalize numS s=q at*
 obtain⟨v,b⟩:=q
 dsimp only at*
 refine acall_of_awp Tryz.func143 Tryz.call143 rfl (by simp[Tryz.ntmps143]) ?_;simp only[Tryz.ntmps143,Tryz.results143]
 repeat' (first|(refine awK fun _ _=>?_)|refine zHg ?_|refine end_ret [] ?_;simp[go_sem]|refine stepK_is rfl (hc) (by simp) ?_|(fail_if_success with_reducible refine Owe.mk ?_);(simp(disch:=omega) [go_sem]))
set_option maxHeartbeats 4000000
def constS (s:ByteArray):Bool:=nameS s||(numS s).2
mutual
def withT:Int→Bool→Tm→Bool
 |lv,v,.mk s ts=>if lv<1∨4<ts.length then false else if ts.length=0 then constS s||(v&&varS s)else nameS s&&withL (lv - 1) v ts
def withL:Int→Bool→List Tm→Bool
 |_,_,[]=>true
 |lv,v,t::r=>withT lv v t&&withL lv v r
end
theorem withT_mk {lv:Int} {v:Bool} {s:ByteArray} {ts:List Tm}:withT lv v (.mk s ts)=if lv<1∨4<ts.length then false else if ts.length=0 then constS s||(v&&varS s)else nameS s&&withL (lv - 1) v ts:=rfl
theorem withL_append {lv:Int} {v:Bool}: ∀a b:List Tm,withL lv v (a++b)=(withL lv v a&&withL lv v b)
 | [],b=>by simp[withL]
 |t::r,b=>by simp[withL,withL_append r b,Bool.and_assoc]
theorem withL_next {lv:Int} {v:Bool} {l:List Tm} {i:Nat} (h:i<l.length):withL lv v (l.take (i+1))=(withL lv v (l.take i)&&withT lv v l[i]):=by
 rw[take_next h,withL_append];simp[withL]
theorem withL_false {lv:Int} {v:Bool}: ∀{l:List Tm} {t:Tm},t∈l→withT lv v t=false→withL lv v l=false
 |u::r,t,h,hf=>by
  rcases List.mem_cons.1 h with rfl|h
  ·simp[withL,hf]
  ·simp[withL,withL_false h hf]
theorem within_ok (v:Bool): ∀(t:Tm) (lv:Int),-1000≤lv→lv≤1000→ACall Tryz.prog 107 [eT t,nt .i64 lv,bl v] (fun r=>r=bl (withT lv v t)):=by
 refine tm_ind fun t ih lv hl1 hl2=>?_
 obtain⟨s,ts⟩:=t
 rw[withT_mk]
 simp only[args_mk,name_mk]at*
 have h1:=Name_ok s
 have h2:=number_ok s
 have h3:=Variable_ok s
 unfold constS
 by_cases hc:lv<1∨4<ts.length
 ·rw[if_pos hc]
  refine acall_of_awp Tryz.func107 Tryz.call107 rfl (by simp[Tryz.ntmps107]) ?_;simp only[Tryz.ntmps107,Tryz.results107]
  repeat' (first|(refine awK fun _ _=>?_)|refine zHg ?_|(first|refine zqd ?_ ?_|refine zgd ?_ ?_)<;>(intro h;first|(exfalso;omega)|(simp only[h,zT]))|refine end_ret [] ?_;simp[go_sem]|(fail_if_success with_reducible refine Owe.mk ?_);(simp(disch:=omega) [go_sem]))
  all_goals omega
 ·rw[if_neg hc]
  simp only[not_or]at hc
  obtain⟨hc1,hc2⟩:=hc
  by_cases h0:ts.length=0
  ·rw[if_pos h0]
   generalize nameS s=a at*
   generalize(numS s).2=b at*
   generalize varS s=c at*
   refine acall_of_awp Tryz.func107 Tryz.call107 rfl (by simp[Tryz.ntmps107]) ?_;simp only[Tryz.ntmps107,Tryz.results107]
   cases a<;>cases b<;>cases v
   all_goals
    repeat' (first|(refine awK fun _ _=>?_)|refine zHg ?_|refine zgd ?_ ?_<;>(intro h;first|(exfalso;omega)|(simp only[h,zT]))|refine end_ret [] ?_;simp[go_sem,h0]|refine stepK_is rfl (h1) (by simp) ?_|refine stepK_is rfl (h2) (by simp) ?_|refine stepK_is rfl (h3) (by simp) ?_|(fail_if_success with_reducible refine Owe.mk ?_);(simp(disch:=omega) [go_sem,h0]))
  ·rw[if_neg h0]
   generalize hR:(nameS s&&withL (lv - 1) v ts)=R
   refine acall_of_awp Tryz.func107 Tryz.call107 rfl (by simp[Tryz.ntmps107]) ?_;simp only[Tryz.ntmps107,Tryz.results107]
   repeat' (first|(refine awK fun _ _=>?_)|refine zHg ?_|(first|refine zqd ?_ ?_|refine zgd ?_ ?_)<;>(intro h;first|(exfalso;omega)|(simp only[h,zT]))|(fail_if_success with_reducible refine Owe.mk ?_);(simp(disch:=omega) [go_sem,h0]))
   refine awp_for [1,2,3,38,39] [] (fun i:Nat=> [(40,nt .i64 i)]) (fun i:Nat=> []) (fun i:Nat=>ts.length - i) (fun i:Nat=>i≤ts.length∧withL (lv - 1) v (ts.take i)=true) (0) (Le.sub4 rfl (by simp[go_sem])) ⟨?_⟩ ?_
   ·exact⟨Nat.zero_le _,rfl⟩
   intro i ⟨hi,hw⟩ AA hAA;simp only[kL,Nat.reduceBEq,Nat.reduceEqDiff,if_true,if_false,List.cons_append,List.nil_append,List.append_nil]
   by_cases hlt:i<ts.length
   ·have hu:=ih ts[i] (List.getElem_mem hlt) (lv - 1) (by omega) (by omega)
    have hn:=withL_next (lv:=lv - 1) (v:=v) hlt
    rw[hw,Bool.true_and]at hn
    cases hq:withT (lv - 1) v ts[i]with
    |true=>
     rw[hq]at hu hn
     repeat' (first|(refine awK fun _ _=>?_)|refine zHg ?_|refine stepK_is rfl (hu) (by simp) ?_|refine(hAA.next (i+1) (Le.sub4 rfl (by simp[go_sem])) (by(try dsimp only);omega) ?_)|(fail_if_success with_reducible refine Owe.mk ?_);(simp(disch:=omega) [go_sem,hlt]))
     exact⟨⟨hlt,hn⟩⟩
    |false=>
     rw[hq]at hu
     have:=withL_false (List.getElem_mem hlt) hq
     rw[this,Bool.and_false]at hR
     subst hR
     repeat' (first|(refine awK fun _ _=>?_)|refine zHg ?_|refine end_ret [] ?_;simp[go_sem,hlt]|refine stepK_is rfl (hu) (by simp) ?_|(fail_if_success with_reducible refine Owe.mk ?_);(simp(disch:=omega) [go_sem,hlt]))
   ·obtain rfl:i=ts.length:=by omega
    rw[List.take_length]at hw
    rw[hw,Bool.and_true]at hR
    subst hR
    repeat' (first|(refine awK fun _ _=>?_)|refine zHg ?_|refine end_ret [] ?_;simp[go_sem]|refine stepK_is rfl (h1) (by simp) ?_|(fail_if_success with_reducible refine Owe.mk ?_);(simp(disch:=omega) [go_sem]))
theorem Valid_ok (t:Tm):ACall Tryz.prog 68 [eT t] (fun r=>r=bl (withT 4 true t)):=by
 have h:=within_ok true t 4 (by decide) (by decide)
 generalize withT 4 true t=b at*
 refine acall_of_awp Tryz.func68 Tryz.call68 rfl (by simp[Tryz.ntmps68]) ?_;simp only[Tryz.ntmps68,Tryz.results68]
 repeat' (first|(refine awK fun _ _=>?_)|refine zHg ?_|refine end_ret [] ?_;simp[go_sem]|refine stepK_is rfl (h) (by simp) ?_|(fail_if_success with_reducible refine Owe.mk ?_);(simp(disch:=omega) [go_sem]))
open Go.Ab Go.RowKit
set_option maxRecDepth 100000
set_option maxHeartbeats 4000000
theorem cmpStr_calls (a b:ByteArray) (w:World):
 Calls Tryz.prog 103 #[.string a,.string b] w fun e w'=>e= .returned (.int .i64 (Lib.compareBytes a.data.toList b.data.toList))∧w'=w:=by
 go_enter Tryz.func103,Tryz.ntmps103
 go_wp2
 rw[run_callFunc_extern Tryz.func141 (by kernel_rfl) (by kernel_rfl) (by kernel_rfl) (e:=Extern.BytealgCompare.compare) (by kernel_rfl),Lib.run_compareString]
 simp only[Result.andThen]
 rw[Oper.upon_value]
 go_wp2
 go_ret
 exact⟨rfl,rfl⟩
theorem APost.refl {F:Bool→Facts} {w:World} (h:Fok F w):APost F w F w:=⟨h,FLe.refl _,fun _ _ _ h=> .inl h,fun _ _ _ h=> .inl h,Fr.refl _ _⟩
def strC (a b:ByteArray):Int:=Lib.compareBytes a.data.toList b.data.toList
theorem cmpStr_ok (a b:ByteArray):ACall Tryz.prog 103 [.sc (.string a),.sc (.string b)] (fun r=>r=nt .i64 (strC a b)):=by
 refine⟨Tryz.call103,fun w F cargs h1 h2 h3=>?_⟩
 obtain⟨l⟩:=cargs
 match l,h2,h3 with
 | [v0,v1],_,h3=>
  have g0:=h3 0 _ v0 rfl rfl
  have g1:=h3 1 _ v1 rfl rfl
  cases g0
  cases g1
  exact(cmpStr_calls a b w).mono fun e w' ⟨he,hw⟩=>by
   subst hw
   exact⟨_,nt .i64 (strC a b),F,he,rfl,APost.refl h1,none,rfl,.sc rfl⟩
theorem strCompare_ok (a b:ByteArray):ACall Tryz.prog 61 [.sc (.string a),.sc (.string b)] (fun r=>r=nt .i64 (strC a b)):=by
 have h:=cmpStr_ok a b
 generalize strC a b=c at*
 refine acall_of_awp Tryz.func61 Tryz.call61 rfl (by simp[Tryz.ntmps61]) ?_;simp only[Tryz.ntmps61,Tryz.results61]
 repeat' (first|(refine awK fun _ _=>?_)|refine zHg ?_|refine end_ret [] ?_;simp[go_sem]|refine stepK_is rfl (h) (by simp) ?_|(fail_if_success with_reducible refine Owe.mk ?_);(simp(disch:=omega) [go_sem]))
theorem cb_range: ∀a b:List UInt8,Lib.compareBytes a b= -1∨Lib.compareBytes a b=0∨Lib.compareBytes a b=1
 | [],[]=>by simp[Lib.compareBytes]
 | [],_::_=>by simp[Lib.compareBytes]
 |_::_,[]=>by simp[Lib.compareBytes]
 |a::xs,b::bs=>by
  simp only[Lib.compareBytes]
  split
  ·simp
  ·split
   ·simp
   ·exact cb_range xs bs
theorem cb_zero: ∀a b:List UInt8,Lib.compareBytes a b=0↔a=b
 | [],[]=>by simp[Lib.compareBytes]
 | [],_::_=>by simp[Lib.compareBytes]
 |_::_,[]=>by simp[Lib.compareBytes]
 |a::xs,b::bs=>by
  simp only[Lib.compareBytes]
  split
  ·rename_i h
   have:a≠b:=fun e=>by subst e;exact UInt8.lt_irrefl _ h
   simp[this]
  ·split
   ·rename_i h
    have:a≠b:=fun e=>by subst e;exact UInt8.lt_irrefl _ h
    simp[this]
   ·rename_i h1 h2
    have:a=b:=UInt8.le_antisymm (UInt8.not_lt.1 h2) (UInt8.not_lt.1 h1)
    subst this
    rw[cb_zero xs bs];simp
theorem cb_neg: ∀a b:List UInt8,Lib.compareBytes b a= -Lib.compareBytes a b
 | [],[]=>by simp[Lib.compareBytes]
 | [],_::_=>by simp[Lib.compareBytes]
 |_::_,[]=>by simp[Lib.compareBytes]
 |a::xs,b::bs=>by
  simp only[Lib.compareBytes]
  by_cases h1:a<b
  ·have h2: ¬b<a:=fun h=>UInt8.lt_irrefl _ (UInt8.lt_trans h h1)
   simp[h1,h2]
  ·by_cases h2:b<a
   ·simp[h1,h2]
   ·simp[h1,h2,cb_neg xs bs]
theorem cb_trans: ∀a b c:List UInt8,Lib.compareBytes a b≤0→Lib.compareBytes b c≤0→Lib.compareBytes a c≤0
 | [],_,[],_,_=>by simp[Lib.compareBytes]
 | [],_,_::_,_,_=>by simp[Lib.compareBytes]
 |a::xs,[],_,h,_=>by simp[Lib.compareBytes]at h
 |a::xs,b::bs,[],_,h=>by simp[Lib.compareBytes]at h
 |a::xs,b::bs,c::cs,h1,h2=>by
  simp only[Lib.compareBytes]at*
  by_cases hac:a<c
  ·simp[hac]
  ·by_cases hab:a<b
   ·have hcb:c<b:=Nat.lt_of_le_of_lt (UInt8.not_lt.1 hac) hab
    have hbc: ¬b<c:=fun h=>UInt8.lt_irrefl _ (UInt8.lt_trans h hcb)
    rw[if_neg hbc,if_pos hcb]at h2
    omega
   ·rw[if_neg hab]at h1
    by_cases hba:b<a
    ·rw[if_pos hba]at h1;omega
    ·rw[if_neg hba]at h1
     have e:a=b:=UInt8.le_antisymm (UInt8.not_lt.1 hba) (UInt8.not_lt.1 hab)
     subst e
     rw[if_neg hac]at h2
     by_cases hca:c<a
     ·rw[if_pos hca]at h2;omega
     ·rw[if_neg hca]at h2
      rw[if_neg hac,if_neg hca]
      exact cb_trans xs bs cs h1 h2
theorem cb_less: ∀a b:List UInt8,Op.bytesLess a b=decide (Lib.compareBytes a b<0)
 | [],[]=>by simp[Lib.compareBytes,Op.bytesLess]
 | [],_::_=>by simp[Lib.compareBytes,Op.bytesLess]
 |_::_,[]=>by simp[Lib.compareBytes,Op.bytesLess]
 |a::xs,b::bs=>by
  simp only[Lib.compareBytes,Op.bytesLess]
  by_cases h1:a<b
  ·simp[h1]
  ·by_cases h2:b<a
   ·have:a≠b:=fun e=>by subst e;exact UInt8.lt_irrefl _ h2
    simp[h1,h2,this]
   ·have:a=b:=UInt8.le_antisymm (UInt8.not_lt.1 h2) (UInt8.not_lt.1 h1)
    subst this
    simp[UInt8.lt_irrefl,cb_less xs bs]
theorem strC_range (a b:ByteArray):strC a b= -1∨strC a b=0∨strC a b=1:=cb_range _ _
theorem strC_zero {a b:ByteArray}:strC a b=0↔a=b:=by
 unfold strC
 rw[cb_zero]
 constructor
 ·intro h
  obtain⟨⟨a⟩⟩:=a;obtain⟨⟨b⟩⟩:=b
  simp only at h;subst h;rfl
 ·rintro rfl;rfl
theorem strC_neg (a b:ByteArray):strC b a= -strC a b:=cb_neg _ _
theorem strC_trans {a b c:ByteArray} (h1:strC a b≤0) (h2:strC b c≤0):strC a c≤0:=cb_trans _ _ _ h1 h2
theorem toList_data (a:ByteArray):a.toList=a.data.toList:=Lib.toList_data a
theorem less_strC (a b:ByteArray):Op.bytesLess a.toList b.toList=decide (strC a b<0):=by
 rw[toList_data,toList_data,cb_less];rfl
theorem strC_self (a:ByteArray):strC a a=0:=strC_zero.2 rfl
def ord (a b:Int):Int:=if a<b then -1 else if b<a then 1 else 0
theorem order_ok (a b:Int):ACall Tryz.prog 60 [nt .i64 a,nt .i64 b] (fun r=>r=nt .i64 (ord a b)):=by
 unfold ord
 refine acall_of_awp Tryz.func60 Tryz.call60 rfl (by simp[Tryz.ntmps60]) ?_;simp only[Tryz.ntmps60,Tryz.results60]
 repeat' (first|(refine awK fun _ _=>?_)|refine zHg ?_|refine zqd ?_ ?_<;>(intro h;(simp only[h,zT]))|refine end_ret [] ?_;simp[go_sem]|(fail_if_success with_reducible refine Owe.mk ?_);(simp(disch:=omega) [go_sem]))
 all_goals(first|omega|simp[*])
def kd (t:Tm):Int×Int×Int×ByteArray:=
 if 0<t.args.length then(3,0,t.args.length,t.name)
 else if(numS t.name).2=true then(0,(numS t.name).1,0,ByteArray.mk #[])
 else if varS t.name=true then(2,0,0,t.name)
 else(1,0,0,t.name)
abbrev eK (k:Int×Int×Int×ByteArray):AV:= .agg [nt .i64 k.1,nt .i64 k.2.1,nt .i64 k.2.2.1,.sc (.string k.2.2.2)]
theorem kindOf_ok (t:Tm):ACall Tryz.prog 58 [eT t] (fun r=>r=eK (kd t)):=by
 have h1:=Number_ok t.name
 have h2:=Variable_ok t.name
 unfold kd
 by_cases h0:0<t.args.length
 ·rw[if_pos h0]
  have h0':(0:Int)<t.args.length:=by omega
  refine acall_of_awp Tryz.func58 Tryz.call58 rfl (by simp[Tryz.ntmps58]) ?_;simp only[Tryz.ntmps58,Tryz.results58]
  repeat' (first|(refine awK fun _ _=>?_)|refine zHg ?_|refine end_ret [] ?_;simp[go_sem,h0]|(fail_if_success with_reducible refine Owe.mk ?_);(simp(disch:=omega) [go_sem,h0]))
 ·rw[if_neg h0]
  generalize numS t.name=q at*
  obtain⟨v,b⟩:=q
  dsimp only at*
  cases b
  ·generalize varS t.name=c at*
   cases c
   ·refine acall_of_awp Tryz.func58 Tryz.call58 rfl (by simp[Tryz.ntmps58]) ?_;simp only[Tryz.ntmps58,Tryz.results58]
    repeat' (first|(refine awK fun _ _=>?_)|refine zHg ?_|refine end_ret [] ?_;simp[go_sem,h0]|refine stepK_is rfl (h1) (by simp) ?_|refine stepK_is rfl (h2) (by simp) ?_|(fail_if_success with_reducible refine Owe.mk ?_);(simp(disch:=omega) [go_sem,h0]))
   ·refine acall_of_awp Tryz.func58 Tryz.call58 rfl (by simp[Tryz.ntmps58]) ?_;simp only[Tryz.ntmps58,Tryz.results58]
    repeat' (first|(refine awK fun _ _=>?_)|refine zHg ?_|refine end_ret [] ?_;simp[go_sem,h0]|refine stepK_is rfl (h1) (by simp) ?_|refine stepK_is rfl (h2) (by simp) ?_|(fail_if_success with_reducible refine Owe.mk ?_);(simp(disch:=omega) [go_sem,h0]))
  ·refine acall_of_awp Tryz.func58 Tryz.call58 rfl (by simp[Tryz.ntmps58]) ?_;simp only[Tryz.ntmps58,Tryz.results58]
   repeat' (first|(refine awK fun _ _=>?_)|refine zHg ?_|refine end_ret [] ?_;simp[go_sem,h0]|refine stepK_is rfl (h1) (by simp) ?_|(fail_if_success with_reducible refine Owe.mk ?_);(simp(disch:=omega) [go_sem,h0]))
mutual
def cmpT:Tm→Tm→Int
 | .mk s ts,b=>
  let x:=kd (.mk s ts)
  let y:=kd b
  if x=y then cmpL ts b.args
  else if x.1≠y.1 then ord x.1 y.1
  else if x.2.1≠y.2.1 then ord x.2.1 y.2.1
  else if x.2.2.1≠y.2.2.1 then ord x.2.2.1 y.2.2.1
  else strC x.2.2.2 y.2.2.2
def cmpL:List Tm→List Tm→Int
 | [],[]=>0
 | [],_::_=> -1
 |_::_,[]=>1
 |t::r,u::q=>if cmpT t u≠0 then cmpT t u else cmpL r q
end
theorem cmpT_eq {a b:Tm}:cmpT a b=if kd a=kd b then cmpL a.args b.args
 else if(kd a).1≠(kd b).1 then ord (kd a).1 (kd b).1
 else if(kd a).2.1≠(kd b).2.1 then ord (kd a).2.1 (kd b).2.1
 else if(kd a).2.2.1≠(kd b).2.2.1 then ord (kd a).2.2.1 (kd b).2.2.1
 else strC (kd a).2.2.2 (kd b).2.2.2:=by cases a;rfl
theorem compareList_of (ts us:List Tm) (l f l' f':Bool) (h: ∀t∈ts,∀u,ACall Tryz.prog 28 [eT t,eT u] (fun r=>r=nt .i64 (cmpT t u))):
 ACall Tryz.prog 59 [.list l f (ts.map eTm),.list l' f' (us.map eTm)] (fun r=>r=nt .i64 (cmpL ts us)):=by
 refine ACall.bound (i:=0) rfl Tryz.call59 fun hb=>?_
 rw[List.length_map]at hb
 have hb:ts.length≤140737488355328:=hb
 have ho:=order_ok ts.length us.length
 generalize hR:cmpL ts us=R
 refine acall_of_awp Tryz.func59 Tryz.call59 rfl (by simp[Tryz.ntmps59]) ?_;simp only[Tryz.ntmps59,Tryz.results59]
 repeat' (first|(refine awK fun _ _=>?_)|refine zHg ?_|(fail_if_success with_reducible refine Owe.mk ?_);(simp(disch:=omega) [go_sem]))
 refine awp_for [0,1] [] (fun i:Nat=> [(5,nt .i64 i)]) (fun i:Nat=> []) (fun i:Nat=>ts.length - i) (fun i:Nat=>i≤ts.length∧i≤us.length∧cmpL (ts.drop i) (us.drop i)=R) (0) (Le.sub4 rfl (by simp[go_sem])) ⟨?_⟩ ?_
 ·exact⟨Nat.zero_le _,Nat.zero_le _,by simpa using hR⟩
 intro i ⟨hi,hi2,hc⟩ AA hAA;simp only[kL,Nat.reduceBEq,Nat.reduceEqDiff,if_true,if_false,List.cons_append,List.nil_append,List.append_nil]
 by_cases h1:i<ts.length
 ·by_cases h2:i<us.length
  ·have hu:=h ts[i] (List.getElem_mem h1) us[i]
   rw[List.drop_eq_getElem_cons h1,List.drop_eq_getElem_cons h2]at hc
   simp only[cmpL]at hc
   generalize cmpT ts[i] us[i]=c at*
   by_cases hz:c=0
   ·subst hz
    simp at hc
    repeat' (first|(refine awK fun _ _=>?_)|refine zHg ?_|refine dstepK_is rfl (hu) rfl (by simp) ?_|refine(hAA.next (i+1) (Le.sub4 rfl (by simp[go_sem])) (by(try dsimp only);omega) ?_)|(fail_if_success with_reducible refine Owe.mk ?_);(simp(disch:=omega) [go_sem,h1,h2])|refine zDr 10 mix ?_)
    exact⟨⟨h1,h2,hc⟩⟩
   ·simp only[ne_eq,hz,not_false_eq_true,if_true]at hc
    repeat' (first|(refine awK fun _ _=>?_)|refine zHg ?_|refine zqn ?_ ?_<;>(intro h;first|(exfalso;omega)|(simp only[h,zT]))|refine end_ret [] ?_;simp[go_sem,h1,h2,hz,hc]|refine dstepK_is rfl (hu) rfl (by simp) ?_|(fail_if_success with_reducible refine Owe.mk ?_);(simp(disch:=omega) [go_sem,h1,h2,hz,hc])|refine zDr 10 mix ?_)
  ·have e1:us.drop i= []:=List.drop_of_length_le (by omega)
   rw[List.drop_eq_getElem_cons h1,e1]at hc
   simp only[cmpL]at hc
   have e2:ord ts.length us.length=1:=by unfold ord;rw[if_neg (by omega),if_pos (by omega)]
   rw[e2]at ho
   repeat' (first|(refine awK fun _ _=>?_)|refine zHg ?_|refine end_ret [] ?_;simp[go_sem,h1,h2,hc]|refine stepK_is rfl (ho) (by simp) ?_|(fail_if_success with_reducible refine Owe.mk ?_);(simp(disch:=omega) [go_sem,h1,h2,hc]))
 ·have e1:ts.drop i= []:=List.drop_of_length_le (by omega)
  by_cases h2:i<us.length
  ·rw[List.drop_eq_getElem_cons h2,e1]at hc
   simp only[cmpL]at hc
   have e2:ord ts.length us.length= -1:=by unfold ord;rw[if_pos (by omega)]
   rw[e2]at ho
   repeat' (first|(refine awK fun _ _=>?_)|refine zHg ?_|refine end_ret [] ?_;simp[go_sem,h1,h2,hc]|refine stepK_is rfl (ho) (by simp) ?_|(fail_if_success with_reducible refine Owe.mk ?_);(simp(disch:=omega) [go_sem,h1,h2,hc]))
  ·have e3:us.drop i= []:=List.drop_of_length_le (by omega)
   rw[e1,e3]at hc
   simp only[cmpL]at hc
   have e2:ord ts.length us.length=0:=by unfold ord;rw[if_neg (by omega),if_neg (by omega)]
   rw[e2]at ho
   repeat' (first|(refine awK fun _ _=>?_)|refine zHg ?_|refine end_ret [] ?_;simp[go_sem,h1,h2,hc]|refine stepK_is rfl (ho) (by simp) ?_|(fail_if_success with_reducible refine Owe.mk ?_);(simp(disch:=omega) [go_sem,h1,h2,hc]))
theorem Compare_ok: ∀a b:Tm,ACall Tryz.prog 28 [eT a,eT b] (fun r=>r=nt .i64 (cmpT a b)):=by
 refine tm_ind fun a ih b=>?_
 have h1:=kindOf_ok a
 have h2:=kindOf_ok b
 have h3:=compareList_of a.args b.args false false false false ih
 rw[cmpT_eq]
 have ho1:=order_ok (kd a).1 (kd b).1
 have ho2:=order_ok (kd a).2.1 (kd b).2.1
 have ho3:=order_ok (kd a).2.2.1 (kd b).2.2.1
 have ho4:=strCompare_ok (kd a).2.2.2 (kd b).2.2.2
 generalize cmpL a.args b.args=c at*
 generalize kd a=x at*
 generalize kd b=y at*
 obtain⟨x1,x2,x3,x4⟩:=x
 obtain⟨y1,y2,y3,y4⟩:=y
 dsimp only at*
 generalize ord x1 y1=o1 at*
 generalize ord x2 y2=o2 at*
 generalize ord x3 y3=o3 at*
 generalize strC x4 y4=o4 at*
 refine acall_of_awp Tryz.func28 Tryz.call28 rfl (by simp[Tryz.ntmps28]) ?_;simp only[Tryz.ntmps28,Tryz.results28]
 by_cases q1:x1=y1
 ·by_cases q2:x2=y2
  ·by_cases q3:x3=y3
   ·by_cases q4:x4=y4
    ·subst q1;subst q2;subst q3;subst q4
     repeat' (first|(refine awK fun _ _=>?_)|refine zHg ?_|refine end_ret [] ?_;simp[go_sem]|refine dstepK_is rfl (h1) rfl (by simp) ?_|refine dstepK_is rfl (h2) rfl (by simp) ?_|refine stepK_is rfl (h3) (by simp) ?_|(fail_if_success with_reducible refine Owe.mk ?_);(simp(disch:=omega) [go_sem])|refine zDr 6 mix ?_)
    ·subst q1;subst q2;subst q3
     repeat' (first|(refine awK fun _ _=>?_)|refine zHg ?_|refine end_ret [] ?_;simp[go_sem,q4]|refine dstepK_is rfl (h1) rfl (by simp) ?_|refine dstepK_is rfl (h2) rfl (by simp) ?_|refine stepK_is rfl (ho4) (by simp) ?_|(fail_if_success with_reducible refine Owe.mk ?_);(simp(disch:=omega) [go_sem,q4])|refine zDr 6 mix ?_)
   ·subst q1;subst q2
    repeat' (first|(refine awK fun _ _=>?_)|refine zHg ?_|refine end_ret [] ?_;simp[go_sem,q3]|refine dstepK_is rfl (h1) rfl (by simp) ?_|refine dstepK_is rfl (h2) rfl (by simp) ?_|refine stepK_is rfl (ho3) (by simp) ?_|(fail_if_success with_reducible refine Owe.mk ?_);(simp(disch:=omega) [go_sem,q3])|refine zDr 6 mix ?_)
  ·subst q1
   repeat' (first|(refine awK fun _ _=>?_)|refine zHg ?_|refine end_ret [] ?_;simp[go_sem,q2]|refine dstepK_is rfl (h1) rfl (by simp) ?_|refine dstepK_is rfl (h2) rfl (by simp) ?_|refine stepK_is rfl (ho2) (by simp) ?_|(fail_if_success with_reducible refine Owe.mk ?_);(simp(disch:=omega) [go_sem,q2])|refine zDr 6 mix ?_)
 ·repeat' (first|(refine awK fun _ _=>?_)|refine zHg ?_|refine end_ret [] ?_;simp[go_sem,q1]|refine dstepK_is rfl (h1) rfl (by simp) ?_|refine dstepK_is rfl (h2) rfl (by simp) ?_|refine stepK_is rfl (ho1) (by simp) ?_|(fail_if_success with_reducible refine Owe.mk ?_);(simp(disch:=omega) [go_sem,q1])|refine zDr 6 mix ?_)
open Go.Ab
set_option maxRecDepth 100000
set_option maxHeartbeats 4000000
theorem kd_cases (t:Tm):(t.args= []∧(numS t.name).2=true∧kd t=(0,(numS t.name).1,0,ByteArray.mk #[]))∨((kd t).1≠0∧kd t=((kd t).1,0,(t.args.length:Int),t.name)):=by
 unfold kd
 by_cases h0:0<t.args.length
 ·rw[if_pos h0];right;simp
 ·rw[if_neg h0]
  have e:t.args= []:=List.eq_nil_of_length_eq_zero (by omega)
  by_cases h1:(numS t.name).2=true
  ·rw[if_pos h1];left;exact⟨e,h1,rfl⟩
  ·rw[if_neg h1]
   split<;>(right;simp[e])
end Go.Proofs.YtkbglbcphjmiiaaGreatDoor
