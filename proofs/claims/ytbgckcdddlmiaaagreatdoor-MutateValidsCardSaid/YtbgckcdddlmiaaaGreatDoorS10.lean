import Derived.Test.YtbgckcdddlmiaaaGreatDoorS9
import Derived.Test.YtbgckcdddlmiaaaGreatDoorA16
import Derived.Shelf.SlLaysF0
import Derived.Shelf.SlSortCmp.WholeK
import Derived.Test.YtbgckcdddlmiaaaGreatDoorA18
set_option linter.all false
open Go.Proofs.Tryz
namespace Go.Proofs.YtbgckcdddlmiaaaGreatDoor
open Go.Ab
variable [Glob prog]
set_option maxRecDepth 100000
set_option maxHeartbeats 16000000
def gM:List (ByteArray×Nat)->ByteArray->Nat
 | [],_=>0
 |p::l,x=>if p.1=x then p.2 else gM l x
theorem aPi {x:ByteArray}: ∀{l:List (ByteArray×Nat)},(∀p∈l,¬p.1=x)->gM l x=0
 | [],_=>rfl
 |p::l,h=>by
  rw[gM,if_neg (h p (by simp))]
  exact aPi fun q hq=>h q (by simp[hq])
theorem aPj {x:ByteArray}: ∀{l:List (ByteArray×Nat)} {j:Nat} (hj:j<l.length),l[j].1=x->(∀(k:Nat) (hk:k<l.length),k<j-> ¬l[k].1=x)->gM l x=l[j].2
 |p::l,0,_,h,_=>by
  have h:p.1=x:=h
  rw[gM,if_pos h];rfl
 |p::l,j+1,hj,h,hn=>by
  have h0: ¬p.1=x:=hn 0 (by simp) (by omega)
  rw[gM,if_neg h0]
  exact aPj (l:=l) (j:=j) (by simpa using hj) h fun k hk hkj=>hn (k+1) (by simpa using hk) (by omega)
theorem aPk {s:ByteArray} {v:Nat} {x:ByteArray}: ∀{l:List (ByteArray×Nat)},(∀p∈l,¬p.1=s)->gM (l++ [(s,v)]) x=if x=s then v else gM l x
 | [],_=>by
  rw[List.nil_append,gM,gM]
  by_cases h:s=x
  ·rw[if_pos h,if_pos h.symm]
  ·rw[if_neg h,if_neg (fun e=>h e.symm)];rfl
 |p::l,h=>by
  rw[List.cons_append,gM,gM]
  have h0: ¬p.1=s:=h p (by simp)
  by_cases hx:p.1=x
  ·have: ¬x=s:=fun e=>h0 (hx.trans e)
   rw[if_pos hx,if_neg this,if_pos hx]
  ·rw[if_neg hx,if_neg hx]
   exact aPk fun q hq=>h q (by simp[hq])
theorem aPl {s:ByteArray} {v:Nat} {x:ByteArray}: ∀{l:List (ByteArray×Nat)} {j:Nat} (hj:j<l.length),l[j].1=s->(∀(k:Nat) (hk:k<l.length),k<j-> ¬l[k].1=s)->gM (l.set j (s,v)) x=if x=s then v else gM l x
 |p::l,0,_,h,_=>by
  have h:p.1=s:=h
  rw[List.set_cons_zero,gM,gM]
  by_cases hx:s=x
  ·rw[if_pos hx,if_pos hx.symm]
  ·rw[if_neg hx,if_neg (fun e=>hx e.symm),h,if_neg hx]
 |p::l,j+1,hj,h,hn=>by
  have h0: ¬p.1=s:=hn 0 (by simp) (by omega)
  rw[List.set_cons_succ,gM,gM]
  by_cases hx:p.1=x
  ·have: ¬x=s:=fun e=>h0 (hx.trans e)
   rw[if_pos hx,if_neg this,if_pos hx]
  ·rw[if_neg hx,if_neg hx]
   exact aPl (l:=l) (j:=j) (by simpa using hj) h fun k hk hkj=>hn (k+1) (by simpa using hk) (by omega)
theorem aPm {f:ByteArray->Nat} {n:Nat} (h: ∀x,f x<=n): ∀l:List ByteArray,(l.map f).sum<=n*l.length
 | []=>by simp
 |a::l=>by
  have:=aPm h l
  have:=h a
  simp only[List.map_cons,List.sum_cons,List.length_cons,Nat.mul_add,Nat.mul_one]
  omega
theorem aPn {f g:ByteArray->Nat} (h: ∀x,f x<=g x): ∀l:List ByteArray,(l.map f).sum<=(l.map g).sum
 | []=>by simp
 |a::l=>by
  have:=aPn h l
  have:=h a
  simp only[List.map_cons,List.sum_cons]
  omega
theorem aPo {f g:ByteArray->Nat} (h: ∀x,f x<=g x) {a:ByteArray} (ha:f a<g a): ∀{l:List ByteArray},a∈l->(l.map f).sum<(l.map g).sum
 |b::l,hm=>by
  simp only[List.map_cons,List.sum_cons]
  rcases List.mem_cons.1 hm with rfl|hm
  ·have:=aPn h l
   omega
  ·have:=aPo h ha hm
   have:=h b
   omega
theorem bT6 (e:Ed):ACall prog 95 [bP e] (fun r=>r=nt .i64 (eC e)):=by
 obtain⟨f,t,n⟩:=e
 unfold eC
 cases n
 ·refine aQ func95 call95 rfl (by simp[ntmps95]) ?_;simp only[ntmps95,results95]
  repeat' (first|(refine aA fun _ _=>?_)|refine zHg ?_|(refine aM [] ?_;simp[go_sem])|simp(disch:=omega) [go_sem])
 ·refine aQ func95 call95 rfl (by simp[ntmps95]) ?_;simp only[ntmps95,results95]
  repeat' (first|(refine aA fun _ _=>?_)|refine zHg ?_|(refine aM [] ?_;simp[go_sem])|simp(disch:=omega) [go_sem])
theorem aEi (asc:List (ByteArray×Nat)) (s:ByteArray):(cI (.string s) (asc.map (kM iK)) 0=some none/\gM asc s=0/\ ∀v:Nat,∃as2:List (ByteArray×Nat),fC (.string s) (.sc (.int .i64 (v:Int))) (asc.map (kM iK))=some (as2.map (kM iK))/\as2.length<=asc.length+1/\ ∀x,gM as2 x=if x=s then v else gM asc x)
 \/ ∃j:Nat,cI (.string s) (asc.map (kM iK)) 0=some (some (j,iK (gM asc s)))/\ ∀v:Nat,∃as2:List (ByteArray×Nat),fC (.string s) (.sc (.int .i64 (v:Int))) (asc.map (kM iK))=some (as2.map (kM iK))/\as2.length=asc.length/\ ∀x,gM as2 x=if x=s then v else gM asc x:=by
 rcases aEc asc s with hno|⟨j,hj,hjs,hjn⟩
 ·refine .inl ⟨S9 hno,aPi hno,fun v=>⟨asc++ [(s,v)],?_,by simp,fun x=>aPk hno⟩⟩
  have h:=aOz (e:=iK) hno (iK v)
  refine h.trans ?_
  simp
 ·refine .inr ⟨j,?_,fun v=>⟨asc.set j (s,v),aO0 (e:=iK) hj hjs hjn v,by simp,fun x=>aPl hj hjs hjn⟩⟩
  rw[S8 hj hjs hjn,Nat.zero_add,aPj hj hjs hjn]
def sM (nms:List ByteArray) (asc:List (ByteArray×Nat)):Nat:=(nms.map (gM asc)).sum
def cN:Bool->Nat
 |true=>1
 |false=>0
def T3 (es:List Ed) (nms:List ByteArray) (asc:List (ByteArray×Nat)):Prop:=(∀x,gM asc x<=nms.length)/\(∀L,sV es L-> ∀x,gM asc x<=L x)/\asc.length<=sM nms asc
theorem T4 {es:List Ed} {nms:List ByteArray} (hin: ∀e∈es,e.fr∈nms/\e.to∈nms) {asc as2:List (ByteArray×Nat)} (h:T3 es nms asc) {e:Ed} (he:e∈es) {v:Nat} (hv:v=gM asc e.to+eC e) (hlt:gM asc e.fr<v) (hs:v<nms.length) (hlen:as2.length<=asc.length+1) (hg: ∀x,gM as2 x=if x=e.fr then v else gM asc x):T3 es nms as2/\sM nms asc<sM nms as2:=by
 have hle: ∀x,gM asc x<=gM as2 x:=fun x=>by
  rw[hg]
  split
  ·rename_i hx;subst hx;omega
  ·exact Nat.le_refl _
 have hlt':sM nms asc<sM nms as2:=aPo hle (a:=e.fr) (by rw[hg,if_pos rfl];exact hlt) (hin e he).1
 refine⟨⟨fun x=>?_,fun L hL x=>?_,?_⟩,hlt'⟩
 ·rw[hg]
  split
  ·omega
  ·exact h.1 x
 ·rw[hg]
  have:=bOk h.2.1 he L hL x
  rw[hv]
  exact this
 ·have:=h.2.2;omega
abbrev G5 (p:ByteArray×Nat):AV:= .agg [.sc (.string p.1),iK p.2]
theorem bT7 (hS:G2) (l:List Rl) (le fu:Bool) (hl:l.length<=100000) (hb: ∀r∈l,r.body.length<=8) (hn:(rI l).length<=1000000) (he:(iB l).length<=1000000):
 ACall prog 47 [.list le fu (l.map bH)] (fun v=>(pD (iB l)=0/\ ∃xs,v= .tup [.own 2 xs,nt .i64 0])\/(pD (iB l)=10/\v= .tup [.list false true [],nt .i64 10])):=by
 have hN:=bTo l le fu hl hb
 have hE:=aPh hS l le fu hl hb
 have hin:=bOl (l:=l)
 generalize iB l=es at*
 generalize rI l=nms at*
 refine aQ func47 call47 rfl (by simp[ntmps47]) ?_;simp only[ntmps47,results47]
 repeat' (first|(refine aA fun _ _=>?_)|refine zHg ?_|refine aH rfl (hN) (by simp) ?_|refine aH rfl (hE) (by simp) ?_|simp(disch:=omega) [go_sem])
 have hBs: ∀asc,(∀x,gM asc x<=nms.length)->sM nms asc<=nms.length*nms.length:=fun asc h=>aPm h nms
 have hB1:nms.length*nms.length<=1000000*1000000:=Nat.mul_le_mul hn hn
 generalize nms.length*nms.length=B at*
 have hcT:cN true=1:=rfl
 have hcF:cN false=0:=rfl
 refine bL [4,5,6] [18] (fun y:Bool×List (ByteArray×Nat)=> [(7,bl y.1)]) (fun y:Bool×List (ByteArray×Nat)=> [(18,dH y.2)]) (fun y:Bool×List (ByteArray×Nat)=>2*(B - sM nms y.2)+cN y.1) (fun y:Bool×List (ByteArray×Nat)=>T3 es nms y.2/\(y.1=false->sV es (gM y.2))) ((true,[])) (Le.sub4 rfl (by simp[go_sem,dH,List.map_nil])) ⟨?_⟩ ?_
 ·exact⟨⟨fun x=>by simp[gM],fun L _ x=>by simp[gM],by simp⟩,fun h=>by cases h⟩
 intro⟨c0,asc⟩ ⟨hok,hc00⟩ AA hAA;simp only[kL,Nat.reduceBEq,Nat.reduceEqDiff]
 dsimp only at*
 have hsB0:=hBs _ hok.1
 cases c0
 ·have hlv:=bOj (hc00 rfl)
  repeat' (first|(refine aA fun _ _=>?_)|refine zHg ?_|simp(disch:=omega) [go_sem,dH])
  have h0:(nms.take 0).map (fun x=>G5 (x,gM asc x))= []:=by simp
  refine bL [6,48,49] [900] (fun i:Nat=> [(50,nt .i64 i),(11,.ref 900 0 i)]) (fun i:Nat=> [(900,⟨true,false,false,2,(nms.take i).map (fun x=>G5 (x,gM asc x)),0⟩)]) (fun i:Nat=>nms.length - i) (fun i:Nat=>i<=nms.length) (0) (by refine Le.trans ?_ (Le.nil (i:=11) (T:=900) (es:=2) rfl);exact(Le.sub4 rfl (by simp[go_sem,h0,dH]))) ⟨?_⟩ ?_
  ·exact Nat.zero_le _
  intro i hi AA hAA;simp only[kL,Nat.reduceBEq,Nat.reduceEqDiff]
  by_cases hlt:i<nms.length
  ·have hnx:=eZ hlt
   have hln:(nms.take i).length=i:=by rw[List.length_take];omega
   have hn1:(nms.take (i+1)).map (fun x=>G5 (x,gM asc x))=(nms.take i).map (fun x=>G5 (x,gM asc x))++ [G5 (nms[i],gM asc nms[i])]:=by rw[hnx,List.map_append];rfl
   generalize nms.take i=A at*
   generalize hbi:nms[i]=x at*
   rcases aEi asc x with⟨g1,g2,_⟩|⟨j,g1,_⟩
   ·rw[g2]at hn1
    repeat' (first|(refine aA fun _ _=>?_)|refine zHg ?_|(refine(hAA.next (i+1) (Le.sub4 rfl (by simp[go_sem,hn1,hln,List.map_append])) (by(try dsimp only);omega) ?_))|simp(disch:=omega) [go_sem,hlt,hbi,g1,hln,dH,aI]|refine zAo ?_|fail)
    try any_goals omega
    exact⟨hlt⟩
   ·have hb3:=hok.1 x
    repeat' (first|(refine aA fun _ _=>?_)|refine zHg ?_|(refine(hAA.next (i+1) (Le.sub4 rfl (by simp[go_sem,hn1,hln,List.map_append])) (by(try dsimp only);omega) ?_))|simp(disch:=omega) [go_sem,hlt,hbi,g1,hln,dH,aI]|refine zAo ?_|fail)
    try any_goals omega
    exact⟨hlt⟩
  ·obtain rfl:i=nms.length:=by omega
   rw[List.take_length]
   repeat' (first|(refine aA fun _ _=>?_)|refine zHg ?_|(refine aM [] ?_;simp[go_sem,hlv,List.length_map])|simp(disch:=omega) [go_sem,hlv,List.length_map])
 ·repeat' (first|(refine aA fun _ _=>?_)|refine zHg ?_|simp(disch:=omega) [go_sem,dH])
  refine bL [4,5,6,20,21] [18] (fun z:Nat×Bool×List (ByteArray×Nat)=> [(22,nt .i64 z.1),(7,bl z.2.1)]) (fun z:Nat×Bool×List (ByteArray×Nat)=> [(18,dH z.2.2)]) (fun z:Nat×Bool×List (ByteArray×Nat)=>es.length - z.1) (fun z:Nat×Bool×List (ByteArray×Nat)=>z.1<=es.length/\T3 es nms z.2.2/\(z.2.1=false->z.2.2=asc/\ ∀e∈es.take z.1,gM asc e.to+eC e<=gM asc e.fr)/\(z.2.1=true->sM nms asc<sM nms z.2.2)) ((0,false,asc)) (Le.sub4 rfl (by simp[go_sem,dH])) ⟨?_⟩ ?_
  ·exact⟨Nat.zero_le _,hok,fun _=>⟨rfl,by simp⟩,fun h=>by cases h⟩
  intro z hin2 AB hAB;simp only[kL,Nat.reduceBEq,Nat.reduceEqDiff]
  obtain⟨k,c,as2⟩:=z
  obtain⟨hk,hok2,hc0,hc1⟩:=hin2
  dsimp only at*
  by_cases hkl:k<es.length
  ·have htk':=eZ hkl
   have hmem:es[k]∈es:=List.getElem_mem hkl
   generalize hbk:es[k]=e at*
   have hst:=bT6 e
   have hs1:eC e<=1:=by unfold eC;split<;>omega
   have hb1:=hok2.1 e.to
   have hb2:=hok2.1 e.fr
   have hsB2:=hBs _ hok2.1
   have hl2:=hok2.2.2
   rcases aEi as2 e.to with⟨g1,g2,_⟩|⟨j,g1,_⟩<;>rcases aEi as2 e.fr with⟨p1,p2,p3⟩|⟨j2,p1,p3⟩
   ·obtain⟨as3,hp,hl3,hg3⟩:=p3 (gM as2 e.to+eC e)
    rw[g2,Nat.zero_add]at hp
    have hl3:as3.length<=as2.length+1:=by omega
    by_cases hv:gM as2 e.fr<gM as2 e.to+eC e
    ·have hv1:(0<(eC e:Int)):=by omega
     have hmr:as3.length<=140737488355328:=by omega
     by_cases hf:nms.length<=gM as2 e.to+eC e
     ·have hlf:=R2 hin hok2.2.1 hmem hf
      have hf1:((nms.length:Int)<=(eC e:Int)):=by omega
      repeat' (first|(refine aA fun _ _=>?_)|refine zHg ?_|(with_reducible refine cY ?_;first|(exact cV)|(refine zSkip ?_)|(refine cW rfl ?_ ?_))|(with_reducible refine cX ?_;first|(refine zDone ?_)|(refine zQu 0 rfl rfl rfl rfl ?_)|(refine zQu 1 rfl rfl rfl rfl ?_)|(refine zQu 2 rfl rfl rfl rfl ?_)|(refine zQu 4 rfl rfl rfl rfl ?_)|(refine zQu 6 rfl rfl rfl rfl ?_)|(refine zQu 7 rfl rfl rfl rfl ?_)|(refine zAll ?_;show cH _ _ _ _ _ _ _))|with_reducible refine dB ?_|(refine zqd ?_ ?_<;>(intro h;first|(exfalso;omega)|(simp only[h,zT])))|(refine aM [] ?_;simp[go_sem,hkl,hbk,bP,g1,p1,hp,hv1,hf1,hlf,hmr,dH])|refine aH rfl (hst) (by simp) ?_|simp(disch:=omega) [go_sem,hkl,hbk,bP,g1,p1,hp,hv1,hf1,hlf,hmr,dH]|refine zAny aS ?_|fail)
     ·have hup:=T4 hin hok2 hmem rfl hv (by omega) hl3 hg3
      have hsl:sM nms asc<sM nms as3:=by
       cases c
       ·rw[<-(hc0 rfl).1];exact hup.2
       ·have:=hc1 rfl;have:=hup.2;omega
      have hf1: ¬((nms.length:Int)<=(eC e:Int)):=by omega
      have hsB:=hBs _ hup.1.1
      repeat' (first|(refine aA fun _ _=>?_)|refine zHg ?_|(with_reducible refine cY ?_;first|(exact cV)|(refine zSkip ?_)|(refine cW rfl ?_ ?_))|(with_reducible refine cX ?_;first|(refine zDone ?_)|(refine zQu 0 rfl rfl rfl rfl ?_)|(refine zQu 1 rfl rfl rfl rfl ?_)|(refine zQu 2 rfl rfl rfl rfl ?_)|(refine zQu 4 rfl rfl rfl rfl ?_)|(refine zQu 6 rfl rfl rfl rfl ?_)|(refine zQu 7 rfl rfl rfl rfl ?_)|(refine zAll ?_;show cH _ _ _ _ _ _ _))|with_reducible refine dB ?_|(refine zqd ?_ ?_<;>(intro h;first|(exfalso;omega)|(simp only[h,zT])))|refine aH rfl (hst) (by simp) ?_|(refine(hAB.next ((k+1,true,as3)) (Le.sub4 rfl (by simp[go_sem,dH])) (by(try dsimp only);omega) ?_))|simp(disch:=omega) [go_sem,hkl,hbk,bP,g1,p1,hp,hv1,hf1,hmr,dH]|refine zAny aS ?_|fail)
      try any_goals omega
      all_goals exact⟨hkl,hup.1,(fun h=>by cases h),(fun _=>hsl)⟩
    ·have hv1: ¬(0<(eC e:Int)):=by omega
     repeat' (first|(refine aA fun _ _=>?_)|refine zHg ?_|(with_reducible refine cY ?_;first|(exact cV)|(refine zSkip ?_)|(refine cW rfl ?_ ?_))|(with_reducible refine cX ?_;first|(refine zDone ?_)|(refine zQu 0 rfl rfl rfl rfl ?_)|(refine zQu 1 rfl rfl rfl rfl ?_)|(refine zQu 2 rfl rfl rfl rfl ?_)|(refine zQu 4 rfl rfl rfl rfl ?_)|(refine zQu 6 rfl rfl rfl rfl ?_)|(refine zQu 7 rfl rfl rfl rfl ?_)|(refine zAll ?_;show cH _ _ _ _ _ _ _))|with_reducible refine dB ?_|(refine zqd ?_ ?_<;>(intro h;first|(exfalso;omega)|(simp only[h,zT])))|refine aH rfl (hst) (by simp) ?_|(refine(hAB.next ((k+1,c,as2)) (Le.sub4 rfl (by simp[go_sem,dH])) (by(try dsimp only);omega) ?_))|simp(disch:=omega) [go_sem,hkl,hbk,bP,g1,p1,hv1,dH]|refine zAny aS ?_|fail)
     try any_goals omega
     all_goals exact⟨hkl,hok2,fun h=>⟨(hc0 h).1,fun e' he'=>by rw[htk']at he';rcases List.mem_append.1 he' with he'|he';(· exact(hc0 h).2 e' he');(· rw[List.mem_singleton.1 he',<-(hc0 h).1];omega)⟩,hc1⟩
   ·obtain⟨as3,hp,hl3,hg3⟩:=p3 (gM as2 e.to+eC e)
    rw[g2,Nat.zero_add]at hp
    have hl3:as3.length<=as2.length+1:=by omega
    by_cases hv:gM as2 e.fr<gM as2 e.to+eC e
    ·have hv1:((gM as2 e.fr:Int)<(eC e:Int)):=by omega
     have hmr:as3.length<=140737488355328:=by omega
     by_cases hf:nms.length<=gM as2 e.to+eC e
     ·have hlf:=R2 hin hok2.2.1 hmem hf
      have hf1:((nms.length:Int)<=(eC e:Int)):=by omega
      repeat' (first|(refine aA fun _ _=>?_)|refine zHg ?_|(with_reducible refine cY ?_;first|(exact cV)|(refine zSkip ?_)|(refine cW rfl ?_ ?_))|(with_reducible refine cX ?_;first|(refine zDone ?_)|(refine zQu 0 rfl rfl rfl rfl ?_)|(refine zQu 1 rfl rfl rfl rfl ?_)|(refine zQu 2 rfl rfl rfl rfl ?_)|(refine zQu 4 rfl rfl rfl rfl ?_)|(refine zQu 6 rfl rfl rfl rfl ?_)|(refine zQu 7 rfl rfl rfl rfl ?_)|(refine zAll ?_;show cH _ _ _ _ _ _ _))|with_reducible refine dB ?_|(refine aM [] ?_;simp[go_sem,hkl,hbk,bP,g1,p1,hp,hv1,hf1,hlf,hmr,dH])|refine aH rfl (hst) (by simp) ?_|simp(disch:=omega) [go_sem,hkl,hbk,bP,g1,p1,hp,hv1,hf1,hlf,hmr,dH]|refine zAny aS ?_|fail)
     ·have hup:=T4 hin hok2 hmem rfl hv (by omega) hl3 hg3
      have hsl:sM nms asc<sM nms as3:=by
       cases c
       ·rw[<-(hc0 rfl).1];exact hup.2
       ·have:=hc1 rfl;have:=hup.2;omega
      have hf1: ¬((nms.length:Int)<=(eC e:Int)):=by omega
      have hsB:=hBs _ hup.1.1
      repeat' (first|(refine aA fun _ _=>?_)|refine zHg ?_|(with_reducible refine cY ?_;first|(exact cV)|(refine zSkip ?_)|(refine cW rfl ?_ ?_))|(with_reducible refine cX ?_;first|(refine zDone ?_)|(refine zQu 0 rfl rfl rfl rfl ?_)|(refine zQu 1 rfl rfl rfl rfl ?_)|(refine zQu 2 rfl rfl rfl rfl ?_)|(refine zQu 4 rfl rfl rfl rfl ?_)|(refine zQu 6 rfl rfl rfl rfl ?_)|(refine zQu 7 rfl rfl rfl rfl ?_)|(refine zAll ?_;show cH _ _ _ _ _ _ _))|with_reducible refine dB ?_|refine aH rfl (hst) (by simp) ?_|(refine(hAB.next ((k+1,true,as3)) (Le.sub4 rfl (by simp[go_sem,dH])) (by(try dsimp only);omega) ?_))|simp(disch:=omega) [go_sem,hkl,hbk,bP,g1,p1,hp,hv1,hf1,hmr,dH]|refine zAny aS ?_|fail)
      try any_goals omega
      all_goals exact⟨hkl,hup.1,(fun h=>by cases h),(fun _=>hsl)⟩
    ·have hv1: ¬((gM as2 e.fr:Int)<(eC e:Int)):=by omega
     repeat' (first|(refine aA fun _ _=>?_)|refine zHg ?_|(with_reducible refine cY ?_;first|(exact cV)|(refine zSkip ?_)|(refine cW rfl ?_ ?_))|(with_reducible refine cX ?_;first|(refine zDone ?_)|(refine zQu 0 rfl rfl rfl rfl ?_)|(refine zQu 1 rfl rfl rfl rfl ?_)|(refine zQu 2 rfl rfl rfl rfl ?_)|(refine zQu 4 rfl rfl rfl rfl ?_)|(refine zQu 6 rfl rfl rfl rfl ?_)|(refine zQu 7 rfl rfl rfl rfl ?_)|(refine zAll ?_;show cH _ _ _ _ _ _ _))|with_reducible refine dB ?_|refine aH rfl (hst) (by simp) ?_|(refine(hAB.next ((k+1,c,as2)) (Le.sub4 rfl (by simp[go_sem,dH])) (by(try dsimp only);omega) ?_))|simp(disch:=omega) [go_sem,hkl,hbk,bP,g1,p1,hv1,dH]|refine zAny aS ?_|fail)
     try any_goals omega
     all_goals exact⟨hkl,hok2,fun h=>⟨(hc0 h).1,fun e' he'=>by rw[htk']at he';rcases List.mem_append.1 he' with he'|he';(· exact(hc0 h).2 e' he');(· rw[List.mem_singleton.1 he',<-(hc0 h).1];omega)⟩,hc1⟩
   ·obtain⟨as3,hp,hl3,hg3⟩:=p3 (gM as2 e.to+eC e)
    rw[Int.natCast_add]at hp
    have hl3:as3.length<=as2.length+1:=by omega
    by_cases hv:gM as2 e.fr<gM as2 e.to+eC e
    ·have hv1:(0<(gM as2 e.to:Int)+(eC e:Int)):=by omega
     have hmr:as3.length<=140737488355328:=by omega
     by_cases hf:nms.length<=gM as2 e.to+eC e
     ·have hlf:=R2 hin hok2.2.1 hmem hf
      have hf1:((nms.length:Int)<=(gM as2 e.to:Int)+(eC e:Int)):=by omega
      repeat' (first|(refine aA fun _ _=>?_)|refine zHg ?_|(with_reducible refine cY ?_;first|(exact cV)|(refine zSkip ?_)|(refine cW rfl ?_ ?_))|(with_reducible refine cX ?_;first|(refine zDone ?_)|(refine zQu 0 rfl rfl rfl rfl ?_)|(refine zQu 1 rfl rfl rfl rfl ?_)|(refine zQu 2 rfl rfl rfl rfl ?_)|(refine zQu 4 rfl rfl rfl rfl ?_)|(refine zQu 6 rfl rfl rfl rfl ?_)|(refine zQu 7 rfl rfl rfl rfl ?_)|(refine zAll ?_;show cH _ _ _ _ _ _ _))|with_reducible refine dB ?_|(refine aM [] ?_;simp[go_sem,hkl,hbk,bP,g1,p1,hp,hv1,hf1,hlf,hmr,dH])|refine aH rfl (hst) (by simp) ?_|simp(disch:=omega) [go_sem,hkl,hbk,bP,g1,p1,hp,hv1,hf1,hlf,hmr,dH]|refine zAny aS ?_|fail)
     ·have hup:=T4 hin hok2 hmem rfl hv (by omega) hl3 hg3
      have hsl:sM nms asc<sM nms as3:=by
       cases c
       ·rw[<-(hc0 rfl).1];exact hup.2
       ·have:=hc1 rfl;have:=hup.2;omega
      have hf1: ¬((nms.length:Int)<=(gM as2 e.to:Int)+(eC e:Int)):=by omega
      have hsB:=hBs _ hup.1.1
      repeat' (first|(refine aA fun _ _=>?_)|refine zHg ?_|(with_reducible refine cY ?_;first|(exact cV)|(refine zSkip ?_)|(refine cW rfl ?_ ?_))|(with_reducible refine cX ?_;first|(refine zDone ?_)|(refine zQu 0 rfl rfl rfl rfl ?_)|(refine zQu 1 rfl rfl rfl rfl ?_)|(refine zQu 2 rfl rfl rfl rfl ?_)|(refine zQu 4 rfl rfl rfl rfl ?_)|(refine zQu 6 rfl rfl rfl rfl ?_)|(refine zQu 7 rfl rfl rfl rfl ?_)|(refine zAll ?_;show cH _ _ _ _ _ _ _))|with_reducible refine dB ?_|refine aH rfl (hst) (by simp) ?_|(refine(hAB.next ((k+1,true,as3)) (Le.sub4 rfl (by simp[go_sem,dH])) (by(try dsimp only);omega) ?_))|simp(disch:=omega) [go_sem,hkl,hbk,bP,g1,p1,hp,hv1,hf1,hmr,dH]|refine zAny aS ?_|fail)
      try any_goals omega
      all_goals exact⟨hkl,hup.1,(fun h=>by cases h),(fun _=>hsl)⟩
    ·have hv1: ¬(0<(gM as2 e.to:Int)+(eC e:Int)):=by omega
     repeat' (first|(refine aA fun _ _=>?_)|refine zHg ?_|(with_reducible refine cY ?_;first|(exact cV)|(refine zSkip ?_)|(refine cW rfl ?_ ?_))|(with_reducible refine cX ?_;first|(refine zDone ?_)|(refine zQu 0 rfl rfl rfl rfl ?_)|(refine zQu 1 rfl rfl rfl rfl ?_)|(refine zQu 2 rfl rfl rfl rfl ?_)|(refine zQu 4 rfl rfl rfl rfl ?_)|(refine zQu 6 rfl rfl rfl rfl ?_)|(refine zQu 7 rfl rfl rfl rfl ?_)|(refine zAll ?_;show cH _ _ _ _ _ _ _))|with_reducible refine dB ?_|refine aH rfl (hst) (by simp) ?_|(refine(hAB.next ((k+1,c,as2)) (Le.sub4 rfl (by simp[go_sem,dH])) (by(try dsimp only);omega) ?_))|simp(disch:=omega) [go_sem,hkl,hbk,bP,g1,p1,hv1,dH]|refine zAny aS ?_|fail)
     try any_goals omega
     all_goals exact⟨hkl,hok2,fun h=>⟨(hc0 h).1,fun e' he'=>by rw[htk']at he';rcases List.mem_append.1 he' with he'|he';(· exact(hc0 h).2 e' he');(· rw[List.mem_singleton.1 he',<-(hc0 h).1];omega)⟩,hc1⟩
   ·obtain⟨as3,hp,hl3,hg3⟩:=p3 (gM as2 e.to+eC e)
    rw[Int.natCast_add]at hp
    have hl3:as3.length<=as2.length+1:=by omega
    by_cases hv:gM as2 e.fr<gM as2 e.to+eC e
    ·have hv1:((gM as2 e.fr:Int)<(gM as2 e.to:Int)+(eC e:Int)):=by omega
     have hmr:as3.length<=140737488355328:=by omega
     by_cases hf:nms.length<=gM as2 e.to+eC e
     ·have hlf:=R2 hin hok2.2.1 hmem hf
      have hf1:((nms.length:Int)<=(gM as2 e.to:Int)+(eC e:Int)):=by omega
      repeat' (first|(refine aA fun _ _=>?_)|refine zHg ?_|(with_reducible refine cY ?_;first|(exact cV)|(refine zSkip ?_)|(refine cW rfl ?_ ?_))|(with_reducible refine cX ?_;first|(refine zDone ?_)|(refine zQu 0 rfl rfl rfl rfl ?_)|(refine zQu 1 rfl rfl rfl rfl ?_)|(refine zQu 2 rfl rfl rfl rfl ?_)|(refine zQu 4 rfl rfl rfl rfl ?_)|(refine zQu 6 rfl rfl rfl rfl ?_)|(refine zQu 7 rfl rfl rfl rfl ?_)|(refine zAll ?_;show cH _ _ _ _ _ _ _))|with_reducible refine dB ?_|(refine aM [] ?_;simp[go_sem,hkl,hbk,bP,g1,p1,hp,hv1,hf1,hlf,hmr,dH])|refine aH rfl (hst) (by simp) ?_|simp(disch:=omega) [go_sem,hkl,hbk,bP,g1,p1,hp,hv1,hf1,hlf,hmr,dH]|refine zAny aS ?_|fail)
     ·have hup:=T4 hin hok2 hmem rfl hv (by omega) hl3 hg3
      have hsl:sM nms asc<sM nms as3:=by
       cases c
       ·rw[<-(hc0 rfl).1];exact hup.2
       ·have:=hc1 rfl;have:=hup.2;omega
      have hf1: ¬((nms.length:Int)<=(gM as2 e.to:Int)+(eC e:Int)):=by omega
      have hsB:=hBs _ hup.1.1
      repeat' (first|(refine aA fun _ _=>?_)|refine zHg ?_|(with_reducible refine cY ?_;first|(exact cV)|(refine zSkip ?_)|(refine cW rfl ?_ ?_))|(with_reducible refine cX ?_;first|(refine zDone ?_)|(refine zQu 0 rfl rfl rfl rfl ?_)|(refine zQu 1 rfl rfl rfl rfl ?_)|(refine zQu 2 rfl rfl rfl rfl ?_)|(refine zQu 4 rfl rfl rfl rfl ?_)|(refine zQu 6 rfl rfl rfl rfl ?_)|(refine zQu 7 rfl rfl rfl rfl ?_)|(refine zAll ?_;show cH _ _ _ _ _ _ _))|with_reducible refine dB ?_|refine aH rfl (hst) (by simp) ?_|(refine(hAB.next ((k+1,true,as3)) (Le.sub4 rfl (by simp[go_sem,dH])) (by(try dsimp only);omega) ?_))|simp(disch:=omega) [go_sem,hkl,hbk,bP,g1,p1,hp,hv1,hf1,hmr,dH]|refine zAny aS ?_|fail)
      try any_goals omega
      all_goals exact⟨hkl,hup.1,(fun h=>by cases h),(fun _=>hsl)⟩
    ·have hv1: ¬((gM as2 e.fr:Int)<(gM as2 e.to:Int)+(eC e:Int)):=by omega
     repeat' (first|(refine aA fun _ _=>?_)|refine zHg ?_|(with_reducible refine cY ?_;first|(exact cV)|(refine zSkip ?_)|(refine cW rfl ?_ ?_))|(with_reducible refine cX ?_;first|(refine zDone ?_)|(refine zQu 0 rfl rfl rfl rfl ?_)|(refine zQu 1 rfl rfl rfl rfl ?_)|(refine zQu 2 rfl rfl rfl rfl ?_)|(refine zQu 4 rfl rfl rfl rfl ?_)|(refine zQu 6 rfl rfl rfl rfl ?_)|(refine zQu 7 rfl rfl rfl rfl ?_)|(refine zAll ?_;show cH _ _ _ _ _ _ _))|with_reducible refine dB ?_|refine aH rfl (hst) (by simp) ?_|(refine(hAB.next ((k+1,c,as2)) (Le.sub4 rfl (by simp[go_sem,dH])) (by(try dsimp only);omega) ?_))|simp(disch:=omega) [go_sem,hkl,hbk,bP,g1,p1,hv1,dH]|refine zAny aS ?_|fail)
     try any_goals omega
     all_goals exact⟨hkl,hok2,fun h=>⟨(hc0 h).1,fun e' he'=>by rw[htk']at he';rcases List.mem_append.1 he' with he'|he';(· exact(hc0 h).2 e' he');(· rw[List.mem_singleton.1 he',<-(hc0 h).1];omega)⟩,hc1⟩
  ·obtain rfl:k=es.length:=by omega
   rw[List.take_length]at hc0
   have hsB2:=hBs _ hok2.1
   have hmea:2*(B - sM nms as2)+cN c<2*(B - sM nms asc)+cN true:=by
    cases c
    ·rw[(hc0 rfl).1];omega
    ·have:=hc1 rfl;omega
   repeat' (first|(refine aA fun _ _=>?_)|refine zHg ?_|(refine(hAA.next ((c,as2)) (Le.sub4 rfl (by simp[go_sem,dH])) (by(try dsimp only);omega) ?_))|simp(disch:=omega) [go_sem,dH])
   try any_goals omega
   all_goals exact⟨hok2,fun h=>by rw[(hc0 h).1];exact(hc0 h).2⟩
open Go.Shelf Go.Proofs
def Tryz.srtE_ren:Go.Shelf.Ren:=⟨fun|6=>162|15=>63|14=>177|28=>111|29=>112|20=>185|21=>186|22=>187|23=>188|24=>189|25=>190|26=>191|27=>192|46=>195|47=>140|48=>141|49=>196|50=>197|57=>207|n=>n,fun|22=>124|24=>130|25=>174|3=>3|39=>104|0=>0|53=>151|55=>114|4=>4|46=>145|45=>144|50=>121|5=>5|9=>9|66=>180|70=>184|76=>207|77=>208|n=>n,fun|n=>n⟩
theorem Tryz.srtE:Go.Proofs.SlLaysF0.n6 prog Tryz.srtE_ren:= {
 mixed:=by kernel_rfl
 f6:=⟨Tryz.f162.name,by decide,func162.trans (congrArg some (by kernel_rfl))⟩
 f14:=⟨Tryz.f177.name,by decide,func177.trans (congrArg some (by kernel_rfl))⟩
 f15:=func63.trans (congrArg some (by kernel_rfl))
 f20:=⟨Tryz.f185.name,by decide,func185.trans (congrArg some (by kernel_rfl))⟩
 f21:=⟨Tryz.f186.name,by decide,func186.trans (congrArg some (by kernel_rfl))⟩
 f22:=⟨Tryz.f187.name,by decide,func187.trans (congrArg some (by kernel_rfl))⟩
 f23:=⟨Tryz.f188.name,by decide,func188.trans (congrArg some (by kernel_rfl))⟩
 f24:=⟨Tryz.f189.name,by decide,func189.trans (congrArg some (by kernel_rfl))⟩
 f25:=⟨Tryz.f190.name,by decide,func190.trans (congrArg some (by kernel_rfl))⟩
 f26:=⟨Tryz.f191.name,by decide,func191.trans (congrArg some (by kernel_rfl))⟩
 f27:=⟨Tryz.f192.name,by decide,func192.trans (congrArg some (by kernel_rfl))⟩
 f28:=func111.trans (congrArg some (by kernel_rfl))
 f29:=func112.trans (congrArg some (by kernel_rfl))
 f46:=⟨Tryz.f195.name,by decide,func195.trans (congrArg some (by kernel_rfl))⟩
 f47:=func140.trans (congrArg some (by kernel_rfl))
 f48:=func141.trans (congrArg some (by kernel_rfl))
 f49:=⟨Tryz.f196.name,by decide,func196.trans (congrArg some (by kernel_rfl))⟩
 f50:=⟨Tryz.f197.name,by decide,func197.trans (congrArg some (by kernel_rfl))⟩
 f57:=⟨Tryz.f207.name,by decide,func207.trans (congrArg some (by kernel_rfl))⟩
 t0:=underlying0
 a0:=Tryz.isAgg0
 z0:=Tryz.sizeOf0
 v0:=Tryz.zeroValue0
 t3:=underlying3
 a3:=Tryz.isAgg3
 z3:=Tryz.sizeOf3
 v3:=Tryz.zeroValue3
 t4:=underlying4
 a4:=Tryz.isAgg4
 z4:=Tryz.sizeOf4
 v4:=Tryz.zeroValue4
 t5:=underlying5
 a5:=Tryz.isAgg5
 z5:=Tryz.sizeOf5
 v5:=Tryz.zeroValue5
 t9:=underlying9
 a9:=Tryz.isAgg9
 z9:=Tryz.sizeOf9
 v9:=Tryz.zeroValue9
 t22:=underlying124
 a22:=Tryz.isAgg124
 z22:=Tryz.sizeOf124
 v22:=Tryz.zeroValue124
 t25:=underlying174
 a25:=Tryz.isAgg174
 z25:=Tryz.sizeOf174
 v25:=Tryz.zeroValue174
 t39:=underlying104
 a39:=Tryz.isAgg104
 z39:=Tryz.sizeOf104
 v39:=Tryz.zeroValue104
 t45:=underlying144
 a45:=Tryz.isAgg144
 z45:=Tryz.sizeOf144
 v45:=Tryz.zeroValue144
 t46:=underlying145
 a46:=Tryz.isAgg145
 z46:=Tryz.sizeOf145
 v46:=Tryz.zeroValue145
 t50:=underlying121
 a50:=Tryz.isAgg121
 z50:=Tryz.sizeOf121
 v50:=Tryz.zeroValue121
 t53:=underlying151
 a53:=Tryz.isAgg151
 z53:=Tryz.sizeOf151
 v53:=Tryz.zeroValue151
 t55:=underlying114
 a55:=Tryz.isAgg114
 z55:=Tryz.sizeOf114
 v55:=Tryz.zeroValue114
 t66:=underlying180
 a66:=Tryz.isAgg180
 z66:=Tryz.sizeOf180
 v66:=Tryz.zeroValue180
 t70:=underlying184
 a70:=Tryz.isAgg184
 z70:=Tryz.sizeOf184
 v70:=Tryz.zeroValue184
 t76:=underlying207
 a76:=Tryz.isAgg207
 z76:=Tryz.sizeOf207
 v76:=Tryz.zeroValue207
 t77:=underlying208
 a77:=Tryz.isAgg208
 z77:=Tryz.sizeOf208
 v77:=Tryz.zeroValue208}
set_option maxHeartbeats 8000000
theorem bT8 (f:FuncId):MCall prog 185 [.ref 1000 0 0,nt .i64 0,nt .i64 0,.clo f []] [(1000,bB bP 3 0 [])] (fun r o'=>r= .tup []/\o'= [(1000,bB bP 3 0 [])]):=by
 refine dC func185 call185 rfl (by simp[ntmps185]) ?_;simp only[ntmps185,results185]
 repeat' (first|(refine aA fun _ _=>?_)|refine zHg ?_|simp(disch:=omega) [go_sem])
 refine bL [0,1,2,3] [] (fun u:Unit=> [(8,nt .i64 1)]) (fun u:Unit=> []) (fun u:Unit=>0) (fun u:Unit=>True) (()) (Le.sub4 rfl (by simp[go_sem])) ⟨?_⟩ ?_
 ·trivial
 intro u hu AA hAA;simp only[kL,Nat.reduceBEq,Nat.reduceEqDiff]
 repeat' (first|(refine aA fun _ _=>?_)|refine zHg ?_|simp(disch:=omega) [go_sem])
 refine nS ⟨53,[],[(1000,bB bP 3 0 [])]⟩ [] (Le.renSub [] [] (by simp[go_sem]) (by simp[go_sem]) (Le.sub4 rfl (by simp[go_sem]))) (by simp[go_sem]) ⟨rfl,rfl⟩
theorem bT9 (f:FuncId):MCall prog 177 [.ref 1000 0 0,nt .i64 0,nt .i64 0,nt .i64 0,.clo f []] [(1000,bB bP 3 0 [])] (fun r o'=>r= .tup []/\o'= [(1000,bB bP 3 0 [])]):=by
 have hi:=bT8 f
 refine dC func177 call177 rfl (by simp[ntmps177]) ?_;simp only[ntmps177,results177]
 repeat' (first|(refine aA fun _ _=>?_)|refine zHg ?_|simp(disch:=omega) [go_sem])
 refine bL [0,4] [] (fun u:Unit=> [(1,nt .i64 0),(2,nt .i64 0),(3,nt .i64 0),(10,bl true),(11,bl true)]) (fun u:Unit=> []) (fun u:Unit=>0) (fun u:Unit=>True) (()) (Le.sub4 rfl (by simp[go_sem])) ⟨?_⟩ ?_
 ·trivial
 intro u hu AA hAA;simp only[kL,Nat.reduceBEq,Nat.reduceEqDiff]
 repeat' (first|(refine aA fun _ _=>?_)|refine zHg ?_|simp(disch:=omega) [go_sem])
 refine aX [] [] 10000 _ _ (Fits.mk' (by simp[go_sem]) (by simp[go_sem])) (by simp[go_sem]) (by simp[go_sem]) (hi) (by simp[go_sem]) (by simp[go_sem]) ?_
 repeat' (first|(refine aA fun _ _=>?_)|refine zHg ?_|simp(disch:=omega) [go_sem])
 refine cJ ⟨148,[],[(1000,bB bP 3 0 [])]⟩ [] (Le.renSub [] [] (by simp[go_sem]) (by simp[go_sem]) (Le.sub4 rfl (by simp[go_sem]))) (by simp[go_sem]) ⟨rfl,rfl⟩
theorem bUa (f:FuncId):MCall prog 162 [.ref 1000 0 0,.clo f []] [(1000,bB bP 3 0 [])] (fun r o'=>r= .tup []/\o'= [(1000,bB bP 3 0 [])]):=by
 have hi:=bT9 f
 have hl:=aC3
 refine dC func162 call162 rfl (by simp[ntmps162]) ?_;simp only[ntmps162,results162]
 repeat' (first|(refine aA fun _ _=>?_)|refine zHg ?_|refine aH rfl (hl) (by simp) ?_|simp(disch:=omega) [go_sem])
 refine aX [] [] 10000 _ _ (Fits.mk' (by simp[go_sem]) (by simp[go_sem])) (by simp[go_sem]) (by simp[go_sem]) (hi) (by simp[go_sem]) (by simp[go_sem]) ?_
 repeat' (first|(refine aA fun _ _=>?_)|refine zHg ?_|simp(disch:=omega) [go_sem])
 refine nS ⟨14,[],[(1000,bB bP 3 0 [])]⟩ [] (Le.renSub [] [] (by simp[go_sem]) (by simp[go_sem]) (Le.sub4 rfl (by simp[go_sem]))) (by simp[go_sem]) ⟨rfl,rfl⟩
theorem bUb {α:Type} {c:α->α->Int} (h:Tot c):Go.Sort.SWO (ltOf c) where
 irrefl x:=by
  unfold ltOf
  rw[decide_eq_false_iff_not,(h.zero x x).2 rfl]
  decide
 trans x y z h1 h2:=by
  unfold ltOf at*
  simp only[decide_eq_true_eq]at*
  obtain⟨g1,g2⟩:=h.tr x y z (by omega) (by omega)
  have: ¬c x z=0:=fun e=>by have:=(g2 e).1;omega
  omega
 ntrans x y z h1 h2:=by
  unfold ltOf at*
  simp only[decide_eq_false_iff_not,Int.not_lt]at*
  have a:=h.neg x y
  have b:=h.neg y z
  have d:=h.neg x z
  obtain⟨g1,g2⟩:=h.tr z y x (by omega) (by omega)
  omega
abbrev tI (e:Ed):List Value:= [.string e.fr,.string e.to,.bool e.neg]
theorem aPp:G2:=fun l hb=>by
 by_cases hl:l= []
 ·subst hl
  exact(bUa _).mono fun r o' ⟨h1,h2⟩=>⟨[],⟨.refl _,.nil⟩,h1,h2⟩
 ·have h1: ∀x:Ed,∀v∈tI x,Go.Ab.one v=true:=fun x v hv=>by simp[tI]at hv;rcases hv with rfl|rfl|rfl<;>rfl
  have h2: ∀x:Ed,∀v∈tI x,gD v=true:=fun x v hv=>by simp[tI]at hv;rcases hv with rfl|rfl|rfl<;>rfl
  have h3: ∀x:Ed,∀v∈tI x,v.oneCell'=true:=fun x v hv=>by simp[tI]at hv;rcases hv with rfl|rfl|rfl<;>rfl
  have h:=bJm (P:=prog) (f:=162) (g:=133) tI (k:=3) (fun _=>rfl) h1 h2 (ltOf iW) 0 (by decide) l hl call162
   (fun blk cap w hH hblk=>by
    have h:=AnyQ.slices_SortFunc Tryz.srtE 3 (fun w=>(qK aB2 w).1) (fun w=>(qK aB2 w).2) tI (fun _=>rfl) h3 iW (bUb wO) 133 #[] blk 0 cap l.toArray w call133
     (fun m os dk hs x y=>bJj tI h1 h2 iW (fun x y=> @bTv (Glob.none _) x y) x y _) hH hblk (by(try simp);omega)
    exact h)
  refine h.mono fun r o' ⟨m,⟨g1,g2⟩,g3,g4⟩=>⟨m,⟨g1,g2.imp fun {x y} hxy=>?_⟩,g3,g4⟩
  unfold ltOf at hxy
  simp only[decide_eq_false_iff_not,Int.not_lt]at hxy
  have:=wO.neg x y
  omega
theorem aEj {α β:Type} {f:α->List β} {n:Nat}: ∀{l:List α},(∀r∈l,(f r).length<=n)->(l.flatMap f).length<=n*l.length
 | [],_=>by simp
 |a::l,h=>by
  have h1:=aEj (f:=f) (n:=n) (l:=l) fun r hr=>h r (by simp[hr])
  have h2:=h a (by simp)
  simp only[List.flatMap_cons,List.length_append,List.length_cons,Nat.mul_add,Nat.mul_one]
  omega
theorem aPq {l:List Rl} (hb: ∀r∈l,r.body.length<=8):(iB l).length<=8*l.length:=by
 unfold iB
 refine Nat.le_trans (aMp _) (aEj fun r hr=>?_)
 unfold wP
 split
 ·simp
 ·rw[List.length_map]
  exact Nat.le_trans (List.length_filter_le _ _) (hb r hr)
theorem bUc {l:List Rl} (hb: ∀r∈l,r.body.length<=8):(rI l).length<=9*l.length:=by
 unfold rI E4
 refine Nat.le_trans (aMp _) (Nat.le_trans (List.length_filter_le _ _) (aEj fun r hr=>?_))
 simp only[List.length_map,cU,List.length_cons]
 have:=hb r hr
 omega
theorem bUd {r:Rl} (h:lC r=0):r.body.length<=8:=by
 unfold lC at h
 by_cases h8:8<r.body.length
 ·rw[if_pos h8]at h;cases h
 ·omega
theorem aPr: ∀{l:List Rl} {i:Nat},uS l i=none-> ∀r∈l,lC r=0
 |r::q,i,h,x,hx=>by
  unfold uS at h
  by_cases h0:lC r=0
  ·rw[if_neg (by simpa using h0)]at h
   rcases List.mem_cons.1 hx with rfl|hx
   ·exact h0
   ·exact aPr h x hx
  ·rw[if_pos h0]at h;cases h
theorem bUe (es:List Ed):pD es=0\/pD es=10:=by
 unfold pD
 split
 ·exact .inl rfl
 ·exact .inr rfl
def aPs:Prop:= ∀(l:List Rl) (le fu:Bool),l.length<=128->(∀r∈l,r.body.length<=8)->
 ACall prog 47 [.list le fu (l.map bH)] (fun v=>(pD (iB l)=0/\ ∃xs,v= .tup [.own 2 xs,nt .i64 0])\/(pD (iB l)=10/\v= .tup [.list false true [],nt .i64 10]))
theorem bUf [KwG] (hR:T2) (hV:aPs) (l:List Rl) (le fu:Bool) (hb: ∀r∈l,r.body.length<=1000000) (hh: ∀r∈l,r.head.size<=100) (hz: ∀r∈l,∀b∈r.body,b.atom.size<=100):
 ACall prog 20 [.list le fu (l.map bH)] (fun v=>v= .tup [nt .i64 (gS l).1,nt .i64 (gS l).2]):=by
 refine ACall.bound (i:=0) rfl call20 fun hbl=>?_
 rw[List.length_map]at hbl
 have hbl:l.length<=140737488355328:=hbl
 unfold gS
 by_cases h128:128<l.length
 ·rw[if_pos h128]
  have h1:(128:Int)<l.length:=by omega
  refine aQ func20 call20 rfl (by simp[ntmps20]) ?_;simp only[ntmps20,results20]
  repeat' (first|(refine aA fun _ _=>?_)|refine zHg ?_|(refine aM [] ?_;simp[go_sem,h1])|simp(disch:=omega) [go_sem,h1])
 ·rw[if_neg h128]
  have h1: ¬(128:Int)<l.length:=by omega
  have hru: ∀(i:Nat) (hi:i<l.length),ACall prog 42 [bH l[i]] (fun v=>v=nt .i64 (lC l[i])):=fun i hi=>bSz _ (hb _ (List.getElem_mem hi)) (hh _ (List.getElem_mem hi)) (hz _ (List.getElem_mem hi))
  have hno:=aPr (l:=l) (i:=0)
  generalize hE:uS l 0=E at*
  refine aQ func20 call20 rfl (by simp[ntmps20]) ?_;simp only[ntmps20,results20]
  repeat' (first|(refine aA fun _ _=>?_)|refine zHg ?_|simp(disch:=omega) [go_sem,h1])
  refine bL [0,14,15] [] (fun i:Nat=> [(16,nt .i64 i)]) (fun i:Nat=> []) (fun i:Nat=>l.length - i) (fun i:Nat=>i<=l.length/\uS (l.drop i) i=E) (0) (Le.sub4 rfl (by simp[go_sem])) ⟨?_⟩ ?_
  ·exact⟨Nat.zero_le _,hE⟩
  intro i ⟨hi,hd⟩ AA hAA;simp only[kL,Nat.reduceBEq,Nat.reduceEqDiff]
  try dsimp only at*
  by_cases hlt:i<l.length
  ·have hr:=hru i hlt
   rw[List.drop_eq_getElem_cons hlt,uS]at hd
   generalize hbi:l[i]=r at*
   by_cases h0:lC r=0
   ·rw[if_neg (by simpa using h0)]at hd
    rw[h0]at hr
    repeat' (first|(refine aA fun _ _=>?_)|refine zHg ?_|refine aH rfl (hr) (by simp) ?_|(refine(hAA.next (i+1) (Le.sub4 rfl (by simp[go_sem])) (by(try dsimp only);omega) ?_))|simp(disch:=omega) [go_sem,hlt,hbi])
    try any_goals omega
    all_goals exact⟨hlt,hd⟩
   ·rw[if_pos h0]at hd
    subst hd
    generalize lC r=z at*
    repeat' (first|(refine aA fun _ _=>?_)|refine zHg ?_|(refine aM [] ?_;simp[go_sem,hlt,hbi,h0])|refine aH rfl (hr) (by simp) ?_|simp(disch:=omega) [go_sem,hlt,hbi,h0])
  ·obtain rfl:i=l.length:=by omega
   rw[List.drop_length,uS]at hd
   subst hd
   have hr0:=hno rfl
   have h8: ∀r∈l,r.body.length<=8:=fun r hr=>bUd (hr0 r hr)
   have hdf:=bS8 l le fu (by omega) h8
   have hro:=aOy l le fu (by omega) (fun r hr=>Nat.le_trans (hh r hr) (by decide))
   have hch:=bS7 l le fu (by omega) (fun r hr=>Nat.le_trans (hh r hr) (by decide))
   have hdp:=bT5 aPp hR l le fu (by omega) h8 (by have:=aPq h8;omega)
   have hlv:=hV l le fu (by omega) h8
   have hl01:=bUe (iB l)
   generalize sU [] l 0=D at*
   generalize oB l=R at*
   generalize E2 l=c at*
   generalize R0 l=b at*
   generalize pD (iB l)=v at*
   have hlenT:True:=trivial
   cases D with
   |some j=>
    unfold yT at hdf
    dsimp only at hdf
    repeat' (first|(refine aA fun _ _=>?_)|refine zHg ?_|(refine aM [] ?_;simp[go_sem])|refine aH rfl (hdf) (by simp) ?_|simp(disch:=omega) [go_sem])
   |none=>
    unfold yT at hdf
    dsimp only at hdf
    by_cases hc:R.length=0\/4<R.length\/(R.length=1/\c=0)
    ·by_cases c1:R.length=0
     ·have d1:(R.length:Int)=0:=by omega
      repeat' (first|(refine aA fun _ _=>?_)|refine zHg ?_|(refine aM [] ?_;simp[go_sem,hc,c1,d1])|refine aH rfl (hdf) (by simp) ?_|refine aH rfl (hro) (by simp) ?_|simp(disch:=omega) [go_sem,hc,c1,d1])
     ·have d1: ¬(R.length:Int)=0:=by omega
      by_cases c2:4<R.length
      ·have d2:(4:Int)<R.length:=by omega
       repeat' (first|(refine aA fun _ _=>?_)|refine zHg ?_|(refine aM [] ?_;simp[go_sem,hc,c1,d1,c2,d2])|refine aH rfl (hdf) (by simp) ?_|refine aH rfl (hro) (by simp) ?_|simp(disch:=omega) [go_sem,hc,c1,d1,c2,d2])
      ·have d2: ¬(4:Int)<R.length:=by omega
       obtain⟨c3,c4⟩:R.length=1/\c=0:=by omega
       have d3:(R.length:Int)=1:=by omega
       subst c4
       repeat' (first|(refine aA fun _ _=>?_)|refine zHg ?_|(refine aM [] ?_;simp[go_sem,hc,c1,d1,c2,d2,c3,d3])|refine aH rfl (hdf) (by simp) ?_|refine aH rfl (hro) (by simp) ?_|refine aH rfl (hch) (by simp) ?_|simp(disch:=omega) [go_sem,hc,c1,d1,c2,d2,c3,d3])
    ·have c1: ¬R.length=0:=fun e=>hc (.inl e)
     have hnil: ¬R= []:=fun e=>c1 (by rw[e];rfl)
     have c2: ¬4<R.length:=fun e=>hc (.inr (.inl e))
     have d1: ¬(R.length:Int)=0:=by omega
     have d2: ¬(4:Int)<R.length:=by omega
     by_cases c3:R.length=1
     ·have d3:(R.length:Int)=1:=by omega
      have c4: ¬c=0:=fun e=>hc (.inr (.inr ⟨c3,e⟩))
      cases b
      ·repeat' (first|(refine aA fun _ _=>?_)|refine zHg ?_|refine aH rfl (hdf) (by simp) ?_|refine aH rfl (hro) (by simp) ?_|refine aH rfl (hch) (by simp) ?_|refine aH rfl (hdp) (by simp) ?_|simp(disch:=omega) [go_sem,hc,c1,d1,c2,d2,c3,d3,c4])
       rcases hl01 with rfl|rfl
       ·have hlv:ACall prog 47 [.list le fu (l.map bH)] (fun v=> ∃xs,v= .tup [.own 2 xs,nt .i64 0]):=hlv.mono fun r h=>by
         rcases h with⟨_,h⟩|⟨h,_⟩
         ·exact h
         ·exact absurd h (by decide)
        refine aAa [] _ rfl rfl hlv (by simp) fun x hx=>?_
        obtain⟨xs,rfl⟩:=hx
        repeat' (first|(refine aA fun _ _=>?_)|refine zHg ?_|(refine aM [] ?_;simp[go_sem])|simp(disch:=omega) [go_sem])
        simp[hnil,c2,c3,c4]
       ·have hlv:ACall prog 47 [.list le fu (l.map bH)] (fun v=>v= .tup [.list false true [],nt .i64 10]):=hlv.mono fun r h=>by
         rcases h with⟨h,_⟩|⟨_,h⟩
         ·exact absurd h (by decide)
         ·exact h
        repeat' (first|(refine aA fun _ _=>?_)|refine zHg ?_|(refine aM [] ?_;simp[go_sem])|refine aH rfl (hlv) (by simp) ?_|simp(disch:=omega) [go_sem])
        simp[hnil,c2,c3,c4]
      ·repeat' (first|(refine aA fun _ _=>?_)|refine zHg ?_|(refine aM [] ?_;simp[go_sem,hc,c1,d1,c2,d2,c3,d3,c4])|refine aH rfl (hdf) (by simp) ?_|refine aH rfl (hro) (by simp) ?_|refine aH rfl (hch) (by simp) ?_|refine aH rfl (hdp) (by simp) ?_|simp(disch:=omega) [go_sem,hc,c1,d1,c2,d2,c3,d3,c4])
     ·have d3: ¬(R.length:Int)=1:=by omega
      cases b
      ·repeat' (first|(refine aA fun _ _=>?_)|refine zHg ?_|refine aH rfl (hdf) (by simp) ?_|refine aH rfl (hro) (by simp) ?_|refine aH rfl (hdp) (by simp) ?_|simp(disch:=omega) [go_sem,hc,c1,d1,c2,d2,c3,d3])
       rcases hl01 with rfl|rfl
       ·have hlv:ACall prog 47 [.list le fu (l.map bH)] (fun v=> ∃xs,v= .tup [.own 2 xs,nt .i64 0]):=hlv.mono fun r h=>by
         rcases h with⟨_,h⟩|⟨h,_⟩
         ·exact h
         ·exact absurd h (by decide)
        refine aAa [] _ rfl rfl hlv (by simp) fun x hx=>?_
        obtain⟨xs,rfl⟩:=hx
        repeat' (first|(refine aA fun _ _=>?_)|refine zHg ?_|(refine aM [] ?_;simp[go_sem])|simp(disch:=omega) [go_sem])
        simp[hnil,c2,c3]
       ·have hlv:ACall prog 47 [.list le fu (l.map bH)] (fun v=>v= .tup [.list false true [],nt .i64 10]):=hlv.mono fun r h=>by
         rcases h with⟨h,_⟩|⟨_,h⟩
         ·exact absurd h (by decide)
         ·exact h
        repeat' (first|(refine aA fun _ _=>?_)|refine zHg ?_|(refine aM [] ?_;simp[go_sem])|refine aH rfl (hlv) (by simp) ?_|simp(disch:=omega) [go_sem])
        simp[hnil,c2,c3]
      ·repeat' (first|(refine aA fun _ _=>?_)|refine zHg ?_|(refine aM [] ?_;simp[go_sem,hc,c1,d1,c2,d2,c3,d3])|refine aH rfl (hdf) (by simp) ?_|refine aH rfl (hro) (by simp) ?_|refine aH rfl (hdp) (by simp) ?_|simp(disch:=omega) [go_sem,hc,c1,d1,c2,d2,c3,d3])
theorem bUg:aPs:=fun l le fu hl hb=>bT7 aPp l le fu (by omega) hb (by have:=bUc hb;omega) (by have:=aPq hb;omega)
abbrev Gs:Type:=List (ByteArray×List ByteArray)
abbrev rB:Nat:=1000000000
def oE (es:List Ed):Gs:=es.foldl (fun gs e=>dX gs e.fr e.to) []
theorem bUh {es:List Ed} {i:Nat} (h:i<es.length):oE (es.take (i+1))=dX (oE (es.take i)) es[i].fr es[i].to:=by
 unfold oE
 rw[List.take_succ_eq_append_getElem h,List.foldl_append]
 rfl
theorem bUi (es:List Ed) (s:ByteArray):iH (oE es) s=jU es s:=by
 have h: ∀(l:List Ed) (gs:Gs),iH (l.foldl (fun gs e=>dX gs e.fr e.to) gs) s=iH gs s++jU l s:=by
  intro l
  induction l with
  |nil=>intro gs;simp[jU]
  |cons e l ih=>
   intro gs
   rw[List.foldl_cons,ih,aJs]
   unfold jU
   by_cases h:e.fr=s
   ·simp[h]
   ·simp[h]
 have:=h es []
 simpa[iH,oE]using this
theorem bUj (es:List Ed) (le fu:Bool) (hb:es.length<=1000000):MCall prog 137 [.list le fu (es.map bP)] [] (fun r o'=>r= .mp 1000/\o'= [(1000,uI aI (oE es))]):=by
 refine dC func137 call137 rfl (by simp[ntmps137]) ?_;simp only[ntmps137,results137]
 repeat' (first|(refine aA fun _ _=>?_)|refine zHg ?_|simp(disch:=omega) [go_sem])
 refine bL [3,7,8] [6] (fun y:Nat×Gs=> [(9,nt .i64 y.1)]) (fun y:Nat×Gs=> [(6,gO rB y.2)]++cS aI 1 rB y.2) (fun y:Nat×Gs=>es.length - y.1) (fun y:Nat×Gs=>y.1<=es.length/\y.2=oE (es.take y.1)/\y.2.length<=y.1/\ ∀g∈y.2,g.2.length<=y.1) ((0,[])) (by refine Le.trans ?_ (Le.rmap 6 rfl);exact(Le.sub4 rfl (by simp[go_sem,gO,cS,cZ]))) ⟨?_⟩ ?_
 ·exact⟨Nat.zero_le _,rfl,Nat.le_refl _,fun g hg=>by cases hg⟩
 intro⟨i,gs⟩ ⟨hi,hgs,hlg,hrl⟩ AA hAA;simp only[kL,Nat.reduceBEq,Nat.reduceEqDiff]
 try dsimp only at*
 by_cases hlt:i<es.length
 ·have hnx:=bUh hlt
  rw[<-hgs]at hnx
  have hnl:=aJw (k:=es[i].fr) (x:=es[i].to) (gs:=gs)
  have hnr:=aJx (k:=es[i].fr) (x:=es[i].to) hrl
  generalize hbi:es[i]=e at*
  obtain⟨fr,to,neg⟩:=e
  dsimp only at*
  have hk0: ∀L,L<1000->killO L (cS aI 1 rB gs)=cS aI 1 rB gs:=fun L _=>aBx
  have hk1: ∀L,L<1000->(cZ rB gs).map (kill1 L)=cZ rB gs:=fun L h=>aB0 (Nat.lt_trans h (by decide))
  repeat' (first|((fail_if_success (refine sD ?_));refine jQ (fun K hK=>?_))|refine zHg ?_|simp(disch:=omega) [go_sem,hlt,hbi,bP,hk0,hk1])
  rcases aJt gs fr with hno|⟨j,hj,h1,h2⟩
  ·have hg:=aJz (b:=rB) (k:=0) hno
   have hp: ∀v,fC (.string fr) v (cZ rB gs)=some (cZ rB gs++ [.tup [.sc (.string fr),v]]):=fun v=>by
    unfold fC
    rw[hg]
   have hrl:(cZ rB gs).length<=140737488355327:=by rw[B5];omega
   have t1: ∀L,L<1000->lk (cS aI 1 rB gs) L=none:=fun L h=>aBy (Nat.lt_trans h (by decide))
   have t3: ∀L,L<1000->cK (cS aI 1 rB gs) L=cS aI 1 rB gs:=fun L h=>aBz (Nat.lt_trans h (by decide))
   have t7: ∀p∈cS aI 1 rB gs,p.2.pin=false:=fun p hp=>by
    obtain⟨i,hi,rfl⟩:=N4 hp
    rfl
   have t5:=N5 (en:=aI) (es:=1) (b:=rB) (gs:=gs)
   have t6: ∀i (hi:i<gs.length),lk (cS aI 1 rB gs) (rB+i)=some (mM aI 1 gs[i].2):=fun i hi=>by rw[uJ,List.getElem?_eq_getElem hi];rfl
   generalize hT:cS aI 1 rB gs=T at*
   refine qW (s0:=⟨26,[(5,.ptr 5 0 0),(9,nt .i64 i),(8,nt .i64 es.length),(7,.list le fu (es.map bP)),(3,.mp 6)],[(5,⟨false,true,false,3,[bP ⟨fr,to,neg⟩],0⟩)]++(6,gO rB gs)::T⟩) ?_ ?_
   ·refine Le.trans ?_ (Le.frzP 5 rfl (by intro h;cases h))
    refine Le.rowsSub0 (en:=aI) (es:=1) rfl (fun i hi=>?_) (by rw[hT];exact fun p h=>h) t5 ?_ ?_ ?_ ?_
    ·have e1: ¬5=rB+i:=by simp only[rB];omega
     have e2: ¬6=rB+i:=by simp only[rB];omega
     simp[go_sem,e1,e2,t6 i hi,N3]
    all_goals simp[go_sem,bP]
   simp only[List.cons_append,List.nil_append]
   repeat' (first|(refine aA fun _ _=>?_)|refine zHg ?_|(with_reducible refine cY ?_;first|(exact cV)|(refine zSkip ?_)|(refine cW rfl ?_ ?_))|(with_reducible refine cX ?_;first|(refine zDone ?_)|(refine zQu 0 rfl rfl rfl rfl ?_)|(refine zQu 1 rfl rfl rfl rfl ?_)|(refine zQu 2 rfl rfl rfl rfl ?_)|(refine zQu 3 rfl rfl rfl rfl ?_)|(refine zQu 4 rfl rfl rfl rfl ?_)|(refine zQu 5 rfl rfl rfl rfl ?_)|(refine zQu 7 rfl rfl rfl rfl ?_)|(refine zQu 8 rfl rfl rfl rfl ?_)|(refine zAll ?_;show cH _ _ _ _ _ _ _))|with_reducible refine dB ?_|simp(disch:=omega) [go_sem,hg,hp,hk0,hk1,t1,t3,hrl,bP,gO]|refine zAny aS ?_|fail)
   all_goals(
    refine hAA.next (i+1,dX gs fr to) ?_ (by(try dsimp only);omega) ⟨⟨hlt,hnx.symm,by(try dsimp only);omega,hnr⟩⟩
    show Le ⟨26,[(9,nt .i64 ((i+1:Nat):Int)),(8,nt .i64 es.length),(7,.list le fu (es.map bP)),(3,.mp 6)],[]++(6,gO rB (dX gs fr to))::(cS aI 1 rB (dX gs fr to)++ [])⟩ _
    refine Le.rowsNo (d:=23) hno (by decide) (by decide) (by decide) rfl rfl rfl (fun M hM=>?_) (fun p h1 h2=>?_) (by simp) (by simp) (by simp[go_sem]) (fun σ hσ=>?_) (by simp[go_sem]) (by simp)
    ·have e1: ¬6=M:=by simp only[rB]at hM;omega
     have e2: ¬23=M:=by simp only[rB]at hM;omega
     have e3: ¬22=M:=by simp only[rB]at hM;omega
     have e4: ¬5=M:=by simp only[rB]at hM;omega
     simp[lk,e1,e2,e3,e4,hT]
    ·exfalso
     have h3:p.2.pin=false:=by
      clear h2
      revert p
      repeat' (first|exact t7|(refine List.forall_mem_cons.2 ⟨rfl,?_⟩))
     rw[h3]at h2
     cases h2
    ·have h6:=hσ 6 (by decide) (by decide)
     simp[AV.ren,h6,aH6])
  ·have hg0:=aJ0 (b:=rB) (k:=0) hj h1 h2
   have hop:=bJs (en:=aI) (es:=1) (b:=rB) hj
   obtain⟨vK,hgK⟩:=aJ9 (J:=rB+j) (b:=rB) (k:=0) hj h1 h2
   have hsK:=fun v=>aKa (v:=v) (b:=rB) hj
   have hkK:=aKb (J:=rB+j) (b:=rB) (gs:=gs)
   have hp: ∀v,fC (.string fr) v ((cZ rB gs).map (kill1 (rB+j)))=some ((cZ rB gs).set j (.tup [.sc (.string fr),v])):=fun v=>by
    unfold fC
    rw[hgK,Nat.zero_add]
    simp only[hsK]
   obtain⟨t1,t2,t3,t4⟩:=bJr (en:=aI) (es:=1) (gs:=gs) (b:=rB) (J:=rB+j)
   have t6: ∀i (hi:i<gs.length),lk (cS aI 1 rB gs) (rB+i)=some (mM aI 1 gs[i].2):=fun i hi=>by rw[uJ,List.getElem?_eq_getElem hi];rfl
   have hrj:=hrl gs[j] (List.getElem_mem hj)
   have hrl:(cZ rB gs).length<=140737488355328:=by rw[B5];omega
   have hrl2: ∀v,((cZ rB gs).set j v).length<=140737488355328:=fun v=>by rw[List.length_set,B5];omega
   generalize hJ:rB+j=J at*
   have hJ1: ∀L,L<1000-> ¬L=J:=fun L h e=>by subst hJ;simp only[rB]at e;omega
   have hJ2: ∀L,L<1000-> ¬J=L:=fun L h e=>hJ1 L h e.symm
   have t1': ∀L,L<1000->lk (cK (cS aI 1 rB gs) J) L=none:=fun L h=>t1 L (Nat.lt_trans h (by decide))
   have t3': ∀L,L<1000->cK (cK (cS aI 1 rB gs) J) L=cK (cS aI 1 rB gs) J:=fun L h=>t3 L (Nat.lt_trans h (by decide))
   refine qW (s0:=⟨26,[(5,.ptr 5 0 0),(9,nt .i64 i),(8,nt .i64 es.length),(7,.list le fu (es.map bP)),(3,.mp 6)],[(5,⟨false,true,false,3,[bP ⟨fr,to,neg⟩],0⟩)]++(6,gO rB gs)::(J,mM aI 1 gs[j].2)::cK (cS aI 1 rB gs) J⟩) ?_ ?_
   ·refine Le.trans ?_ (Le.frzP 5 rfl (by intro h;cases h))
    refine Le.rowsSub0 (en:=aI) (es:=1) rfl (fun i hi=>?_) hop.1 hop.2 ?_ ?_ ?_ ?_
    ·have e1: ¬5=rB+i:=by simp only[rB];omega
     have e2: ¬6=rB+i:=by simp only[rB];omega
     simp[go_sem,e1,e2,t6 i hi,N3]
    all_goals simp[go_sem,bP]
   generalize hr:gs[j].2=r at*
   generalize hT:cK (cS aI 1 rB gs) J=T at*
   simp only[List.cons_append,List.nil_append]
   repeat' (first|(refine aA fun _ _=>?_)|refine zHg ?_|(with_reducible refine cY ?_;first|(exact cV)|(refine zSkip ?_)|(refine cW rfl ?_ ?_))|(with_reducible refine cX ?_;first|(refine zDone ?_)|(refine zQu 0 rfl rfl rfl rfl ?_)|(refine zQu 1 rfl rfl rfl rfl ?_)|(refine zQu 2 rfl rfl rfl rfl ?_)|(refine zQu 3 rfl rfl rfl rfl ?_)|(refine zQu 4 rfl rfl rfl rfl ?_)|(refine zQu 5 rfl rfl rfl rfl ?_)|(refine zQu 7 rfl rfl rfl rfl ?_)|(refine zQu 8 rfl rfl rfl rfl ?_)|(refine zAll ?_;show cH _ _ _ _ _ _ _))|with_reducible refine dB ?_|simp(disch:=omega) [go_sem,hg0,hp,hJ1,hJ2,hk1,hkK,t2,t4,hrl,hrl2,t1',t3',bP,gO,mM,Nat.zero_add]|refine zAo ?_|refine zAny aS ?_|fail)
   all_goals(
    refine hAA.next (i+1,dX gs fr to) ?_ (by(try dsimp only);omega) ⟨⟨hlt,hnx.symm,by(try dsimp only);omega,hnr⟩⟩
    show Le ⟨26,[(9,nt .i64 ((i+1:Nat):Int)),(8,nt .i64 es.length),(7,.list le fu (es.map bP)),(3,.mp 6)],[]++(6,gO rB (dX gs fr to))::(cS aI 1 rB (dX gs fr to)++ [])⟩ _
    refine Le.rowsYes hj h1 h2 (by rw[hJ,hr]) rfl (by rw[hr]) (by rw[hJ];simp[lk,hJ1,aI]) (fun M hM hM2=>?_) (by simp) (by simp[go_sem]) (by simp[go_sem]) (by simp)
    rw[hJ]at hM2 ⊢
    rw[hT]
    have e0: ¬J=M:=fun e=>hM2 e.symm
    have e1: ¬6=M:=by simp only[rB]at hM;omega
    have e2: ¬23=M:=by simp only[rB]at hM;omega
    have e3: ¬22=M:=by simp only[rB]at hM;omega
    have e4: ¬5=M:=by simp only[rB]at hM;omega
    simp[lk,e0,e1,e2,e3,e4])
 ·obtain rfl:i=es.length:=by omega
  rw[List.take_length]at hgs
  subst hgs
  have t6: ∀i (hi:i<(oE es).length),lk (cS aI 1 rB (oE es)) (rB+i)=some (mM aI 1 (oE es)[i].2):=fun i hi=>by rw[uJ,List.getElem?_eq_getElem hi];rfl
  repeat' (first|(refine aA fun _ _=>?_)|refine zHg ?_|simp(disch:=omega) [go_sem])
  refine cJ ⟨26,[(2,.mp 1000)],[(1000,uI aI (oE es))]⟩ [.mp 1000] ?_ (by simp[go_sem]) ⟨rfl,rfl⟩
  refine Le.trans (b:=⟨26,[(2,.mp 6)],[(6,uI aI (oE es))]⟩) (Le.renSub [(6,1000),(1000,6)] [(1000,6),(6,1000)] (by simp[go_sem]) (by simp[go_sem]) (Le.sub4 rfl (by simp[go_sem]))) ?_
  refine Le.rowsEnd (en:=aI) (es:=1) (b:=rB) (A:= []) (by decide) rfl (fun i hi=>?_) (by simp) (by simp[go_sem]) (by simp[go_sem]) (by simp)
  have e1: ¬6=rB+i:=by simp only[rB];omega
  simp[lk,e1,t6 i hi]
theorem aPt (p:List ByteArray) (le fu:Bool) (hb:p.length<=1000000):ACall prog 168 [.list le fu (p.map aI)] (fun r=>r= .own 1 (p.map aI)):=by
 cases p with
 |nil=>
  refine ACall.own_nil ?_
  simp only[List.map_nil]
  refine aQ func168 call168 rfl (by simp[ntmps168]) ?_;simp only[ntmps168,results168]
  repeat' (first|(refine aA fun _ _=>?_)|refine zHg ?_|(refine aM [] ?_;simp[go_sem])|simp(disch:=omega) [go_sem]|(refine nbI fun bq=>?_)|(refine zqs ?_ ?_<;>(intro h;((try simp only[h]);(try simp at h)))))
 |cons x l=>
  simp only[List.map_cons,List.length_cons]at*
  refine aQ func168 call168 rfl (by simp[ntmps168]) ?_;simp only[ntmps168,results168]
  repeat' (first|(refine aA fun _ _=>?_)|refine zHg ?_|(refine aM [] ?_;simp[go_sem,aI])|simp(disch:=omega) [go_sem,aI]|refine zAo ?_|fail)
  try any_goals omega
theorem aPu {α:Type} (S:List α):S= []\/ ∃(S':List α) (x:α),S=S'++ [x]:=by
 rcases List.eq_nil_or_concat S with h|⟨L,b,h⟩
 ·exact .inl h
 ·exact .inr ⟨L,b,by rw[h,List.concat_eq_append]⟩
abbrev pG (gs:Gs):AObj:=⟨true,false,true,0,gs.map (lR aI),1⟩
theorem bUk (es:List Ed) (gs:Gs) (s:ByteArray) (hb:es.length<=1000000) (hg: ∀x,iH gs x=jU es x):MCall prog 136 [.mp 1000,.sc (.string s)] [(1000,pG gs)]
 (fun r o'=> ∃R:List ByteArray,(R.Nodup/\(R.length<=es.length/\ ∀x,x∈R↔Rch es s x))/\r= .mp 1001/\o'= [(1000,pG gs),(1001,eI R)]):=by
 have hcl:=aPt (jU es s) false false (Nat.le_trans (E5 es s) hb)
 have hc0:=aPt [] false true (Nat.zero_le _)
 have hst:=bOm es s
 have hs1:(jU es s).length<=1000000:=Nat.le_trans (E5 es s) hb
 rw[List.map_nil]at hc0
 have hge:=aBw (en:=aI) gs s
 rw[hg]at hge
 generalize jU es s=N at*
 refine dC func136 call136 rfl (by simp[ntmps136]) ?_;simp only[ntmps136,results136]
 have hge:(∃j v,cI (.string s) (gs.map (lR aI)) 0=some (some (j,v))/\v= .list false false (N.map aI)/\True)\/(cI (.string s) (gs.map (lR aI)) 0=some none/\N= []):=by
  rcases hge with h|⟨j,h⟩
  ·exact .inr h
  ·exact .inl ⟨j,_,h,rfl,trivial⟩
 rcases hge with⟨j,v,h1,rfl,hN⟩|⟨h1,hN⟩
 all_goals repeat' (first|(refine aA fun _ _=>?_)|refine zHg ?_|refine aH rfl (hcl) (by simp) ?_|refine aH rfl (hc0) (by simp) ?_|simp(disch:=omega) [go_sem,pG,h1])
 all_goals refine bL [0,5] [8,12] (fun y:List ByteArray×List ByteArray×List ByteArray=> [(6,.ref 12 0 y.2.1.length)]) (fun y:List ByteArray×List ByteArray×List ByteArray=> [(8,eI y.1),(12,⟨true,false,false,1,(y.2.1++y.2.2).map aI,0⟩)]) (fun y:List ByteArray×List ByteArray×List ByteArray=>wR es y.1 y.2.1) (fun y:List ByteArray×List ByteArray×List ByteArray=>sW es s y.1 y.2.1/\y.2.1.length<=(y.1.length+1)*1000000) (([],N,[])) (Le.sub4 rfl (by simp[go_sem,eI,hN,List.map_nil,List.append_nil,List.length_nil])) ⟨?_⟩ ?_
 all_goals(first|exact⟨hst,by(try dsimp only);simp;omega⟩|skip)
 all_goals intro⟨R,S,J⟩ ⟨hi,hl⟩ AA hAA;simp only[kL,Nat.reduceBEq,Nat.reduceEqDiff]
 all_goals(try dsimp only at*)
 all_goals(clear hcl hc0 hst hs1 h1 hN)
 ·rcases aPu S with rfl|⟨S',x,rfl⟩
  ·have hdn:=aM1 hi
   have hln:=E6 hi
   repeat' (first|(refine aA fun _ _=>?_)|refine zHg ?_|simp(disch:=omega) [go_sem,eI])
   refine cJ ⟨39,[(4,.mp 1001)],[(1000,pG gs),(1001,eI R)]⟩ [.mp 1001] (Le.renSub [(8,1001),(1001,8)] [(1001,8),(8,1001)] (by simp[go_sem,eI]) (by simp[go_sem,eI]) (Le.sub4 rfl (by simp[go_sem,eI]))) (by simp[go_sem,eI]) ⟨R,⟨hi.1,hln,hdn⟩,rfl,rfl⟩
  ·have hlnR:=E6 hi
   have hSl:(S'++ [x]).length=S'.length+1:=by simp
   rw[hSl]at hl ⊢
   have hW0:((S'++ [x])++J).map aI=S'.map aI++aI x::J.map aI:=by simp
   have hW1: ∀h:S'.length<(S'.map aI++aI x::J.map aI).length,(S'.map aI++aI x::J.map aI)[S'.length]= .sc (.string x):=fun h=>by
    rw[List.getElem_append_right (by simp)];simp[aI]
   have hW2:cA (S'.map aI++aI x::J.map aI) 0 S'.length=S'.map aI:=by
    rw[aA8]
    split
    ·rename_i h
     have h2:=h.2
     simp at h2
    ·simp
   have hW3:(S'.map aI++aI x::J.map aI).length=S'.length+(J.length+1):=by simp
   rw[hW0]
   generalize hW:S'.map aI++aI x::J.map aI=W at*
   have hW':S'.map aI++AV.sc (.string x)::J.map aI=W:=hW
   have hRl:R.length<=140737488355327:=by omega
   by_cases hx:x∈R
   ·obtain⟨j,hj,h1,h2⟩:=(F9 R x).resolve_left fun h=>h hx
    have hk:=G1 (i:=0) hj h1 h2
    have hin:=aMz hi hx
    have hms:=aM2 es R S' x
    repeat' (first|(refine aA fun _ _=>?_)|refine zHg ?_|refine(hAA.next (R,S',x::J) (Le.sub4 rfl (by simp[go_sem,eI,hW',aI])) hms ?_)|simp(disch:=omega) [go_sem,eI,hW1,hW2,hW3,hk,aI]|refine zAo ?_|fail)
    exact⟨hin,by(try dsimp only);omega⟩
   ·have hk:=G0 (i:=0) hx
    have hp:=T1 R x
    have hadd:nC R x=R++ [x]:=by unfold nC;rw[wQ.2 hx];rfl
    rw[hadd]at hp
    have hin:=aM0 hi hx
    have hms:=aM3 hin
    have hnl:=E5 es x
    have hge:=aBw (en:=aI) gs x
    rw[hg]at hge
    generalize jU es x=N at*
    rcases hge with⟨h1,rfl⟩|⟨j,h1⟩
    all_goals repeat' (first|(refine aA fun _ _=>?_)|refine zHg ?_|refine(hAA.next (R++ [x],S'++_,[]) (Le.sub4 rfl (by simp[go_sem,eI,hW',aI])) hms ?_)|simp(disch:=omega) [go_sem,eI,hW1,hW2,hW3,hRl,hk,hp,h1,aI]|refine zAo ?_|fail)
    try any_goals omega
    all_goals exact⟨hin,by(try simp);omega⟩
 ·rcases aPu S with rfl|⟨S',x,rfl⟩
  ·have hdn:=aM1 hi
   have hln:=E6 hi
   repeat' (first|(refine aA fun _ _=>?_)|refine zHg ?_|simp(disch:=omega) [go_sem,eI])
   refine cJ ⟨39,[(4,.mp 1001)],[(1000,pG gs),(1001,eI R)]⟩ [.mp 1001] (Le.renSub [(8,1001),(1001,8)] [(1001,8),(8,1001)] (by simp[go_sem,eI]) (by simp[go_sem,eI]) (Le.sub4 rfl (by simp[go_sem,eI]))) (by simp[go_sem,eI]) ⟨R,⟨hi.1,hln,hdn⟩,rfl,rfl⟩
  ·have hlnR:=E6 hi
   have hSl:(S'++ [x]).length=S'.length+1:=by simp
   rw[hSl]at hl ⊢
   have hW0:((S'++ [x])++J).map aI=S'.map aI++aI x::J.map aI:=by simp
   have hW1: ∀h:S'.length<(S'.map aI++aI x::J.map aI).length,(S'.map aI++aI x::J.map aI)[S'.length]= .sc (.string x):=fun h=>by
    rw[List.getElem_append_right (by simp)];simp[aI]
   have hW2:cA (S'.map aI++aI x::J.map aI) 0 S'.length=S'.map aI:=by
    rw[aA8]
    split
    ·rename_i h
     have h2:=h.2
     simp at h2
    ·simp
   have hW3:(S'.map aI++aI x::J.map aI).length=S'.length+(J.length+1):=by simp
   rw[hW0]
   generalize hW:S'.map aI++aI x::J.map aI=W at*
   have hW':S'.map aI++AV.sc (.string x)::J.map aI=W:=hW
   have hRl:R.length<=140737488355327:=by omega
   by_cases hx:x∈R
   ·obtain⟨j,hj,h1,h2⟩:=(F9 R x).resolve_left fun h=>h hx
    have hk:=G1 (i:=0) hj h1 h2
    have hin:=aMz hi hx
    have hms:=aM2 es R S' x
    repeat' (first|(refine aA fun _ _=>?_)|refine zHg ?_|refine(hAA.next (R,S',x::J) (Le.sub4 rfl (by simp[go_sem,eI,hW',aI])) hms ?_)|simp(disch:=omega) [go_sem,eI,hW1,hW2,hW3,hk,aI]|refine zAo ?_|fail)
    exact⟨hin,by(try dsimp only);omega⟩
   ·have hk:=G0 (i:=0) hx
    have hp:=T1 R x
    have hadd:nC R x=R++ [x]:=by unfold nC;rw[wQ.2 hx];rfl
    rw[hadd]at hp
    have hin:=aM0 hi hx
    have hms:=aM3 hin
    have hnl:=E5 es x
    have hge:=aBw (en:=aI) gs x
    rw[hg]at hge
    generalize jU es x=N at*
    rcases hge with⟨h1,rfl⟩|⟨j,h1⟩
    all_goals repeat' (first|(refine aA fun _ _=>?_)|refine zHg ?_|refine(hAA.next (R++ [x],S'++_,[]) (Le.sub4 rfl (by simp[go_sem,eI,hW',aI])) hms ?_)|simp(disch:=omega) [go_sem,eI,hW1,hW2,hW3,hRl,hk,hp,h1,aI]|refine zAo ?_|fail)
    try any_goals omega
    all_goals exact⟨hin,by(try simp);omega⟩
theorem bUl:T2:=by
 intro es s le fu hb
 have hf:=bUj es le fu hb
 have hr:=fun s=>bUk es (oE es) s hb (bUi es)
 have hasc:=fun ks h1 h2=>aO8 ks (fun _=> .bool true) h1 h2
 refine aQ func93 call93 rfl (by simp[ntmps93]) ?_;simp only[ntmps93,results93]
 repeat' (first|(refine aA fun _ _=>?_)|refine zHg ?_|simp(disch:=omega) [go_sem])
 refine aX [] [] 10000 _ _ (Fits.mk' (by simp[go_sem,lR]) (by simp[go_sem,lR])) (by simp[go_sem,lR]) (by simp[go_sem,lR]) (hf) (by simp[go_sem,lR]) (by simp[go_sem,lR]) ?_
 repeat' (first|(refine aA fun _ _=>?_)|refine zHg ?_|simp(disch:=omega) [go_sem])
 refine vW [(1000,11000)] [(11000,1000)] 20000 _ _ (Fits.mk' (by simp[go_sem,pG]) (by simp[go_sem,pG])) (by simp[go_sem,pG]) (by simp[go_sem,pG]) (hr s) (by simp[go_sem,pG]) (by intros;simp[go_sem,pG]) ?_;intro R hR
 obtain⟨hn,hl,hm⟩:=hR
 have ha:=hasc R (by omega) hn
 have e:fM cT R=kI es s:=yK rH fun x=>(hm x).trans bOh.symm
 rw[e]at ha
 generalize kI es s=Z at*
 repeat' (first|(refine aA fun _ _=>?_)|refine zHg ?_|simp(disch:=omega) [go_sem,pG,eI])
 refine aX [(1000,21001)] [(21001,1000)] 30000 _ _ (Fits.mk' (by simp[go_sem,dN]) (by simp[go_sem,dN])) (by simp[go_sem,dN]) (by simp[go_sem,dN]) (ha) (by simp[go_sem,dN]) (by simp[go_sem,dN]) ?_
 repeat' (first|(refine aA fun _ _=>?_)|refine zHg ?_|(refine aM [] ?_;simp[go_sem])|simp(disch:=omega) [go_sem])
theorem bUm [KwG] (l:List Rl) (le fu:Bool) (hb: ∀r∈l,r.body.length<=1000000) (hh: ∀r∈l,r.head.size<=100) (hz: ∀r∈l,∀b∈r.body,b.atom.size<=100):
 ACall prog 20 [.list le fu (l.map bH)] (fun v=>v= .tup [nt .i64 (gS l).1,nt .i64 (gS l).2]):=bUf bUl bUg l le fu hb hh hz
open Go.RowKit
set_option maxHeartbeats 16000000
theorem G6 [KwG] (l:List Rl) (le fu:Bool) (h: ∀r∈l,SzA r):ACall prog 20 [.list le fu (l.map bH)] (fun v=>v= .tup [nt .i64 (gS l).1,nt .i64 (gS l).2]):=
 bUm l le fu (fun r hr=>(h r hr).body) (fun r hr=>(h r hr).head) (fun r hr=>(h r hr).atom)
theorem bUn [KwG] (l:List Rl) (hz: ∀r∈l,SzM r) (hl:l.length<=99) (m:Mu) (hm:m∈eF l):ACall prog 41 [cR m,.iptr true [.list false false (l.map bH)] 0 0] (fun r=>r=bl (!tC l m)):=by
 have hap:=aOl (S0 l false false m hz hl) hm
 have hc:=G6 (kK l m) true false (aOq hz)
 have hlenT:True:=trivial
 unfold tC
 generalize gS (kK l m)=V at*
 generalize kK l m=D at*
 obtain⟨v1,v2⟩:=V
 dsimp only at*
 by_cases h0:v2=0
 ·rw[decide_eq_true h0,Bool.not_true]
  refine aQ func41 call41 rfl (by simp[ntmps41]) ?_;simp only[ntmps41,results41]
  repeat' (first|(refine aA fun _ _=>?_)|refine zHg ?_|(refine aM [] ?_;simp[go_sem,hlenT,h0])|refine aH rfl (hap) (by simp) ?_|(refine aH ?hl (hc) (by simp) ?_;(case hl=>(simp[go_sem,hlenT,h0];done)))|simp(disch:=omega) [go_sem,hlenT,h0])
 ·rw[decide_eq_false h0,Bool.not_false]
  refine aQ func41 call41 rfl (by simp[ntmps41]) ?_;simp only[ntmps41,results41]
  repeat' (first|(refine aA fun _ _=>?_)|refine zHg ?_|(refine aM [] ?_;simp[go_sem,hlenT,h0])|refine aH rfl (hap) (by simp) ?_|(refine aH ?hl (hc) (by simp) ?_;(case hl=>(simp[go_sem,hlenT,h0];done)))|simp(disch:=omega) [go_sem,hlenT,h0])
noncomputable def pH (l:List Rl):List Mu:=eG (fun m=> !tC l m) (eF l) (eF l).length
theorem aPv {l:List Rl} (hz: ∀r∈l,SzM r) (hl:l.length<=99):(eF l).length<=1000000000:=by
 have:=aD6 (C:=fO l) hz (aD1 hz (by omega)) l.length (Nat.le_refl _)
 have e:(eF l).length=(mZ (fO l) l l.length).length:=rfl
 omega
noncomputable def tJ (l:List Rl):List Mu:=pH l++List.replicate ((eF l).length - (pH l).length) wW
theorem bUo [KwG] (l:List Rl) (hz: ∀r∈l,SzM r) (hl:l.length<=99) (h0:(gS l).2=0):MCall prog 19 [.list false false (l.map bH)] [] (fun v o'=>v= .tup [.ref 900 0 (pH l).length,nt .i64 0]/\o'= [(900,⟨true,false,false,3,(tJ l).map cR,0⟩)]):=by
 have hc:=G6 l false false fun r hr=>F8 (hz r hr)
 have hal:=aD7 l false false hz hl
 have hdl:=bSh l (eF l) (fun m=> !tC l m) (aPv hz hl) fun m hm=>bUn l hz hl m hm
 rw[h0]at hc
 generalize(gS l).1=v1 at*
 have hvl:eG (fun m=> !tC l m) (eF l) (eF l).length=pH l:=rfl
 rw[hvl]at hdl
 have hvz:pH l++List.replicate ((eF l).length - (pH l).length) wW=tJ l:=rfl
 have hle:(pH l).length<=(eF l).length:=S2
 have hll:(tJ l).length=(eF l).length:=by rw[<-hvz,List.length_append,List.length_replicate];omega
 unfold uU at hdl
 rw[hvz]at hdl
 generalize tJ l=Z at*
 generalize pH l=B at*
 generalize eF l=A at*
 clear hvl hvz
 refine dC func19 call19 rfl (by simp[ntmps19]) ?_;simp only[ntmps19,results19]
 repeat' (first|(refine aA fun _ _=>?_)|refine zHg ?_|refine aH rfl (hc) (by simp) ?_|refine aH rfl (hal) (by simp) ?_|simp(disch:=omega) [go_sem])
 refine aX [(1000,1),(1001,15)] [(1,1000),(15,1001)] 10000 _ _ (Fits.mk' (by simp[go_sem,eS,eM]) (by simp[go_sem,eS,eM])) (by simp[go_sem,eS,eM]) (by simp[go_sem,eS,eM]) (hdl) (by simp[go_sem,eS,eM]) (by simp[go_sem,eS,eM]) ?_
 repeat' (first|(refine aA fun _ _=>?_)|refine zHg ?_|simp(disch:=omega) [go_sem,eS,eM,hle,hll])
 refine cJ ⟨18,[(2,.ref 900 0 B.length),(3,nt .i64 0)],[(900,⟨true,false,false,3,Z.map cR,0⟩)]⟩ [.ref 900 0 B.length,nt .i64 0] (Le.renSub [(15,900)] [(900,15)] (by simp[go_sem,eS,eM]) (by simp[go_sem,eS,eM]) (Le.sub4 rfl (by simp[go_sem,eS,eM]))) (by simp[go_sem,eS,eM]) ⟨rfl,rfl⟩
theorem bUp [KwG] (l:List Rl) (hz: ∀r∈l,SzM r) (h0: ¬(gS l).2=0):ACall prog 19 [.list false false (l.map bH)] (fun v=>v= .tup [.list false true [],nt .i64 (gS l).2]):=by
 have hc:=G6 l false false fun r hr=>F8 (hz r hr)
 generalize(gS l).1=v1 at*
 generalize(gS l).2=v2 at*
 refine aQ func19 call19 rfl (by simp[ntmps19]) ?_;simp only[ntmps19,results19]
 repeat' (first|(refine aA fun _ _=>?_)|refine zHg ?_|(refine aM [] ?_;simp[go_sem,h0])|refine aH rfl (hc) (by simp) ?_|simp(disch:=omega) [go_sem,h0])
theorem bUx [PhG] [KwG] (l:List Rl) (h:(∀r∈l,Q2 r)/\l.length<=dD):ACall prog 5 [.list false false (l.map bH)] (fun r=>r=bl true):=by
 have haw:=bR7
 have hlenT:True:=trivial
 have hs:=bR9 l 12 (by decide) h
 cases hq:sO 12 l
 ·rw[hq]at hs
  refine aQ func5 call5 rfl (by simp[ntmps5]) ?_;simp only[ntmps5,results5]
  repeat' (first|(refine aA fun _ _=>?_)|refine zHg ?_|(refine aM [] ?_;simp[go_sem])|refine aH rfl (hs) (by simp) ?_|refine aH rfl (haw) (by simp) ?_|simp(disch:=omega) [go_sem])
 ·rw[hq]at hs
  obtain⟨hz,hl⟩:=bR8 hq
  have hc:=G6 l false false fun r hr=>F8 (hz r hr)
  by_cases h0:(gS l).2=0
  ·have hv:=bUo l hz (by omega) h0
   rw[h0]at hc
   have hal:=(aD7 l false false hz (by omega)).frz
   have hlen:=aPv hz (by omega)
   have hap: ∀m∈eF l,ACall prog 14 [.list false false (l.map bH),cR m] (fun v=>v= .tup [.own 3 ((kK l m).map bH),nt .i64 0]):=fun m hm=>aOl (S0 l false false m hz (by omega)) hm
   have hcr: ∀m,ACall prog 20 [.list true false ((kK l m).map bH)] (fun v=>v= .tup [nt .i64 (gS (kK l m)).1,nt .i64 (gS (kK l m)).2]):=fun m=>G6 (kK l m) true false (aOq hz)
   have hkp: ∀m,(!tC l m)=decide (¬(gS (kK l m)).2=0):=fun m=>by unfold tC;rw[decide_not]
   obtain⟨cf,hcf⟩: ∃cf:Mu->Bool,cf=fun m=> !tC l m:=⟨_,rfl⟩
   have hvl:pH l=eG cf (eF l) (eF l).length:=by rw[hcf];rfl
   have hZl:(tJ l).length=(eF l).length:=by
    have:(pH l).length<=(eF l).length:=S2
    unfold tJ
    rw[List.length_append,List.length_replicate];omega
   have hZX: ∀k,k<(pH l).length->(tJ l)[k]?=(pH l)[k]?:=fun k hk=>by unfold tJ;rw[List.getElem?_append_left hk]
   rw[hvl]at hv hZX
   generalize tJ l=Z at*
   have hnx:=fun i (hi:i<(eF l).length)=>aEa (cf:=cf) hi
   have hmo:=fun i (hi:i<(eF l).length)=>bSc (cf:=cf) hi
   have hle:=fun i=>S2 (cf:=cf) (A:=eF l) (i:=i)
   have hz0:eG cf (eF l) 0= []:=rfl
   generalize(gS l).1=v1 at*
   have hcf: ∀m,cf m= !tC l m:=fun m=>by rw[hcf]
   generalize eF l=A at*
   generalize hX:eG cf A A.length=X at*
   have hXl:X.length<=A.length:=by rw[<-hX];exact hle A.length
   refine aQ func5 call5 rfl (by simp[ntmps5]) ?_;simp only[ntmps5,results5]
   repeat' (first|(refine aA fun _ _=>?_)|refine zHg ?_|refine aH rfl (hs) (by simp) ?_|simp(disch:=omega) [go_sem,hlenT])
   refine aX [] [] 10000 _ _ (Fits.mk' (by simp[go_sem]) (by simp[go_sem])) (by simp[go_sem]) (by simp[go_sem]) (hv) (by simp[go_sem]) (by simp[go_sem]) ?_
   repeat' (first|(refine aA fun _ _=>?_)|refine zHg ?_|refine aH rfl (hc) (by simp) ?_|refine aH rfl (hal) (by simp) ?_|simp(disch:=omega) [go_sem,hlenT])
   refine bL [0,3,7,42] [] (fun i:Nat=> [(43,nt .i64 i),(8,nt .i64 (eG cf A i).length)]) (fun i:Nat=> []) (fun i:Nat=>A.length - i) (fun i:Nat=>i<=A.length) (0) (Le.sub4 rfl (by simp[go_sem,hz0,List.length_nil])) ⟨?_⟩ ?_
   ·exact Nat.zero_le _
   intro i hi AA hAA;simp only[kL,Nat.reduceBEq,Nat.reduceEqDiff]
   by_cases hlt:i<A.length
   ·have hn:=hnx i hlt
    have hm:=hmo i hlt
    have hle:=hle i
    have ha:=hap A[i] (List.getElem_mem hlt)
    have hr:=hcr A[i]
    have hkq:=hkp A[i]
    rw[<-hcf]at hkq
    have hAi:A[i]=A[i]:=rfl
    generalize hx:A[i]=x at*
    generalize gS (kK l x)=V at*
    generalize kK l x=D at*
    obtain⟨w1,w2⟩:=V
    dsimp only at*
    generalize eG cf A i=B at*
    by_cases hw:w2=0
    ·rw[decide_eq_false (by omega)]at hkq
     obtain⟨hm1,hm2⟩:=hm hkq
     rw[hkq,if_neg (by decide)]at hn
     have hmZ:B.length<Z.length:=by omega
     have hXB:Z[B.length]=x:=by rw[<-hZX _ hm1,List.getElem?_eq_getElem hmZ]at hm2;exact Option.some.inj hm2
     have hnl:(eG cf A (i+1)).length=B.length+1:=by rw[hn,List.length_append];rfl
     have hge: ¬(X.length:Int)<=B.length:=by omega
     repeat' (first|(refine aA fun _ _=>?_)|refine zHg ?_|refine aH rfl (ha) (by simp) ?_|(refine aH ?hl (hr) (by simp) ?_;(case hl=>(simp[go_sem,hlenT,hlt,hx,hw,hm1,hmZ,hZl,hXB,hge,cR];done)))|(refine(hAA.next (i+1) (Le.sub4 rfl (by simp[go_sem,hnl])) (by(try dsimp only);omega) ?_))|simp(disch:=omega) [go_sem,hlenT,hlt,hx,hw,hm1,hmZ,hZl,hXB,hge,cR]|refine zDr 15 aS ?_|fail)
     try any_goals omega
     all_goals exact⟨hlt⟩
    ·rw[decide_eq_true hw]at hkq
     rw[hkq,if_pos rfl,List.append_nil]at hn
     repeat' (first|(refine aA fun _ _=>?_)|refine zHg ?_|refine aH rfl (ha) (by simp) ?_|(refine aH ?hl (hr) (by simp) ?_;(case hl=>(simp[go_sem,hlenT,hlt,hx,hw];done)))|(refine(hAA.next (i+1) (Le.sub4 rfl (by simp[go_sem,hn])) (by(try dsimp only);omega) ?_))|simp(disch:=omega) [go_sem,hlenT,hlt,hx,hw])
     try any_goals omega
     all_goals exact⟨hlt⟩
   ·obtain rfl:i=A.length:=by omega
    rw[hX]
    repeat' (first|(refine aA fun _ _=>?_)|refine zHg ?_|(refine aM [] ?_;simp[go_sem])|refine aH rfl (haw) (by simp) ?_|simp(disch:=omega) [go_sem])
  ·have hv:=bUp l hz h0
   generalize(gS l).1=v1 at*
   generalize(gS l).2=v2 at*
   refine aQ func5 call5 rfl (by simp[ntmps5]) ?_;simp only[ntmps5,results5]
   repeat' (first|(refine aA fun _ _=>?_)|refine zHg ?_|(refine aM [] ?_;simp[go_sem,h0])|refine aH rfl (hs) (by simp) ?_|refine aH rfl (hv) (by simp) ?_|refine aH rfl (hc) (by simp) ?_|refine aH rfl (haw) (by simp) ?_|simp(disch:=omega) [go_sem,h0])
section
variable {H : Type} {enc : TypeId × Value -> H} {W : World}
end
end Go.Proofs.YtbgckcdddlmiaaaGreatDoor
