import Derived.Test.YtgmibdiofkmmbaaGreatDoorS3
import Derived.Test.YtgmibdiofkmmbaaGreatDoorA12
set_option linter.all false
open Go.Proofs.Tryz
namespace Go.Proofs.YtgmibdiofkmmbaaGreatDoor
open Go.Ab
variable [Glob prog]
set_option maxRecDepth 100000
set_option maxHeartbeats 8000000
def tB (l:List ByteArray) (s:ByteArray):Int:=if l.findIdx (fun u=>decide (u=s))<l.length then l.findIdx (fun u=>decide (u=s))else -1
theorem dHq {l:List ByteArray} {s:ByteArray} {i:Nat} (h:i<l.length) (he:l[i]=s) (hn: ∀(k:Nat) (hk:k<l.length),k<i-> ¬l[k]=s):tB l s=i:=by
 have e:l.findIdx (fun u=>decide (u=s))=i:=by
  rw[List.findIdx_eq h]
  exact⟨by simp[he],fun j hj=>by simpa using hn j (by omega) hj⟩
 unfold tB
 rw[e,if_pos h]
theorem dHr {l:List ByteArray} {s:ByteArray} (hn: ∀(k:Nat) (hk:k<l.length),k<l.length-> ¬l[k]=s):tB l s= -1:=by
 unfold tB
 rw[if_neg]
 intro h
 have:=List.findIdx_getElem (w:=h)
 simp only[decide_eq_true_eq]at this
 exact hn _ h h this
theorem dHs {l:List ByteArray} {s:ByteArray}:0<=tB l s↔s∈l:=by
 unfold tB
 by_cases h:s∈l
 ·have:l.findIdx (fun u=>decide (u=s))<l.length:=by
   rw[List.findIdx_lt_length];exact⟨s,h,by simp⟩
  rw[if_pos this]
  simp[h]
 ·rw[if_neg]
  ·simp[h]
  ·rw[List.findIdx_lt_length]
   rintro⟨u,hu,he⟩
   simp only[decide_eq_true_eq]at he
   exact h (he▸hu)
theorem dHt (l:List ByteArray) (s:ByteArray) (le fu:Bool):ACall prog 151 [.list le fu (l.map aY),.sc (.string s)] (fun r=>r=nt .i64 (tB l s)):=by
 refine ACall.bound (i:=0) rfl call151 fun hb=>?_
 rw[List.length_map]at hb
 have hb:l.length<=140737488355328:=hb
 generalize hR:tB l s=R
 refine aX func151 call151 rfl (by simp[ntmps151]) ?_;simp only[ntmps151,results151]
 repeat' (first|(refine aE fun _ _=>?_)|refine zHg ?_|simp(disch:=omega) [go_sem])
 refine bZ [0,1,7] [] (fun i:Nat=> [(8,nt .i64 i)]) (fun i:Nat=> []) (fun i:Nat=>l.length - i) (fun i:Nat=>i<=l.length/\ ∀(k:Nat) (hk:k<l.length),k<i-> ¬l[k]=s) (0) (Le.sub4 rfl (by simp[go_sem])) ⟨?_⟩ ?_
 ·exact⟨Nat.zero_le _,fun k _ hk=>absurd hk (Nat.not_lt_zero _)⟩
 intro i ⟨hi,hn⟩ AA hAA;simp only[kL,Nat.reduceBEq,Nat.reduceEqDiff]
 by_cases hlt:i<l.length
 ·by_cases hq:l[i]=s
  ·have hu:=dHq hlt hq hn
   rw[hR]at hu
   subst hu
   have hq':s=l[i]:=hq.symm
   repeat' (first|(refine aE fun _ _=>?_)|refine zHg ?_|(refine aL [] ?_;simp[go_sem,hlt,aY,hq'])|simp(disch:=omega) [go_sem,hlt,aY,hq'])
  ·have hq': ¬s=l[i]:=fun h=>hq h.symm
   repeat' (first|(refine aE fun _ _=>?_)|refine zHg ?_|(refine(hAA.next (i+1) (Le.sub4 rfl (by simp[go_sem])) (by(try dsimp only);omega) ?_))|simp(disch:=omega) [go_sem,hlt,aY,hq'])
   try any_goals omega
   exact⟨hlt,fun k hk hki=>by rcases Nat.lt_or_eq_of_le (Nat.le_of_lt_succ hki)with h|rfl;exact hn k hk h;exact hq⟩
 ·obtain rfl:i=l.length:=by omega
  have hu:=dHr hn
  rw[hR]at hu
  subst hu
  repeat' (first|(refine aE fun _ _=>?_)|refine zHg ?_|(refine aL [] ?_;simp[go_sem])|simp(disch:=omega) [go_sem])
def iB (l:List ByteArray) (s:ByteArray):Bool:=l.any fun u=>decide (u=s)
theorem L6 {l:List ByteArray} {s:ByteArray}:iB l s=true↔s∈l:=by
 unfold iB
 rw[List.any_eq_true]
 constructor
 ·rintro⟨u,hu,he⟩
  simp only[decide_eq_true_eq]at he
  exact he▸hu
 ·intro h
  exact⟨s,h,by simp⟩
theorem aF5 (l:List ByteArray) (s:ByteArray) (le fu:Bool):ACall prog 115 [.list le fu (l.map aY),.sc (.string s)] (fun r=>r=bl (iB l s)):=by
 have h:=dHt l s le fu
 rw[show iB l s=decide (0<=tB l s)from by rw[Bool.eq_iff_iff,L6,decide_eq_true_eq];exact dHs.symm]
 generalize tB l s=R at*
 refine aX func115 call115 rfl (by simp[ntmps115]) ?_;simp only[ntmps115,results115]
 repeat' (first|(refine aE fun _ _=>?_)|refine zHg ?_|(refine aL [] ?_;simp[go_sem])|refine aI rfl (h) (by simp) ?_|simp(disch:=omega) [go_sem])
def yG (acc:List ByteArray) (s:ByteArray):List ByteArray:=if iA s=true/\iB acc s=false then acc++ [s]else acc
def jU (l:List Tm):List ByteArray:=(eG l).foldl yG []
def kR (acc:List ByteArray) (l:List ByteArray) (i:Nat):List ByteArray:=(l.take i).foldl yG acc
theorem aF6 {acc l}:kR acc l 0=acc:=rfl
theorem aR6 {acc l} {i:Nat} (h:i<l.length):kR acc l (i+1)=yG (kR acc l i) l[i]:=by
 unfold kR
 rw[hZ h,List.foldl_append];rfl
theorem aR7 {acc l}:kR acc l l.length=l.foldl yG acc:=by unfold kR;rw[List.take_length]
theorem dHu {l:List Tm} {i:Nat} (h:i<l.length):jU (l.take (i+1))=kR (jU (l.take i)) (nO l[i]) (nO l[i]).length:=by
 unfold jU
 rw[L5 h,List.foldl_append,aR7]
theorem dHv (acc:List ByteArray) (s:ByteArray):(yG acc s).length<=acc.length+1:=by
 unfold yG;split<;>simp
theorem Z0 {acc l:List ByteArray}: ∀i,(kR acc l i).length<=acc.length+i
 |0=>Nat.le_refl _
 |i+1=>by
  by_cases h:i<l.length
  ·rw[aR6 h]
   have:=dHv (kR acc l i) l[i]
   have:=Z0 (acc:=acc) (l:=l) i
   omega
  ·have e:kR acc l (i+1)=kR acc l i:=by unfold kR;rw[List.take_of_length_le (by omega),List.take_of_length_le (by omega)]
   rw[e]
   have:=Z0 (acc:=acc) (l:=l) i
   omega
theorem aF7 (l:List Tm):(jU l).length<=(eG l).length:=by
 have:=Z0 (acc:= []) (l:=eG l) (eG l).length
 rw[aR7]at this
 unfold jU
 simpa using this
theorem dHw:jU []= []:=rfl
theorem dHx {l:List Tm} {i:Nat} (h:i<l.length):(nO l[i]).length<=(eG l).length:=by
 have:=Y8 l (i+1)
 rw[L5 h,List.length_append]at this
 omega
theorem aF8 (l:List Tm) (le fu:Bool) (hb:(eG l).length<=1000000):ACall prog 105 [.list le fu (l.map aP)] (fun r=>r= .own 1 ((jU l).map aY)):=by
 have hge:=Y9 l
 refine ACall.own_nil ?_
 refine aX func105 call105 rfl (by simp[ntmps105]) ?_;simp only[ntmps105,results105]
 repeat' (first|(refine aE fun _ _=>?_)|refine zHg ?_|simp(disch:=omega) [go_sem])
 refine bZ [8,9] [900] (fun i:Nat=> [(10,nt .i64 i),(3,.ref 900 0 (jU (l.take i)).length)]) (fun i:Nat=> [(900,⟨true,false,false,1,(jU (l.take i)).map aY,0⟩)]) (fun i:Nat=>l.length - i) (fun i:Nat=>i<=l.length) (0) (by refine Le.trans ?_ (Le.nil (i:=3) (T:=900) (es:=1) rfl);exact(Le.sub4 rfl (by simp[go_sem,dHw,List.take_zero,List.map_nil]))) ⟨?_⟩ ?_
 ·exact Nat.zero_le _
 intro i hi AA hAA;simp only[kL,Nat.reduceBEq,Nat.reduceEqDiff]
 by_cases hlt:i<l.length
 ·have hB:=hAA
  have hlv:=dHx hlt
  have hcl:=dHp l[i] (by omega)
  have hn:=dHu hlt
  have hl0:=aF7 (l.take i)
  have hl2:=Y8 l (i+1)
  rw[L5 hlt,List.length_append]at hl2
  generalize jU (l.take i)=A at*
  generalize nO l[i]=L at*
  repeat' (first|(refine aE fun _ _=>?_)|refine zHg ?_|refine aI rfl (hcl) (by simp) ?_|simp(disch:=omega) [go_sem,hlt])
  refine bZ [8,9,10,15,16] [900,5] (fun j:Nat=> [(17,nt .i64 j),(3,.ref 900 0 (kR A L j).length)]) (fun j:Nat=> [(900,⟨true,false,false,1,(kR A L j).map aY,0⟩)]) (fun j:Nat=>L.length - j) (fun j:Nat=>j<=L.length) (0) (Le.renSub [] [] (by simp[go_sem,aF6]) (by simp[go_sem,aF6]) (Le.sub4 rfl (by simp[go_sem,aF6]))) ⟨?_⟩ ?_
  ·exact Nat.zero_le _
  intro j hj AA hAA;simp only[kL,Nat.reduceBEq,Nat.reduceEqDiff]
  by_cases hjl:j<L.length
  ·have hlenT:True:=trivial
   have h1:=W7 L[j]
   have h2:=aF5 (kR A L j) L[j] true false
   have hz:=aR6 (acc:=A) hjl
   have hfl:=Z0 (acc:=A) (l:=L) j
   unfold yG at hz
   by_cases hv:iA L[j]=true
   ·by_cases hm:iB (kR A L j) L[j]=true
    ·rw[if_neg (by simp[hm])]at hz
     rw[hv]at h1
     rw[hm]at h2
     generalize kR A L j=X at*
     repeat' (first|(refine aE fun _ _=>?_)|refine zHg ?_|refine aI rfl (h1) (by simp) ?_|(refine aI ?hl (h2) (by simp) ?_;(case hl=>(simp[go_sem,hjl,aY,hlenT];done)))|(refine(hAA.next (j+1) (Le.sub4 rfl (by simp[go_sem,hz])) (by(try dsimp only);omega) ?_))|simp(disch:=omega) [go_sem,hjl,aY,hlenT])
     try any_goals omega
     exact⟨hjl⟩
    ·have hm:=Bool.eq_false_iff.2 hm
     rw[if_pos ⟨hv,hm⟩]at hz
     rw[hv]at h1
     rw[hm]at h2
     generalize kR A L j=X at*
     repeat' (first|(refine aE fun _ _=>?_)|refine zHg ?_|refine aI rfl (h1) (by simp) ?_|(refine aI ?hl (h2) (by simp) ?_;(case hl=>(simp[go_sem,hjl,aY,hlenT];done)))|(refine(hAA.next (j+1) (Le.sub4 rfl (by simp[go_sem,hz,aY])) (by(try dsimp only);omega) ?_))|simp(disch:=omega) [go_sem,hjl,aY,hlenT]|refine zAo ?_|fail)
     try any_goals omega
     exact⟨hjl⟩
   ·rw[if_neg (by simp[hv])]at hz
    rw[show iA L[j]=false from by simpa using hv]at h1
    generalize kR A L j=X at*
    repeat' (first|(refine aE fun _ _=>?_)|refine zHg ?_|refine aI rfl (h1) (by simp) ?_|(refine(hAA.next (j+1) (Le.sub4 rfl (by simp[go_sem,hz])) (by(try dsimp only);omega) ?_))|simp(disch:=omega) [go_sem,hjl,aY,hlenT])
    try any_goals omega
    exact⟨hjl⟩
  ·obtain rfl:j=L.length:=by omega
   rw[<-hn]
   repeat' (first|(refine aE fun _ _=>?_)|refine zHg ?_|(refine(hB.next (i+1) (Le.sub4 rfl (by simp[go_sem])) (by(try dsimp only);omega) ?_))|simp(disch:=omega) [go_sem])
   try any_goals omega
   exact⟨hlt⟩
 ·obtain rfl:i=l.length:=by omega
  rw[List.take_length]
  repeat' (first|(refine aE fun _ _=>?_)|refine zHg ?_|(refine aL [] ?_;simp[go_sem])|simp(disch:=omega) [go_sem])
structure Tot {α:Type} (c:α->α->Int):Prop where
 rng: ∀a b,c a b= -1\/c a b=0\/c a b=1
 neg: ∀a b,c b a= -c a b
 tr: ∀a b d,TR (c a b) (c b d) (c a d)
 zero: ∀a b,c a b=0↔a=b
theorem Tot.two {α β γ:Type} {c:β->β->Int} {d:γ->γ->Int} (hc:Tot c) (hd:Tot d) (f:α->β) (g:α->γ) (hi: ∀x y,f x=f y->g x=g y->x=y):
 Tot (fun x y=>gC (c (f x) (f y)) (d (g x) (g y))):=
 ⟨fun a b=>cZk (hc.rng _ _) (hd.rng _ _),fun a b=>B2 (hc.neg _ _) (hd.neg _ _),fun a b e=>B0 (hc.tr _ _ _) (hd.tr _ _ _),
  fun a b=>by
   rw[aFl,hc.zero,hd.zero]
   exact⟨fun h=>hi _ _ h.1 h.2,fun h=>by rw[h];exact⟨rfl,rfl⟩⟩⟩
section
variable {α : Type} {c : α -> α -> Int}
theorem Tot.self (h:Tot c) (a:α):c a a=0:=(h.zero a a).2 rfl
theorem Tot.lt_le (h:Tot c) {a b d:α} (h1:c a b<0) (h2:c b d<=0):c a d<0:=by
 obtain⟨p,q⟩:=h.tr a b d (by omega) h2
 rcases Int.lt_or_eq_of_le p with p|p
 ·exact p
 ·have:=(q p).1;omega
def tC (c:α->α->Int) (l:List α):Prop:=l.Pairwise fun a b=>c a b<0
theorem aF9 (h:Tot c): ∀{a b:List α},tC c a->tC c b->(∀t,t∈a↔t∈b)->a=b
 | [],[],_,_,_=>rfl
 | [],y::q,_,_,hm=>absurd ((hm y).2 (by simp)) (by simp)
 |x::r,[],_,_,hm=>absurd ((hm x).1 (by simp)) (by simp)
 |x::r,y::q,ha,hb,hm=>by
  obtain⟨a1,a2⟩:=List.pairwise_cons.1 ha
  obtain⟨b1,b2⟩:=List.pairwise_cons.1 hb
  have e:x=y:=by
   rcases List.mem_cons.1 ((hm x).1 (by simp))with e|hx
   ·exact e
   ·rcases List.mem_cons.1 ((hm y).2 (by simp))with e|hy
    ·exact e.symm
    ·have u:=a1 y hy
     have v:=b1 x hx
     rw[h.neg x y]at v
     omega
  subst e
  congr 1
  refine aF9 h a2 b2 fun t=>⟨fun ht=>?_,fun ht=>?_⟩
  ·rcases List.mem_cons.1 ((hm t).1 (by simp[ht]))with rfl|k
   ·have:=a1 t ht;rw[h.self]at this;omega
   ·exact k
  ·rcases List.mem_cons.1 ((hm t).2 (by simp[ht]))with rfl|k
   ·have:=b1 t ht;rw[h.self]at this;omega
   ·exact k
def oG (c:α->α->Int) (t:α):List α->List α
 | []=> [t]
 |x::r=>if c x t<0 then x::oG c t r else if c x t=0 then x::r else t::x::r
def gX (c:α->α->Int) (l:List α):List α:=l.foldl (fun o t=>oG c t o) []
theorem aGa (h:Tot c) {t x:α}: ∀{o:List α},x∈oG c t o↔x=t\/x∈o
 | []=>by simp[oG]
 |y::r=>by
  rw[oG]
  split
  ·rw[List.mem_cons,aGa h,List.mem_cons]
   constructor
   ·rintro(e|e|e)<;>simp[e]
   ·rintro(e|e|e)<;>simp[e]
  ·split
   ·rename_i h0
    have:=(h.zero _ _).1 h0
    subst this
    simp
   ·simp
theorem aR8 (h:Tot c) {t:α}: ∀{o:List α},tC c o->tC c (oG c t o)
 | [],_=>List.pairwise_singleton _ _
 |y::r,ho=>by
  obtain⟨a1,a2⟩:=List.pairwise_cons.1 ho
  rw[oG]
  split
  ·rename_i hlt
   refine List.pairwise_cons.2 ⟨fun x hx=>?_,aR8 h a2⟩
   rcases(aGa h).1 hx with rfl|hx
   ·exact hlt
   ·exact a1 x hx
  ·split
   ·exact ho
   ·rename_i h1 h2
    have hty:c t y<0:=by rw[h.neg y t];omega
    refine List.pairwise_cons.2 ⟨fun x hx=>?_,ho⟩
    rcases List.mem_cons.1 hx with rfl|hx
    ·exact hty
    ·exact h.lt_le hty (Int.le_of_lt (a1 x hx))
theorem aGb (h:Tot c): ∀(l o:List α),tC c o->tC c (l.foldl (fun o t=>oG c t o) o)/\ ∀x,x∈l.foldl (fun o t=>oG c t o) o↔x∈l\/x∈o
 | [],o,ho=>⟨ho,fun x=>by simp⟩
 |t::r,o,ho=>by
  obtain⟨h1,h2⟩:=aGb h r (oG c t o) (aR8 h ho)
  refine⟨h1,fun x=>?_⟩
  rw[List.foldl_cons,h2 x,aGa h,List.mem_cons]
  constructor
  ·rintro(e|e|e)<;>simp[e]
  ·rintro((e|e)|e)<;>simp[e]
theorem aGc (h:Tot c) (l:List α):tC c (gX c l):=(aGb h l [] List.Pairwise.nil).1
theorem L7 (h:Tot c) (l:List α) (x:α):x∈gX c l↔x∈l:=by
 unfold gX
 rw[(aGb h l [] List.Pairwise.nil).2 x]
 simp
theorem B7 (h:Tot c) {a b:List α} (hm: ∀x,x∈a↔x∈b):gX c a=gX c b:=
 aF9 h (aGc h a) (aGc h b) fun x=>by rw[L7 h,L7 h,hm x]
theorem aR9 (h:Tot c) {a:List α} (ha:tC c a):gX c a=a:=
 aF9 h (aGc h a) ha (L7 h a)
theorem aSa {t:α}: ∀{o:List α},(oG c t o).length<=o.length+1
 | []=>Nat.le_refl _
 |y::r=>by
  rw[oG]
  have:=aSa (t:=t) (o:=r)
  split
  ·simp;omega
  ·split<;>simp
theorem aSb: ∀(l:List α),(gX c l).length<=l.length:=by
 have key: ∀(l o:List α),(l.foldl (fun o t=>oG c t o) o).length<=l.length+o.length:=by
  intro l
  induction l with
  |nil=>intro o;simp
  |cons t r ih=>
   intro o
   have h1:=ih (oG c t o)
   have h2:=aSa (c:=c) (t:=t) (o:=o)
   simp only[List.foldl_cons,List.length_cons]
   omega
 intro l
 have:=key l []
 simpa[gX]using this
end
open Go.Ab
set_option maxRecDepth 100000
def nb (b:Bool):Int:=if b=true then 1 else 0
theorem dHy:Tot (fun a b:Bool=>cR (nb a) (nb b)):=
 ⟨fun a b=>cZj _ _,fun a b=>X5 _ _,fun a b d=>X6 _ _ _,fun a b=>by rw[wL];cases a<;>cases b<;>decide⟩
def dO (r:Rl):List Tm:=r.head::r.body.map Lt.atom
def dHz (r:Rl):List ByteArray:=jU (dO r)
mutual
def aBz (f:ByteArray->ByteArray):Tm->Tm
 | .mk n ts=>if ts.length=0 then .mk (if iA n=true then f n else n) []else .mk n (renL f ts)
def renL (f:ByteArray->ByteArray):List Tm->List Tm
 | []=> []
 |t::r=>aBz f t::renL f r
end
theorem vS {f:ByteArray->ByteArray}: ∀{l:List Tm},renL f l=l.map (aBz f)
 | []=>rfl
 |t::r=>by rw[renL,vS];rfl
open Go.Ab
set_option maxRecDepth 100000
theorem tD:Tot dF:=⟨K6,aFi,aN7,fun _ _=>yB⟩
structure Kw where
 nm:ByteArray
 ar:Nat
 hd:Bool
 bd:Bool
abbrev rU (k:Kw):AV:= .agg [.sc (.string k.nm),nt .i64 k.ar,bl k.hd,bl k.bd]
abbrev uM:ByteArray:=⟨#[114,111,108,101]⟩
abbrev yH:ByteArray:=⟨#[105,110,105,116]⟩
abbrev Z1:ByteArray:=⟨#[116,114,117,101]⟩
abbrev pX:ByteArray:=⟨#[100,111,101,115]⟩
abbrev Z2:ByteArray:=⟨#[108,101,103,97,108]⟩
abbrev dH0:ByteArray:=⟨#[110,101,120,116]⟩
abbrev Z3:ByteArray:=⟨#[116,101,114,109,105,110,97,108]⟩
abbrev Z4:ByteArray:=⟨#[103,111,97,108]⟩
abbrev dH1:ByteArray:=⟨#[115,101,101,115]⟩
abbrev gE:ByteArray:=⟨#[100,105,115,116,105,110,99,116]⟩
abbrev aGd:ByteArray:=⟨#[99,104,97,110,99,101]⟩
def oH:List Kw:= [⟨uM,1,true,true⟩,⟨yH,1,true,false⟩,⟨Z1,1,false,true⟩,⟨pX,2,false,true⟩,⟨Z2,2,true,false⟩,⟨dH0,1,true,false⟩,⟨Z3,0,true,false⟩,⟨Z4,2,true,false⟩,⟨dH1,2,true,false⟩,⟨gE,2,false,true⟩]
def yI (s:ByteArray):Option Kw:=oH.find? fun k=>decide (k.nm=s)
def kT:Option Kw->AV
 |some k=> .tup [rU k,bl true]
 |none=> .tup [rU ⟨⟨#[]⟩,0,false,false⟩,bl false]
mutual
def uN:Tm->Bool
 | .mk n ts=>if ts.length=0 then !(fO n).2&&(!iJ n&& !iA n)else !iJ n||L8 ts
def L8:List Tm->Bool
 | []=>false
 |t::r=>uN t||L8 r
end
theorem dH2 {n:ByteArray} {ts:List Tm}:uN (.mk n ts)=if ts.length=0 then !(fO n).2&&(!iJ n&& !iA n)else !iJ n||L8 ts:=by rw[uN]
theorem aSc: ∀l:List Tm,L8 l=l.any uN
 | []=>rfl
 |t::r=>by rw[L8,aSc r,List.any_cons]
mutual
def uO:Tm->Bool
 | .mk _ ts=>decide (4<ts.length)||L9 ts
def L9:List Tm->Bool
 | []=>false
 |t::r=>uO t||L9 r
end
theorem dH3 {n:ByteArray} {ts:List Tm}:uO (.mk n ts)=(decide (4<ts.length)||L9 ts):=by rw[uO]
theorem aSd: ∀l:List Tm,L9 l=l.any uO
 | []=>rfl
 |t::r=>by rw[L9,aSd r,List.any_cons]
def Z5 (hd:Bool) (n:Nat) (d:Nat) (wd:Bool):Option Kw->Int
 |none=>if wd=true then 5 else if 4<d then 3 else 0
 |some k=>if wd=true\/n≠k.ar then 5 else if 4<d then 3 else if(hd=true/\k.hd=false)\/(hd=false/\k.bd=false)then 6 else 0
def jV (hd:Bool) (t:Tm):Int:=if iJ t.name=false\/uN t=true then 4 else Z5 hd t.args.length t.depth (uO t) (yI t.name)
def wT:List Tm->Int
 | []=>0
 |t::r=>if jV false t≠0 then jV false t else wT r
def jW (b:Lt):Bool:= !b.neg&& !decide (b.atom.name=gE)
def uP (r:Rl):List Tm:=r.head::(r.body.filter fun b=> !jW b).map Lt.atom
def wU (r:Rl):List Tm:=(r.body.filter jW).map Lt.atom
def M0 (r:Rl):Bool:=(jU (uP r)).all fun v=>iB (jU (wU r)) v
def uQ:Tm:= .mk ⟨#[]⟩ []
def yJ (r:Rl):Bool:=decide (r.head.name=uM)&&(decide (r.body.length≠0)||(decide ((r.head.args.headD uQ).args.length≠0)|| !iJ (r.head.args.headD uQ).name))
def mU (r:Rl):Int:=
 if 8<r.body.length then 2 else if jV true r.head≠0 then jV true r.head else if wT (r.body.map Lt.atom)≠0 then wT (r.body.map Lt.atom)
 else if 5<(dHz r).length then 11 else if M0 r=false then 7 else if yJ r=true then 8 else 0
def uR:List Rl->Nat->Option (Nat×Int)
 | [],_=>none
 |r::q,i=>if mU r≠0 then some (i,mU r)else uR q (i+1)
def B8 (met:List Tm) (t:Tm):Bool:=met.all fun u=> !decide (u.name=t.name)||decide (u.args.length=t.args.length)
def M1:List Tm->List Tm->Bool
 |_,[]=>true
 |met,t::r=>B8 met t&&M1 (met++ [t]) r
def tE:List Tm->List Rl->Nat->Option Nat
 |_,[],_=>none
 |met,r::q,i=>if M1 met (dO r)=true then tE (met++dO r) q (i+1)else some i
def M2 (r:Rl):Bool:=decide (r.head.name=uM)&&(decide (r.head.args.length=1)&&decide (r.body.length=0))
def B9 (acc:List Tm) (t:Tm):List Tm:=if acc.any (fun u=>decide (cS u t=0))=true then acc else acc++ [t]
def oI (l:List Rl):List Tm:=((l.filter M2).map fun r=>r.head.args.headD uQ).foldl B9 []
def C0 (t:Tm):Bool:=decide (t.name=aGd)&&decide (t.args.length=0)
def C2 (l:List Rl):Int:=if(oI l).findIdx C0<(oI l).length then(oI l).findIdx C0 else -1
structure Ed where
 fr:ByteArray
 to:ByteArray
 neg:Bool
 deriving DecidableEq
abbrev cF (e:Ed):AV:= .agg [.sc (.string e.fr),.sc (.string e.to),bl e.neg]
def kM (a b:Ed):Int:=gC (gC (dF a.fr b.fr) (dF a.to b.to)) (cR (nb a.neg) (nb b.neg))
theorem yK:Tot kM:=
 ((tD.two tD (α:=ByteArray×ByteArray) Prod.fst Prod.snd fun x y h k=>Prod.ext h k).two dHy (α:=Ed) (fun e=>(e.fr,e.to)) Ed.neg fun x y h k=>by
  cases x;cases y;simp only[Prod.mk.injEq]at h;obtain⟨rfl,rfl⟩:=h;dsimp only at k;subst k;rfl)
def M3 (l:List Rl):List ByteArray:=(l.flatMap fun r=>(dO r).map Tm.name).filter fun s=> !decide (s=gE)
def tF (l:List Rl):List ByteArray:=gX dF (M3 l)
def yL (r:Rl):List Ed:=if r.head.name=gE then[]else(r.body.filter fun b=> !decide (b.atom.name=gE)).map fun b=>⟨r.head.name,b.atom.name,b.neg⟩
def iS (l:List Rl):List Ed:=gX kM (l.flatMap yL)
inductive Rch (es:List Ed) (s:ByteArray):ByteArray->Prop
 |one {e:Ed}:e∈es->e.fr=s->Rch es s e.to
 |more {e:Ed}:Rch es s e.fr->e∈es->Rch es s e.to
def pY (s:ByteArray) (a:List ByteArray) (e:Ed):List ByteArray:=if(e.fr=s\/iB a e.fr=true)/\iB a e.to=false then a++ [e.to]else a
theorem yM {l:List ByteArray} {s:ByteArray}:iB l s=false↔s∉l:=by
 rw[<-L6];simp
def kU (es:List Ed) (s:ByteArray):Nat->List ByteArray
 |0=> []
 |n+1=>es.foldl (pY s) (kU es s n)
def Z6 (es:List Ed) (s:ByteArray):List ByteArray:=kU es s (es.length+1)
theorem aSe {s:ByteArray} {a:List ByteArray} {e:Ed}: ∃b,pY s a e=a++b:=by
 unfold pY;split
 ·exact⟨_,rfl⟩
 ·exact⟨[],by simp⟩
theorem aGe {s:ByteArray}: ∀{es:List Ed} {a:List ByteArray},∃b,es.foldl (pY s) a=a++b
 | [],a=>⟨[],by simp⟩
 |e::es,a=>by
  obtain⟨b,hb⟩:=aSe (s:=s) (a:=a) (e:=e)
  obtain⟨c,hc⟩:=aGe (s:=s) (es:=es) (a:=a++b)
  exact⟨b++c,by rw[List.foldl_cons,hb,hc,List.append_assoc]⟩
theorem aSf {s:ByteArray}: ∀{es:List Ed} {a:List ByteArray},es.foldl (pY s) a=a-> ∀e∈es,(e.fr=s\/e.fr∈a)->e.to∈a
 | [],_,_,e,he,_=>by simp at he
 |x::es,a,h,e,he,hc=>by
  rw[List.foldl_cons]at h
  obtain⟨b,hb⟩:=aSe (s:=s) (a:=a) (e:=x)
  obtain⟨c,hcc⟩:=aGe (s:=s) (es:=es) (a:=pY s a x)
  have hl:b= []:=by
   have:=congrArg List.length (hcc.symm.trans h)
   rw[hb]at this
   simp only[List.length_append]at this
   exact List.eq_nil_of_length_eq_zero (by omega)
  rw[hl,List.append_nil]at hb
  rw[hb]at h
  rcases List.mem_cons.1 he with rfl|he
  ·unfold pY at hb
   split at hb
   ·have:=congrArg List.length hb;simp at this
   ·rename_i hn
    refine L6.1 ?_
    cases hh:iB a e.to with
    |true=>rfl
    |false=>exact absurd ⟨hc.imp_right L6.2,hh⟩ hn
  ·exact aSf h e he hc
theorem aSg {es0:List Ed} {s:ByteArray}: ∀{es:List Ed} {a:List ByteArray},(∀e∈es,e∈es0)->a.Nodup->(∀x∈a,Rch es0 s x)->(es.foldl (pY s) a).Nodup/\ ∀x∈es.foldl (pY s) a,Rch es0 s x
 | [],a,_,h1,h2=>⟨h1,h2⟩
 |e::es,a,h0,h1,h2=>by
  rw[List.foldl_cons]
  refine aSg (fun x hx=>h0 x (by simp[hx])) ?_ ?_
  ·unfold pY;split
   ·rename_i hc
    exact List.nodup_append.2 ⟨h1,by simp,fun x hx y hy=>by simp at hy;subst hy;rintro rfl;exact yM.1 hc.2 hx⟩
   ·exact h1
  ·unfold pY;split
   ·rename_i hc
    intro x hx
    rcases List.mem_append.1 hx with hx|hx
    ·exact h2 x hx
    ·simp at hx
     subst hx
     rcases hc.1 with hs|hs
     ·exact .one (h0 e (by simp)) hs
     ·exact .more (h2 _ (L6.1 hs)) (h0 e (by simp))
   ·exact h2
theorem aGf {es:List Ed} {s:ByteArray}: ∀n,(kU es s n).Nodup/\ ∀x∈kU es s n,Rch es s x
 |0=>⟨List.nodup_nil,by simp[kU]⟩
 |n+1=>by
  obtain⟨h1,h2⟩:=aGf (es:=es) (s:=s) n
  exact aSg (fun _ h=>h) h1 h2
theorem yN {α:Type} [DecidableEq α]: ∀{a b:List α},a.Nodup->(∀x∈a,x∈b)->a.length<=b.length
 | [],_,_,_=>Nat.zero_le _
 |x::a,b,hn,hs=>by
  obtain⟨h1,h2⟩:=List.nodup_cons.1 hn
  have hx:=hs x (by simp)
  have:=yN (a:=a) (b:=b.erase x) h2 fun y hy=>(List.mem_erase_of_ne (fun(e:y=x)=>h1 (e▸hy))).2 (hs y (by simp[hy]))
  rw[List.length_erase_of_mem hx]at this
  have:=List.length_pos_of_mem hx
  simp only[List.length_cons];omega
theorem aSh {es:List Ed} {s x:ByteArray} (h:Rch es s x):x∈es.map Ed.to:=by
 cases h with
 |one h _=>exact List.mem_map.2 ⟨_,h,rfl⟩
 |more _ h=>exact List.mem_map.2 ⟨_,h,rfl⟩
theorem dH4 {es:List Ed} {s:ByteArray} (n:Nat):(kU es s n).length<=es.length:=by
 obtain⟨h1,h2⟩:=aGf (es:=es) (s:=s) n
 have:=yN h1 fun x hx=>aSh (h2 x hx)
 simpa using this
theorem aSi {es:List Ed} {s:ByteArray}: ∀n,(∃m,m<n/\kU es s (m+1)=kU es s m)\/n<=(kU es s n).length
 |0=> .inr (Nat.zero_le _)
 |n+1=>by
  rcases aSi (es:=es) (s:=s) n with⟨m,h1,h2⟩|h
  ·exact .inl ⟨m,by omega,h2⟩
  ·obtain⟨b,hb⟩:=aGe (s:=s) (es:=es) (a:=kU es s n)
   have hb':kU es s (n+1)=kU es s n++b:=hb
   cases b with
   |nil=>exact .inl ⟨n,by omega,by rw[hb',List.append_nil]⟩
   |cons x r=>right;rw[hb',List.length_append,List.length_cons];omega
theorem aGg {es:List Ed} {s:ByteArray} {m:Nat} (h:kU es s (m+1)=kU es s m): ∀k,kU es s (m+k)=kU es s m
 |0=>rfl
 |k+1=>by
  show es.foldl (pY s) (kU es s (m+k))=_
  rw[aGg h k];exact h
theorem dH5 {es:List Ed} {s x:ByteArray}:x∈Z6 es s↔Rch es s x:=by
 refine⟨(aGf _).2 x,fun h=>?_⟩
 have hfix:es.foldl (pY s) (Z6 es s)=Z6 es s:=by
  rcases aSi (es:=es) (s:=s) (es.length+1)with⟨m,h1,h2⟩|h'
  ·have e1:=aGg h2 (es.length+1 - m)
   have e2:=aGg h2 (es.length+1 - m+1)
   rw[show m+(es.length+1 - m)=es.length+1 by omega]at e1
   rw[show m+(es.length+1 - m+1)=es.length+1+1 by omega]at e2
   show kU es s (es.length+1+1)=kU es s (es.length+1)
   rw[e1,e2]
  ·have:=dH4 (es:=es) (s:=s) (es.length+1);omega
 have hcl:=aSf hfix
 induction h with
 |one h1 h2=>exact hcl _ h1 (.inl h2)
 |more _ h1 ih=>exact hcl _ h1 (.inr ih)
def lZ (es:List Ed) (s:ByteArray):List ByteArray:=gX dF (Z6 es s)
def M4 (l:List Rl):Bool:=
 iB (lZ (iS l) yH) Z1||(iB (lZ (iS l) yH) pX||(iB (lZ (iS l) Z2) pX||(iB (lZ (iS l) Z4) pX||iB (lZ (iS l) Z3) pX)))
def eX (e:Ed):Nat:=if e.neg=true then 1 else 0
def uS (es:List Ed) (L:ByteArray->Nat):Prop:= ∀e∈es,L e.to+eX e<=L e.fr
open Classical in
noncomputable def pZ (es:List Ed):Int:=if ∃L,uS es L then 0 else 10
def Z7 (nms:List ByteArray) (L:ByteArray->Nat) (x:ByteArray):Nat:=((List.range (L x)).filter fun v=>nms.any fun y=>decide (L y=v)).length
theorem aSj {p:Nat->Bool} {a b:Nat} (h:a<=b):((List.range a).filter p).length<=((List.range b).filter p).length:=by
 obtain⟨c,rfl⟩:=Nat.le.dest h
 rw[List.range_add,List.filter_append,List.length_append]
 exact Nat.le_add_right _ _
theorem aSk {p:Nat->Bool} {a b:Nat} (h:a<b) (hp:p a=true):((List.range a).filter p).length<((List.range b).filter p).length:=by
 have h1:=aSj (p:=p) (a:=a+1) (b:=b) h
 rw[List.range_succ,List.filter_append,List.length_append]at h1
 simp only[List.filter_cons,hp,if_true,List.filter_nil,List.length_cons,List.length_nil]at h1
 omega
theorem dH6 {es:List Ed} {nms:List ByteArray} (hin: ∀e∈es,e.fr∈nms/\e.to∈nms) {L:ByteArray->Nat} (h:uS es L):uS es (Z7 nms L)/\ ∀x∈nms,Z7 nms L x<nms.length:=by
 refine⟨fun e he=>?_,fun x hx=>?_⟩
 ·have h1:=h e he
  unfold eX at h1 ⊢
  unfold Z7
  split
  ·rename_i hn
   rw[if_pos hn]at h1
   exact aSk (by omega) (List.any_eq_true.2 ⟨e.to,(hin e he).2,by simp⟩)
  ·rename_i hn
   rw[if_neg hn]at h1
   exact aSj (by omega)
 ·have h1:=aSk (p:=fun v=>nms.any fun y=>decide (L y=v)) (Nat.lt_succ_self (L x)) (List.any_eq_true.2 ⟨x,hx,by simp⟩)
  have h2:((List.range (L x).succ).filter fun v=>nms.any fun y=>decide (L y=v)).length<=(nms.map L).length:=by
   refine yN (List.nodup_range.filter _) fun v hv=>?_
   obtain⟨_,hv⟩:=List.mem_filter.1 hv
   obtain⟨y,hy,e⟩:=List.any_eq_true.1 hv
   exact List.mem_map.2 ⟨y,hy,of_decide_eq_true e⟩
  rw[List.length_map]at h2
  unfold Z7;omega
theorem Z8 {es:List Ed} {nms:List ByteArray} (hin: ∀e∈es,e.fr∈nms/\e.to∈nms) {M:ByteArray->Nat} (hlow: ∀L,uS es L-> ∀x,M x<=L x) {e:Ed} (he:e∈es) (hbig:nms.length<=M e.to+eX e):pZ es=10:=by
 unfold pZ
 rw[if_neg]
 rintro⟨L,hL⟩
 obtain⟨h1,h2⟩:=dH6 hin hL
 have:=hlow _ h1 e.to
 have:=h1 e he
 have:=h2 e.fr (hin e he).1
 omega
theorem aSl {es:List Ed} {M:ByteArray->Nat} (h:uS es M):pZ es=0:=if_pos ⟨M,h⟩
theorem dH7 {es:List Ed} {M:ByteArray->Nat} (hlow: ∀L,uS es L-> ∀x,M x<=L x) {e:Ed} (he:e∈es): ∀L,uS es L-> ∀x,(if x=e.fr then M e.to+eX e else M x)<=L x:=fun L hL x=>by
 split
 ·rename_i hx
  subst hx
  have:=hlow L hL e.to
  have:=hL e he
  omega
 ·exact hlow L hL x
theorem dH8 {l:List Rl}: ∀e∈iS l,e.fr∈tF l/\e.to∈tF l:=fun e he=>by
 unfold iS at he
 rw[L7 yK,List.mem_flatMap]at he
 obtain⟨r,hr,he⟩:=he
 unfold yL at he
 split at he
 ·simp at he
 ·rename_i hd
  rw[List.mem_map]at he
  obtain⟨b,hb,rfl⟩:=he
  obtain⟨hb,hn⟩:=List.mem_filter.1 hb
  have hin: ∀s,s∈(dO r).map Tm.name-> ¬s=gE->s∈tF l:=fun s hs hne=>by
   unfold tF M3
   rw[L7 tD]
   exact List.mem_filter.2 ⟨List.mem_flatMap.2 ⟨r,hr,hs⟩,by simpa using hne⟩
  refine⟨hin _ (List.mem_map.2 ⟨r.head,by simp[dO],rfl⟩) hd,hin _ (List.mem_map.2 ⟨b.atom,?_,rfl⟩) (by simpa using hn)⟩
  simp only[dO,List.mem_cons,List.mem_map]
  exact .inr ⟨b,hb,rfl⟩
noncomputable def kV (l:List Rl):Int×Int:=
 if 128<l.length then(128,2)else match uR l 0 with
 |some (i,e)=>(i,e)
 |none=>match tE [] l 0 with
  |some i=>(i,5)
  |none=>if(oI l).length=0\/4<(oI l).length\/((oI l).length=1/\C2 l=0)then(0,8)else if M4 l=true then(0,9)else(0,pZ (iS l))
open Go.Ab
set_option maxRecDepth 100000
abbrev Z9:ByteArray:=⟨#[100,105,115,116,105,110,99,116]⟩
abbrev wV:ByteArray:=⟨#[105,110,105,116]⟩
abbrev wW:ByteArray:=⟨#[110,101,120,116]⟩
abbrev gF:ByteArray:=⟨#[116,114,117,101]⟩
abbrev wX:ByteArray:=⟨#[108,101,103,97,108]⟩
abbrev jB:ByteArray:=⟨#[100,111,101,115]⟩
def uT (r:List Bd×Bool) (nx:List (List Bd)):List (List Bd):=if r.2=true then nx++ [r.1]else nx
def kN (a:Tm) (s:List Bd):List Tm->List (List Bd)->Int->Option (List (List Bd))×Int
 | [],nx,lf=>(some nx,lf)
 |t::ts,nx,lf=>if t.name=a.name/\t.args.length=a.args.length then
  (if lf - 1<0\/5000<(uT (gJ a t s) nx).length then(none,lf - 1)else kN a s ts (uT (gJ a t s) nx) (lf - 1))
  else kN a s ts nx lf
def qW (a:Tm) (A:List Tm):List (List Bd)->List (List Bd)->Int->Option (List (List Bd))×Int
 | [],nx,lf=>(some nx,lf)
 |s::ss,nx,lf=>match kN a s A nx lf with
  |(some nx',lf')=>qW a A ss nx' lf'
  |(none,lf')=>(none,lf')
def jL (A:List Tm):List Lt->List (List Bd)->Int->Option (List (List Bd))×Int
 | [],out,lf=>(some out,lf)
 |b::bs,out,lf=>if b.neg=true\/b.atom.name=Z9 then jL A bs out lf else match qW b.atom A out [] lf with
  |(some nx,lf')=>jL A bs nx lf'
  |(none,lf')=>(none,lf')
def rV (h:Tm) (W:List (List Bd)):List Tm:=W.filterMap fun s=>if(iZ h s).2=true then some (iZ h s).1 else none
def rW (A:List Tm):List Rl->List Tm->Int->Option (List Tm)×Int
 | [],m,lf=>(some m,lf)
 |r::rs,m,lf=>match jL A r.body [[]] lf with
  |(some W,lf')=>rW A rs (m++rV r.head W) lf'
  |(none,lf')=>(none,lf')
def fF (t:Tm):List Tm:=if t.args.length=1/\(t.name=wV\/t.name=wW)then[.mk gF t.args]else if t.args.length=2/\t.name=wX then[.mk jB t.args]else[]
def fI (A:List Tm):List Tm:=A.flatMap fF
def gY (A:List Tm) (t:Tm):List Tm:=if A.any (fun u=>decide (gQ u=gQ t))=false/\t.depth<=4 then A++ [t]else A
def rX (l:List Rl):Nat->Int->List Tm->Int->Bool
 |0,_,_,_=>false
 |f+1,n,A,lf=>if n<A.length/\A.length<=1000 then match rW A l [] lf with
  |(some m,lf')=>rX l f A.length ((m++fI A).foldl gY A) lf'
  |(none,_)=>false
  else decide (A.length<=1000)
def uU (l:List Rl) (G:List Tm):Bool:=rX l 1003 (-1) (G.foldl gY []) 1000000
theorem aSo (t:Tm):(fF t).length<=1:=by
 unfold fF
 split
 ·simp
 ·split<;>simp
theorem aGj: ∀A:List Tm,(fI A).length<=A.length
 | []=>by simp[fI]
 |t::A=>by
  have h1:=aSo t
  have h2:=aGj A
  unfold fI at*
  rw[List.flatMap_cons,List.length_append,List.length_cons];omega
theorem dIf {A:List Tm} {t:Tm}:A.length<=(gY A t).length/\(gY A t).length<=A.length+1:=by
 unfold gY
 split<;>simp
theorem aSp: ∀{X A:List Tm},A.length<=(X.foldl gY A).length/\(X.foldl gY A).length<=A.length+X.length
 | [],A=>by simp
 |t::X,A=>by
  have h1:=dIf (A:=A) (t:=t)
  have h2:=aSp (X:=X) (A:=gY A t)
  rw[List.foldl_cons,List.length_cons];omega
mutual
def jC:Tm->Tm->List Bd->List Bd×Bool
 | .mk n ps,t,s=>if ps.length=0/\iA n=true then pV s n t (gW s n)else if n=t.name/\ps.length=t.args.length then mA ps t.args s else(s,false)
def mA:List Tm->List Tm->List Bd->List Bd×Bool
 | [],_,s=>(s,true)
 |_::_,[],s=>(s,true)
 |p::ps,t::ts,s=>if(jC p t s).2=true then mA ps ts (jC p t s).1 else jC p t s
end
theorem aGk {n:ByteArray} {ps:List Tm} {t:Tm} {s:List Bd}:jC (.mk n ps) t s=if ps.length=0/\iA n=true then pV s n t (gW s n)else if n=t.name/\ps.length=t.args.length then mA ps t.args s else(s,false):=by rw[jC]
theorem aAc {ts:List Tm} {s:List Bd}:mA [] ts s=(s,true):=by rw[mA]
theorem aGl {p:Tm} {ps:List Tm} {t:Tm} {ts:List Tm} {s:List Bd}:mA (p::ps) (t::ts) s=if(jC p t s).2=true then mA ps ts (jC p t s).1 else jC p t s:=by rw[mA]
theorem dIg {ps ts:List Tm} {s:List Bd} {i:Nat} (h1:i<ps.length) (h2:i<ts.length):mA (ps.drop i) (ts.drop i) s=if(jC ps[i] ts[i] s).2=true then mA (ps.drop (i+1)) (ts.drop (i+1)) (jC ps[i] ts[i] s).1 else jC ps[i] ts[i] s:=by
 rw[List.drop_eq_getElem_cons h1,List.drop_eq_getElem_cons h2,aGl]
def yP (p t:Tm) (s:List Bd):Option (List Bd):=if(jC p t s).2=true then some (jC p t s).1 else none
mutual
def eU (s:List Bd):Tm->Tm
 | .mk n ts=>if ts.length=0 then(gW s n).getD (.mk n [])else .mk n (uV s ts)
def uV (s:List Bd):List Tm->List Tm
 | []=> []
 |t::r=>eU s t::uV s r
end
theorem aGm {s:List Bd} {n:ByteArray} {ts:List Tm}:eU s (.mk n ts)=if ts.length=0 then(gW s n).getD (.mk n [])else .mk n (uV s ts):=by rw[eU]
theorem aGn {s:List Bd}: ∀{l:List Tm},uV s l=l.map (eU s)
 | []=>by rw[uV];rfl
 |t::r=>by rw[uV,aGn];rfl
def mB (b:Nat) (s:List Bd):Prop:= ∀x∈s,x.t.size<=b
theorem aSq {b:Nat} {s:List Bd} (h:mB b s) {n:ByteArray} {u:Tm} (hu:gW s n=some u):u.size<=b:=by
 unfold gW at hu
 obtain⟨x,hx,rfl⟩:=Option.map_eq_some_iff.1 hu
 exact h x (List.mem_of_find?_eq_some hx)
theorem dIh {b:Nat} {n:ByteArray} {t:Tm} {s:List Bd} {o:Option Tm} (hs:mB b s) (ht:t.size<=b):mB b (pV s n t o).1/\(pV s n t o).1.length<=s.length+1:=by
 unfold pV
 cases o with
 |some u=>exact⟨hs,Nat.le_succ _⟩
 |none=>
  refine⟨fun x hx=>?_,by simp⟩
  rcases List.mem_append.1 hx with hx|hx
  ·exact hs x hx
  ·rw[List.mem_singleton.1 hx];exact ht
theorem aSr {n:ByteArray} {ts:List Tm} {t:Tm} (h:t∈ts):t.size<=(Tm.mk n ts).size:=by
 obtain⟨i,hi,rfl⟩:=List.mem_iff_getElem.1 h
 have:=wK hi
 rw[gV (.mk n ts),cM];omega
mutual
theorem aSs {b:Nat}: ∀{p t:Tm} {s:List Bd},mB b s->t.size<=b->mB b (jC p t s).1/\(jC p t s).1.length<=s.length+p.size
 | .mk n ps,t,s,hs,ht=>by
  rw[aGk,gV,cM]
  split
  ·obtain⟨g1,g2⟩:=dIh (n:=n) (o:=gW s n) hs ht
   exact⟨g1,by omega⟩
  ·split
   ·have hta: ∀a∈t.args,a.size<=b:=fun a ha=>by
     obtain⟨m,us⟩:=t
     exact Nat.le_trans (aSr ha) ht
    obtain⟨g1,g2⟩:=aSt (ps:=ps) hs hta
    exact⟨g1,by omega⟩
   ·exact⟨hs,by show s.length<=_;omega⟩
theorem aSt {b:Nat}: ∀{ps ts:List Tm} {s:List Bd},mB b s->(∀a∈ts,a.size<=b)->mB b (mA ps ts s).1/\(mA ps ts s).1.length<=s.length+dV ps
 | [],ts,s,hs,ht=>by
  rw[aAc]
  exact⟨hs,by show s.length<=_;omega⟩
 |p::ps,[],s,hs,ht=>by
  rw[mA]
  exact⟨hs,by show s.length<=_;omega⟩
 |p::ps,t::ts,s,hs,ht=>by
  rw[aGl]
  obtain⟨g1,g2⟩:=aSs (p:=p) hs (ht t (by simp))
  simp only[dV]
  split
  ·obtain⟨k1,k2⟩:=aSt (ps:=ps) (ts:=ts) g1 (fun a ha=>ht a (by simp[ha]))
   exact⟨k1,by omega⟩
  ·exact⟨g1,by omega⟩
end
mutual
theorem aSu: ∀{p t:Tm} {s:List Bd},(jC p t s).1.length<=s.length+p.size
 | .mk n ps,t,s=>by
  rw[aGk,gV,cM]
  split
  ·unfold pV
   split
   ·show s.length<=_;omega
   ·simp
  ·split
   ·have:=aSv (ps:=ps) (ts:=t.args) (s:=s)
    omega
   ·show s.length<=_;omega
theorem aSv: ∀{ps ts:List Tm} {s:List Bd},(mA ps ts s).1.length<=s.length+dV ps
 | [],ts,s=>by
  rw[aAc]
  show s.length<=_;omega
 |p::ps,[],s=>by
  rw[mA]
  show s.length<=_;omega
 |p::ps,t::ts,s=>by
  rw[aGl]
  have g2:=aSu (p:=p) (t:=t) (s:=s)
  simp only[dV]
  split
  ·have:=aSv (ps:=ps) (ts:=ts) (s:=(jC p t s).1)
   omega
  ·omega
end
def zB (A:List Tm) (l:Lt) (s:List Bd):List (List Bd):=A.filterMap fun a=>if a.name=l.atom.name then yP l.atom a s else none
def yQ (A:List Tm):List Lt->List Bd->List (List Bd)
 | [],s=> [s]
 |l::b,s=>if jW l=true then(zB A l s).flatMap (yQ A b)else yQ A b s
def rY (s:List Bd) (l:Lt):Bool:=decide (eU s (l.atom.args.headD uQ)=eU s ((l.atom.args.drop 1).headD uQ))==l.neg
def yR (r:Rl) (s:List Bd):Bool:=r.body.all fun l=> !decide (l.atom.name=gE)||rY s l
def uW (A:List Tm) (r:Rl):List (List Bd):=(yQ A r.body []).filter (yR r)
def mV (A:List Tm) (r:Rl):List Tm:=(uW A r).map fun s=>eU s r.head
def tG (A:List Tm) (l:List Rl):List Tm:=l.flatMap (mV A)++fI A
def iH (A X:List Tm):List Tm:=X.foldl (fun o t=>fE t o) A
def mC (X:List Tm):Bool:=X.any fun t=>decide (4<t.depth)
def fG (l:List Rl) (A:List Tm):List Tm×Int:=if mC (tG A l)=true then([],3)else if 512<(iH A (tG A l)).length then([],11)else(iH A (tG A l),0)
def yS (l:List Rl):Nat->List Tm->List Tm×Int
 |0,A=>(A,0)
 |n+1,A=>if(fG l A).2≠0 then([],(fG l A).2)else if(fG l A).1.length=A.length then(A,0)else yS l n (fG l A).1
def tH (l:List Rl):List Tm×Int:=yS l 514 []
open Go.Ab
set_option maxRecDepth 100000
set_option maxHeartbeats 8000000
theorem aSx: ∀l:List Tm,l.length<=gD l
 | []=>by simp
 |t::r=>by have:=aSx r;rw[gD,List.length_cons];omega
theorem aGo: ∀t:Tm,fY t<=2305843009213693952->ACall prog 51 [eT t] (fun r=>r= .sc (.string (gQ t))):=by
 refine fM fun t ih hz=>?_
 obtain⟨n,ts⟩:=t
 simp only[cM]at ih
 rw[uJ]at hz
 rw[gQ]
 have hsz: ∀i,(lW (n++⟨#[40]⟩) (ts.take i)).size<=n.size+1+gD ts:=fun i=>by
  rw[aFs fun t _=>aOj t,L0]
  have h1:(⟨#[40]⟩:ByteArray).size=1:=rfl
  have:=cZu (ts:=ts) (i:=i)
  omega
 have hs0:lW (n++⟨#[40]⟩) []=n++⟨#[40]⟩:=rfl
 refine aX func51 call51 rfl (by simp[ntmps51]) ?_;simp only[ntmps51,results51]
 repeat' (first|(refine aE fun _ _=>?_)|refine zHg ?_|simp(disch:=omega) [go_sem]|refine zAo ?_|fail)
 refine bZ [1,10] [] (fun i:Nat=> [(11,nt .i64 i),(3,.sc (.string (lW (n++⟨#[40]⟩) (ts.take i))))]) (fun i:Nat=> []) (fun i:Nat=>ts.length - i) (fun i:Nat=>i<=ts.length) (0) (Le.sub4 rfl (by simp[go_sem,hs0,List.take_zero])) ⟨?_⟩ ?_
 ·exact Nat.zero_le _
 intro i hi AA hAA;simp only[kL,Nat.reduceBEq,Nat.reduceEqDiff]
 have h1:=hsz i
 have hll:=aSx ts
 by_cases hlt:i<ts.length
 ·have hm:=aOm (List.getElem_mem hlt)
  have hu:=ih ts[i] (List.getElem_mem hlt) (by omega)
  have hn:=cZt (a:=n++⟨#[40]⟩) hlt
  have h2:=aOj ts[i]
  generalize lW (n++⟨#[40]⟩) (ts.take i)=A at*
  generalize gQ ts[i]=B at*
  repeat' (first|(refine aE fun _ _=>?_)|refine zHg ?_|refine aI rfl (hu) (by simp) ?_|(refine(hAA.next (i+1) (Le.sub4 rfl (by simp[go_sem,hn])) (by(try dsimp only);omega) ?_))|simp(disch:=omega) [go_sem,hlt]|refine zAo ?_|fail)
  try any_goals omega
  exact⟨by omega⟩
 ·obtain rfl:i=ts.length:=by omega
  rw[List.take_length]at*
  generalize lW (n++⟨#[40]⟩) ts=A at*
  repeat' (first|(refine aE fun _ _=>?_)|refine zHg ?_|(refine aL [] ?_;simp[go_sem])|simp(disch:=omega) [go_sem]|refine zAo ?_|fail)
theorem aSy {q M:Nat} (hq:q<=1000000): ∀t:Tm,eQ q M t->t.depth<=1000000->ACall prog 52 [eT t] (fun r=>r=nt .i64 t.depth):=by
 refine fM fun t ih ho hs=>?_
 obtain⟨s,ts⟩:=t
 simp only[cM]at ih
 obtain⟨-,hl,ho⟩:=oE.1 ho
 have ho:=wO.1 ho
 have hda: ∀t∈ts,t.depth+1<=(Tm.mk s ts).depth:=fun t ht=>aFy ht
 rw[qS]at*
 simp only[cM]at*
 have hdi: ∀i,fL (ts.take i)<=fL ts:=fun i=>by
  have:=aE4 (ts.take i) (ts.drop i)
  rw[List.take_append_drop]at this;omega
 refine aX func52 call52 rfl (by simp[ntmps52]) ?_;simp only[ntmps52,results52]
 repeat' (first|(refine aE fun _ _=>?_)|refine zHg ?_|simp(disch:=omega) [go_sem])
 refine bZ [1,7] [] (fun i:Nat=> [(8,nt .i64 i),(3,nt .i64 (fL (ts.take i)))]) (fun i:Nat=> []) (fun i:Nat=>ts.length - i) (fun i:Nat=>i<=ts.length) (0) (Le.sub4 rfl (by simp[go_sem,fL,List.take_zero])) ⟨?_⟩ ?_
 ·exact Nat.zero_le _
 intro i hi AA hAA;simp only[kL,Nat.reduceBEq,Nat.reduceEqDiff]
 have hd1:=hdi i
 by_cases hlt:i<ts.length
 ·have hu:=ih ts[i] (List.getElem_mem hlt) (ho _ (List.getElem_mem hlt)) (by have:=hda _ (List.getElem_mem hlt);omega)
  have hn:=aNb hlt
  repeat' (first|(refine aE fun _ _=>?_)|refine zHg ?_|refine aI rfl (hu) (by simp) ?_|(refine(hAA.next (i+1) (Le.sub4 rfl (by simp[go_sem,hn,aNd])) (by(try dsimp only);omega) ?_))|simp(disch:=omega) [go_sem,hlt])
  try any_goals omega
  exact⟨by omega⟩
 ·obtain rfl:i=ts.length:=by omega
  rw[List.take_length]at*
  repeat' (first|(refine aE fun _ _=>?_)|refine zHg ?_|(refine aL [] ?_;simp[go_sem])|simp(disch:=omega) [go_sem])
theorem aGp {s:List Bd} {n:ByteArray} {i:Nat} (h:i<s.length) (he:s[i].v=n) (hn: ∀(k:Nat) (hk:k<s.length),k<i-> ¬s[k].v=n):gW s n=some s[i].t:=by
 have:s.find? (fun b=>decide (b.v=n))=some s[i]:=by
  rw[List.find?_eq_some_iff_getElem]
  exact⟨by simpa using he,i,h,rfl,fun j hj=>by simpa using hn j (by omega) hj⟩
 unfold gW
 rw[this];rfl
theorem aGq {s:List Bd} {n:ByteArray} (hn: ∀(k:Nat) (hk:k<s.length),k<s.length-> ¬s[k].v=n):gW s n=none:=by
 have:s.find? (fun b=>decide (b.v=n))=none:=by
  rw[List.find?_eq_none]
  intro x hx
  obtain⟨k,hk,rfl⟩:=List.mem_iff_getElem.1 hx
  simpa using hn k hk hk
 unfold gW
 rw[this];rfl
theorem aS0: ∀t:Tm,t.size<=1000000->ACall prog 80 [eT t] (fun r=>r=eT t):=by
 refine fM fun t ih hsz=>?_
 obtain⟨n,ts⟩:=t
 simp only[cM]at ih
 rw[gV,cM]at hsz
 have hlen:=sS ts
 have ih': ∀(i:Nat) (h:i<ts.length),ACall prog 80 [eT ts[i]] (fun r=>r=eT ts[i]):=fun i h=>ih _ (List.getElem_mem h) (by have:=wK h;omega)
 clear ih
 refine ACall.loose (x:= .agg [.sc (.string n),.list false (decide (ts.length=0)) (ts.map aP)]) rfl ?_
 refine aX func80 call80 rfl (by simp[ntmps80]) ?_;simp only[ntmps80,results80]
 repeat' (first|(refine aE fun _ _=>?_)|refine zHg ?_|simp(disch:=omega) [go_sem])
 refine bZ [2,3,10,11] [3,900,5] (fun y:Nat×List Tm=> [(12,nt .i64 y.1)]) (fun y:Nat×List Tm=>(3,⟨false,false,false,2,[.agg [.sc (.string n),if y.2.length=0 then .list false true []else .ref 900 0 y.2.length]],0⟩)::(if y.2.length=0 then[]else[(900,⟨true,false,false,2,y.2.map aP,0⟩)])) (fun y:Nat×List Tm=>ts.length - y.1) (fun y:Nat×List Tm=>y.1<=ts.length/\y.2.length=y.1/\y.2++ts.drop y.1=ts) ((0,[])) (Le.sub4 rfl (by simp[go_sem])) ⟨?_⟩ ?_
 ·exact⟨Nat.zero_le _,rfl,rfl⟩
 intro⟨i,a⟩ ⟨hi,ha,hinv⟩ AA hAA;simp only[kL,Nat.reduceBEq,Nat.reduceEqDiff]
 dsimp only at*
 by_cases hlt:i<ts.length
 ·have hu:=ih' i hlt
  rw[List.drop_eq_getElem_cons hlt]at hinv
  by_cases h0:i=0
  ·subst h0
   obtain rfl:=List.eq_nil_of_length_eq_zero ha
   repeat' (first|(refine aE fun _ _=>?_)|refine zHg ?_|refine bI rfl (hu) rfl (by simp) ?_|(refine(hAA.next ((0+1,[ts[0]])) (Le.renSub [(21,900)] [(900,21)] (by simp[go_sem]) (by simp[go_sem]) (Le.sub4 rfl (by simp[go_sem]))) (by(try dsimp only);omega) ?_))|simp(disch:=omega) [go_sem,hlt]|refine zDr 4 bA ?_|fail)
   try any_goals omega
   all_goals exact⟨hlt,rfl,hinv⟩
  ·repeat' (first|(refine aE fun _ _=>?_)|refine zHg ?_|refine bI rfl (hu) rfl (by simp) ?_|(refine(hAA.next ((i+1,a++ [ts[i]])) (Le.sub4 rfl (by simp[go_sem,ha])) (by(try dsimp only);omega) ?_))|simp(disch:=omega) [go_sem,hlt,h0,ha]|refine zAo ?_|refine zDr 4 bA ?_|fail)
   try any_goals omega
   all_goals exact⟨hlt,by simp[ha],by rw[List.append_assoc];exact hinv⟩
 ·obtain rfl:i=ts.length:=by omega
  rw[List.drop_length,List.append_nil]at hinv
  subst hinv
  clear ih'
  by_cases h0:a.length=0
  ·obtain rfl:=List.eq_nil_of_length_eq_zero h0
   repeat' (first|(refine aE fun _ _=>?_)|refine zHg ?_|(refine aL [] ?_;simp[go_sem])|simp(disch:=omega) [go_sem])
  ·repeat' (first|(refine aE fun _ _=>?_)|refine zHg ?_|(refine aL [] ?_;simp[go_sem,h0])|simp(disch:=omega) [go_sem,h0])
def tI (s:List Bd) (v:ByteArray):Tm×Bool:=match gW s v with
 |some t=>(t,true)
 |none=>(.mk ⟨#[]⟩ [],false)
theorem aS1 (s:List Bd) (v:ByteArray) (le fu:Bool):ACall prog 127 [.list le fu (s.map jK),.sc (.string v)] (fun r=>r= .tup [eT (tI s v).1,bl (tI s v).2]):=by
 refine ACall.bound (i:=0) rfl call127 fun hb=>?_
 rw[List.length_map]at hb
 have hb:s.length<=140737488355328:=hb
 have hx: ∃x:AV,x.pure=true/\ACall prog 127 [.list le fu (s.map jK),.sc (.string v)] (fun r=>r= .tup [x,bl (tI s v).2])/\eT (tI s v).1=Ab.loose x:=by
  cases hq:gW s v with
  |some t=>
   have e:tI s v=(t,true):=by unfold tI;rw[hq]
   rw[e]
   refine⟨eT t,rfl,?_,rfl⟩
   dsimp only
   refine aX func127 call127 rfl (by simp[ntmps127]) ?_;simp only[ntmps127,results127]
   repeat' (first|(refine aE fun _ _=>?_)|refine zHg ?_|simp(disch:=omega) [go_sem])
   refine bZ [1,4,8,9] [4] (fun i:Nat=> [(10,nt .i64 i)]) (fun i:Nat=>(4,⟨false,false,false,2,[.agg [.sc (.string ⟨#[]⟩),.list false true []]],0⟩):: []) (fun i:Nat=>s.length - i) (fun i:Nat=>i<=s.length/\ ∀(k:Nat) (hk:k<s.length),k<i-> ¬s[k].v=v) (0) (Le.sub4 rfl (by simp[go_sem])) ⟨?_⟩ ?_
   ·exact⟨Nat.zero_le _,fun k _ hk=>absurd hk (Nat.not_lt_zero _)⟩
   intro i ⟨hi,hn⟩ AA hAA;simp only[kL,Nat.reduceBEq,Nat.reduceEqDiff]
   by_cases hlt:i<s.length
   ·by_cases hv:s[i].v=v
    ·rw[aGp hlt hv hn]at hq
     obtain rfl:=Option.some.inj hq
     repeat' (first|(refine aE fun _ _=>?_)|refine zHg ?_|(refine aL [] ?_;simp[go_sem,hlt,hv])|simp(disch:=omega) [go_sem,hlt,hv])
    ·repeat' (first|(refine aE fun _ _=>?_)|refine zHg ?_|(refine(hAA.next (i+1) (Le.sub4 rfl (by simp[go_sem])) (by(try dsimp only);omega) ?_))|simp(disch:=omega) [go_sem,hlt,hv])
     try any_goals omega
     exact⟨hlt,fun k hk hki=>by rcases Nat.lt_or_eq_of_le (Nat.le_of_lt_succ hki)with h|rfl;exact hn k hk h;exact hv⟩
   ·obtain rfl:i=s.length:=by omega
    rw[aGq hn]at hq
    cases hq
  |none=>
   have e:tI s v=(.mk ⟨#[]⟩ [],false):=by unfold tI;rw[hq]
   rw[e]
   refine⟨.agg [.sc (.string ⟨#[]⟩),.list false true []],rfl,?_,rfl⟩
   dsimp only
   refine aX func127 call127 rfl (by simp[ntmps127]) ?_;simp only[ntmps127,results127]
   repeat' (first|(refine aE fun _ _=>?_)|refine zHg ?_|simp(disch:=omega) [go_sem])
   refine bZ [1,4,8,9] [4] (fun i:Nat=> [(10,nt .i64 i)]) (fun i:Nat=>(4,⟨false,false,false,2,[.agg [.sc (.string ⟨#[]⟩),.list false true []]],0⟩):: []) (fun i:Nat=>s.length - i) (fun i:Nat=>i<=s.length) (0) (Le.sub4 rfl (by simp[go_sem])) ⟨?_⟩ ?_
   ·exact Nat.zero_le _
   intro i hi AA hAA;simp only[kL,Nat.reduceBEq,Nat.reduceEqDiff]
   by_cases hlt:i<s.length
   ·have hv: ¬s[i].v=v:=fun h=>by
     unfold gW at hq
     rw[Option.map_eq_none_iff,List.find?_eq_none]at hq
     exact hq _ (List.getElem_mem hlt) (by simp[h])
    repeat' (first|(refine aE fun _ _=>?_)|refine zHg ?_|(refine(hAA.next (i+1) (Le.sub4 rfl (by simp[go_sem])) (by(try dsimp only);omega) ?_))|simp(disch:=omega) [go_sem,hlt,hv])
    try any_goals omega
    exact⟨hlt⟩
   ·obtain rfl:i=s.length:=by omega
    repeat' (first|(refine aE fun _ _=>?_)|refine zHg ?_|(refine aL [] ?_;simp[go_sem])|simp(disch:=omega) [go_sem])
 obtain⟨x,h1,h2,h3⟩:=hx
 rw[h3]
 exact ACall.looseT h1 h2
theorem aS2 (s:List Bd) (le fu:Bool) (hs:mB 1000000 s): ∀t:Tm,t.size<=1000000->ACall prog 76 [.list le fu (s.map jK),eT t] (fun r=>r=eT (eU s t)):=by
 refine fM fun t ih hsz=>?_
 obtain⟨n,ts⟩:=t
 simp only[cM]at ih
 rw[gV,cM]at hsz
 have hlen:=sS ts
 have ih': ∀(i:Nat) (h:i<ts.length),ACall prog 76 [.list le fu (s.map jK),eT ts[i]] (fun r=>r=eT (eU s ts[i])):=fun i h=>ih _ (List.getElem_mem h) (by have:=wK h;omega)
 clear ih
 have hb:=aS1 s n le fu
 rw[aGm]
 by_cases h0:ts.length=0
 ·rw[if_pos h0]
  obtain rfl:=List.eq_nil_of_length_eq_zero h0
  unfold tI at hb
  cases hq:gW s n with
  |some t=>
   rw[hq]at hb
   dsimp only at hb
   have hc:=aS0 t (aSq hs hq)
   show ACall _ _ _ (fun r=>r=eT t)
   clear ih' hlen hsz h0 hq
   refine aX func76 call76 rfl (by simp[ntmps76]) ?_;simp only[ntmps76,results76]
   repeat' (first|(refine aE fun _ _=>?_)|refine zHg ?_|(refine aL [] ?_;simp[go_sem])|refine aI rfl (hb) (by simp) ?_|refine aI rfl (hc) (by simp) ?_|simp(disch:=omega) [go_sem])
  |none=>
   rw[hq]at hb
   dsimp only at hb
   show ACall _ _ _ (fun r=>r=eT (.mk n []))
   clear ih' hlen hsz h0 hq
   refine ACall.loose (x:= .agg [.sc (.string n),.list false true []]) rfl ?_
   refine aX func76 call76 rfl (by simp[ntmps76]) ?_;simp only[ntmps76,results76]
   repeat' (first|(refine aE fun _ _=>?_)|refine zHg ?_|refine aI rfl (hb) (by simp) ?_|simp(disch:=omega) [go_sem])
   refine bZ [0,4,7,28,29] [7,5] (fun i:Nat=> [(30,nt .i64 0)]) (fun i:Nat=>(7,⟨false,false,false,2,[.agg [.sc (.string n),.list false true []]],0⟩):: []) (fun i:Nat=>0) (fun i:Nat=>True) (0) (Le.sub4 rfl (by simp[go_sem])) ⟨?_⟩ ?_
   ·trivial
   intro i hi AA hAA;simp only[kL,Nat.reduceBEq,Nat.reduceEqDiff]
   repeat' (first|(refine aE fun _ _=>?_)|refine zHg ?_|(refine aL [] ?_;simp[go_sem])|simp(disch:=omega) [go_sem])
 ·rw[if_neg h0,aGn]
  clear hb
  refine ACall.loose (x:= .agg [.sc (.string n),.list false (decide (ts.length=0)) ((ts.map (eU s)).map aP)]) rfl ?_
  generalize hL:ts.map (eU s)=L at*
  have hLl:L.length=ts.length:=by rw[<-hL,List.length_map]
  have ih2: ∀(i:Nat) (h:i<ts.length),∃x,ACall prog 76 [.list le fu (s.map jK),eT ts[i]] (fun r=>r=eT x)/\L.drop i=x::L.drop (i+1):=fun i h=>⟨_,ih' i h,by
   have h':i<L.length:=by omega
   rw[List.drop_eq_getElem_cons h']
   congr 1
   subst hL
   rw[List.getElem_map]⟩
  clear ih' hL
  refine aX func76 call76 rfl (by simp[ntmps76]) ?_;simp only[ntmps76,results76]
  repeat' (first|(refine aE fun _ _=>?_)|refine zHg ?_|simp(disch:=omega) [go_sem,h0])
  refine bZ [0,4,7,28,29] [7,900] (fun y:Nat×List Tm=> [(30,nt .i64 y.1)]) (fun y:Nat×List Tm=>(7,⟨false,false,false,2,[.agg [.sc (.string n),if y.2.length=0 then .list false true []else .ref 900 0 y.2.length]],0⟩)::(if y.2.length=0 then[]else[(900,⟨true,false,false,2,y.2.map aP,0⟩)])) (fun y:Nat×List Tm=>ts.length - y.1) (fun y:Nat×List Tm=>y.1<=ts.length/\y.2.length=y.1/\y.2++L.drop y.1=L) ((0,[])) (Le.sub4 rfl (by simp[go_sem])) ⟨?_⟩ ?_
  ·exact⟨Nat.zero_le _,rfl,rfl⟩
  intro⟨i,a⟩ ⟨hi,ha,hinv⟩ AA hAA;simp only[kL,Nat.reduceBEq,Nat.reduceEqDiff]
  dsimp only at*
  by_cases hlt:i<ts.length
  ·obtain⟨x,hu,hd⟩:=ih2 i hlt
   rw[hd]at hinv
   clear ih2 hd
   by_cases h0:i=0
   ·subst h0
    obtain rfl:=List.eq_nil_of_length_eq_zero ha
    repeat' (first|(refine aE fun _ _=>?_)|refine zHg ?_|refine bI rfl (hu) rfl (by simp) ?_|(refine(hAA.next ((0+1,[x])) (Le.renSub [(40,900)] [(900,40)] (by simp[go_sem]) (by simp[go_sem]) (Le.sub4 rfl (by simp[go_sem]))) (by(try dsimp only);omega) ?_))|simp(disch:=omega) [go_sem,hlt]|refine zDr 5 bA ?_|fail)
    try any_goals omega
    all_goals exact⟨hlt,rfl,hinv⟩
   ·repeat' (first|(refine aE fun _ _=>?_)|refine zHg ?_|refine bI rfl (hu) rfl (by simp) ?_|(refine(hAA.next ((i+1,a++ [x])) (Le.sub4 rfl (by simp[go_sem,ha])) (by(try dsimp only);omega) ?_))|simp(disch:=omega) [go_sem,hlt,h0,ha]|refine zAo ?_|refine zDr 5 bA ?_|fail)
    try any_goals omega
    all_goals exact⟨hlt,by simp[ha],by rw[List.append_assoc];exact hinv⟩
  ·obtain rfl:i=ts.length:=by omega
   rw[<-hLl,List.drop_length,List.append_nil]at hinv
   subst hinv
   clear ih2
   by_cases h0:ts.length=0
   ·obtain rfl:=List.eq_nil_of_length_eq_zero (hLl.trans h0)
    repeat' (first|(refine aE fun _ _=>?_)|refine zHg ?_|(refine aL [] ?_;simp[go_sem,h0])|simp(disch:=omega) [go_sem,h0])
   ·repeat' (first|(refine aE fun _ _=>?_)|refine zHg ?_|(refine aL [] ?_;simp[go_sem,h0,ha])|simp(disch:=omega) [go_sem,h0,ha])
theorem aS3: ∀(n:Nat) (p t:Tm) (s:List Bd),p.size<n->p.size<=1000000->s.length+p.size<=1000000->ACall prog 126 [.list false false (s.map jK),eT p,eT t] (fun r=>r= .tup [.list false false ((jC p t s).1.map jK),bl (jC p t s).2])
 |0,p,t,s,hn,_,_=>absurd hn (Nat.not_lt_zero _)
 |n+1,.mk v ps,.mk w ts,s,hn,hz,hl=>by
  rw[gV,cM]at hn hz hl
  have hlen:=sS ps
  have ih:=aS3 n
  have hv:=W7 v
  have hlk:=aS1 s v false false
  rw[aGk]
  by_cases h0:ps.length=0/\iA v=true
  ·rw[if_pos h0]
   obtain⟨h1,h2⟩:=h0
   rw[h2]at hv
   obtain rfl:=List.eq_nil_of_length_eq_zero h1
   unfold tI at hlk
   cases hq:gW s v with
   |some u=>
    rw[hq]at hlk
    dsimp only at hlk
    have hc:=yC u (.mk w ts)
    have hz0:cS u (.mk w ts)=0↔u= .mk w ts:=B3 _ _
    show ACall _ _ _ (fun r=>r= .tup [.list false false (s.map jK),bl (decide (u= .mk w ts))])
    generalize cS u (.mk w ts)=c at*
    by_cases hu:u= .mk w ts
    ·rw[decide_eq_true hu]
     have hc0:c=0:=hz0.2 hu
     refine aX func126 call126 rfl (by simp[ntmps126]) ?_;simp only[ntmps126,results126]
     repeat' (first|(refine aE fun _ _=>?_)|refine zHg ?_|(refine aL [] ?_;simp[go_sem,hc0])|refine aI rfl (hv) (by simp) ?_|refine aI rfl (hlk) (by simp) ?_|refine aI rfl (hc) (by simp) ?_|simp(disch:=omega) [go_sem,hc0])
    ·rw[decide_eq_false hu]
     have hc0: ¬c=0:=fun h=>hu (hz0.1 h)
     refine aX func126 call126 rfl (by simp[ntmps126]) ?_;simp only[ntmps126,results126]
     repeat' (first|(refine aE fun _ _=>?_)|refine zHg ?_|(refine aL [] ?_;simp[go_sem,hc0])|refine aI rfl (hv) (by simp) ?_|refine aI rfl (hlk) (by simp) ?_|refine aI rfl (hc) (by simp) ?_|simp(disch:=omega) [go_sem,hc0])
   |none=>
    rw[hq]at hlk
    dsimp only at hlk
    show ACall _ _ _ (fun r=>r= .tup [.list false false ((s++ [(⟨v,.mk w ts⟩:Bd)]).map jK),bl true])
    rw[List.map_append]
    refine aX func126 call126 rfl (by simp[ntmps126]) ?_;simp only[ntmps126,results126]
    repeat' (first|(refine aE fun _ _=>?_)|refine zHg ?_|(with_reducible refine eO ?_;first|(exact eL)|(refine zSkip ?_)|(refine eM rfl ?_ ?_))|(with_reducible refine eN ?_;first|(refine zDone ?_)|(refine zQu 0 rfl rfl rfl rfl ?_)|(refine zQu 1 rfl rfl rfl rfl ?_)|(refine zQu 2 rfl rfl rfl rfl ?_)|(refine zQu 3 rfl rfl rfl rfl ?_)|(refine zQu 4 rfl rfl rfl rfl ?_)|(refine zQu 6 rfl rfl rfl rfl ?_)|(refine zQu 7 rfl rfl rfl rfl ?_)|(refine zQu 8 rfl rfl rfl rfl ?_)|(refine zQu 12 rfl rfl rfl rfl ?_)|(refine zQu 13 rfl rfl rfl rfl ?_)|(refine zAll ?_;show dR _ _ _ _ _ _ _))|with_reducible refine eJ ?_|(refine aL [45] ?_;simp[go_sem])|refine aI rfl (hv) (by simp) ?_|refine aI rfl (hlk) (by simp) ?_|simp(disch:=omega) [go_sem]|refine zAo ?_|refine zAny bA ?_|fail)
  ·rw[if_neg h0]
   have key:(ps.length=0/\iA v=false)\/ ¬ps.length=0:=by
    by_cases hp:ps.length=0
    ·refine .inl ⟨hp,?_⟩
     cases hvs:iA v with
     |true=>exact absurd ⟨hp,hvs⟩ h0
     |false=>rfl
    ·exact .inr hp
   clear h0 hlk
   by_cases hm:v=(Tm.mk w ts).name/\ps.length=(Tm.mk w ts).args.length
   ·rw[if_pos hm]
    simp only[jI,cM]at hm ⊢
    obtain⟨rfl,hle⟩:=hm
    have hle2:=hle.symm
    generalize hR:mA ps ts s=R
    rcases key with⟨hp0,hv0⟩|hp0
    ·obtain rfl:=List.eq_nil_of_length_eq_zero hp0
     obtain rfl:=List.eq_nil_of_length_eq_zero hle.symm
     rw[aAc]at hR
     subst hR
     rw[hv0]at hv
     refine aX func126 call126 rfl (by simp[ntmps126]) ?_;simp only[ntmps126,results126]
     repeat' (first|(refine aE fun _ _=>?_)|refine zHg ?_|refine aI rfl (hv) (by simp) ?_|simp(disch:=omega) [go_sem])
     refine bZ [4,5,63] [4,5] (fun i:Nat=> [(64,nt .i64 0),(0,.list false false (s.map jK)),(10,bl true)]) (fun i:Nat=> [(4,⟨false,false,false,2,[eT (.mk v [])],0⟩),(5,⟨false,false,false,2,[eT (.mk v [])],0⟩)]) (fun i:Nat=>0) (fun i:Nat=>True) (0) (Le.sub4 rfl (by simp[go_sem])) ⟨?_⟩ ?_
     ·trivial
     intro i hi AA hAA;simp only[kL,Nat.reduceBEq,Nat.reduceEqDiff]
     repeat' (first|(refine aE fun _ _=>?_)|refine zHg ?_|(refine aL [] ?_;simp[go_sem])|simp(disch:=omega) [go_sem])
    ·refine aX func126 call126 rfl (by simp[ntmps126]) ?_;simp only[ntmps126,results126]
     repeat' (first|(refine aE fun _ _=>?_)|refine zHg ?_|simp(disch:=omega) [go_sem,hp0,hle2])
     refine bZ [4,5,63] [4,5] (fun y:Nat×List Bd=> [(64,nt .i64 y.1),(0,.list false false (y.2.map jK)),(10,bl true)]) (fun y:Nat×List Bd=> [(4,⟨false,false,false,2,[eT (.mk v ps)],0⟩),(5,⟨false,false,false,2,[eT (.mk v ts)],0⟩)]) (fun y:Nat×List Bd=>ps.length - y.1) (fun y:Nat×List Bd=>y.1<=ps.length/\mA (ps.drop y.1) (ts.drop y.1) y.2=R/\y.2.length<=s.length+dV (ps.take y.1)) ((0,s)) (Le.sub4 rfl (by simp[go_sem])) ⟨?_⟩ ?_
     ·exact⟨Nat.zero_le _,hR,by simp⟩
     intro⟨i,u⟩ ⟨hi,hr,hul⟩ AA hAA;simp only[kL,Nat.reduceBEq,Nat.reduceEqDiff]
     dsimp only at*
     clear hR hv hp0
     by_cases hlt:i<ps.length
     ·have hlt2:i<ts.length:=by omega
      have htk:=cYx hlt
      have htl:=aNc ps (i+1)
      have hgs:=wK hlt
      have hu:=ih ps[i] ts[i] u (by omega) (by omega) (by omega)
      have hnl:=aSu (p:=ps[i]) (t:=ts[i]) (s:=u)
      rw[dIg hlt hlt2]at hr
      generalize jC ps[i] ts[i] u=q at*
      obtain⟨u',ok⟩:=q
      cases ok
      ·simp only[Bool.false_eq_true,if_false]at hr
       subst hr
       repeat' (first|(refine aE fun _ _=>?_)|refine zHg ?_|(refine aL [] ?_;simp[go_sem,hlt,hlt2])|refine bI rfl (hu) rfl (by simp) ?_|simp(disch:=omega) [go_sem,hlt,hlt2]|refine zDr 17 bA ?_|fail)
      ·simp only[if_true]at hr
       repeat' (first|(refine aE fun _ _=>?_)|refine zHg ?_|refine bI rfl (hu) rfl (by simp) ?_|(refine(hAA.next ((i+1,u')) (Le.sub4 rfl (by simp[go_sem])) (by(try dsimp only);omega) ?_))|simp(disch:=omega) [go_sem,hlt,hlt2]|refine zDr 17 bA ?_|fail)
       all_goals exact⟨hlt,hr,by dsimp only at*;omega⟩
     ·obtain rfl:i=ps.length:=by omega
      rw[List.drop_length,aAc]at hr
      subst hr
      repeat' (first|(refine aE fun _ _=>?_)|refine zHg ?_|(refine aL [] ?_;simp[go_sem])|simp(disch:=omega) [go_sem])
   ·rw[if_neg hm]
    simp only[jI,cM]at hm ⊢
    by_cases hvw:v=w
    ·subst hvw
     have hle: ¬ps.length=ts.length:=fun e=>hm ⟨rfl,e⟩
     rcases key with⟨hp0,hv0⟩|hp0
     ·rw[hv0]at hv
      refine aX func126 call126 rfl (by simp[ntmps126]) ?_;simp only[ntmps126,results126]
      repeat' (first|(refine aE fun _ _=>?_)|refine zHg ?_|(refine zqn ?_ ?_<;>(intro h;first|(exfalso;omega)|(simp only[h,zT])))|(refine aL [] ?_;simp[go_sem,hp0,hle])|refine aI rfl (hv) (by simp) ?_|simp(disch:=omega) [go_sem,hp0,hle])
      all_goals(exfalso;omega)
     ·refine aX func126 call126 rfl (by simp[ntmps126]) ?_;simp only[ntmps126,results126]
      repeat' (first|(refine aE fun _ _=>?_)|refine zHg ?_|(refine zqn ?_ ?_<;>(intro h;first|(exfalso;omega)|(simp only[h,zT])))|(refine aL [] ?_;simp[go_sem,hp0,hle])|simp(disch:=omega) [go_sem,hp0,hle])
      all_goals(exfalso;omega)
    ·rcases key with⟨hp0,hv0⟩|hp0
     ·rw[hv0]at hv
      refine aX func126 call126 rfl (by simp[ntmps126]) ?_;simp only[ntmps126,results126]
      repeat' (first|(refine aE fun _ _=>?_)|refine zHg ?_|(refine aL [] ?_;simp[go_sem,hp0,hvw])|refine aI rfl (hv) (by simp) ?_|simp(disch:=omega) [go_sem,hp0,hvw])
     ·refine aX func126 call126 rfl (by simp[ntmps126]) ?_;simp only[ntmps126,results126]
      repeat' (first|(refine aE fun _ _=>?_)|refine zHg ?_|(refine aL [] ?_;simp[go_sem,hp0,hvw])|simp(disch:=omega) [go_sem,hp0,hvw])
theorem dIj (n:ByteArray) (a b:Tm):eT (.mk n [a,b])= .agg [.sc (.string n),.list false false [eT a,eT b]]:=by
 show AV.agg [.sc (.string n),.list false false ([a,b].map aP)]=_
 simp[jH]
theorem dIk (s:List Bd) (le fu:Bool) (hs:mB 1000000 s) (ng:Bool) (n:ByteArray) (a b:Tm) (hz:(Tm.mk n [a,b]).size<=1000000):ACall prog 125 [.list le fu (s.map jK),lV ⟨ng,.mk n [a,b]⟩] (fun r=>r=bl (rY s ⟨ng,.mk n [a,b]⟩)):=by
 have h1:=aS2 s le fu hs (.mk n [a,b]) hz
 have e:eU s (.mk n [a,b])= .mk n [eU s a,eU s b]:=by rw[aGm,if_neg (by simp),aGn];rfl
 rw[e]at h1
 simp only[dIj]at h1
 have h2:=yC (eU s a) (eU s b)
 have hz0:cS (eU s a) (eU s b)=0↔eU s a=eU s b:=B3 _ _
 have ec:rY s ⟨ng,.mk n [a,b]⟩=(decide (eU s a=eU s b)==ng):=rfl
 rw[ec]
 generalize eU s a=x at*
 generalize eU s b=y at*
 generalize cS x y=c at*
 by_cases hq:x=y
 ·rw[decide_eq_true hq]
  have hc:c=0:=hz0.2 hq
  clear hq hz0 ec e
  cases ng
  all_goals refine aX func125 call125 rfl (by simp[ntmps125]) ?_;simp only[ntmps125,results125]
  all_goals repeat' (first|(refine aE fun _ _=>?_)|refine zHg ?_|(refine aL [] ?_;simp[go_sem,hc])|refine aI rfl (h1) (by simp) ?_|refine bI rfl (h2) rfl (by simp) ?_|simp(disch:=omega) [go_sem,hc]|refine zDr 14 bA ?_|fail)
 ·rw[decide_eq_false hq]
  have hc: ¬c=0:=fun h=>hq (hz0.1 h)
  clear hq hz0 ec e
  cases ng
  all_goals refine aX func125 call125 rfl (by simp[ntmps125]) ?_;simp only[ntmps125,results125]
  all_goals repeat' (first|(refine aE fun _ _=>?_)|refine zHg ?_|(refine aL [] ?_;simp[go_sem,hc])|refine aI rfl (h1) (by simp) ?_|refine bI rfl (h2) rfl (by simp) ?_|simp(disch:=omega) [go_sem,hc]|refine zDr 14 bA ?_|fail)
theorem dIl: ∀t:Tm,t.size<=1000000->ACall prog 79 [eT t] (fun r=>r=eT t):=by
 refine fM fun t ih hsz=>?_
 obtain⟨s,ts⟩:=t
 simp only[cM]at ih
 rw[gV,cM]at hsz
 have hlen:=sS ts
 refine ACall.loose (x:= .agg [.sc (.string s),.list false (decide (ts.length=0)) (ts.map aP)]) rfl ?_
 refine aX func79 call79 rfl (by simp[ntmps79]) ?_;simp only[ntmps79,results79]
 repeat' (first|(refine aE fun _ _=>?_)|refine zHg ?_|simp(disch:=omega) [go_sem])
 refine bZ [2,3,10,11] [3,900] (fun i:Nat=> [(12,nt .i64 i)]) (fun i:Nat=>(3,⟨false,false,false,2,[.agg [.sc (.string s),if i=0 then .list false true []else .ref 900 0 i]],0⟩)::(if i=0 then[]else[(900,⟨true,false,false,2,(ts.take i).map aP,0⟩)])) (fun i:Nat=>ts.length - i) (fun i:Nat=>i<=ts.length) (0) (Le.sub4 rfl (by simp[go_sem])) ⟨?_⟩ ?_
 ·exact Nat.zero_le _
 intro i hi AA hAA;simp only[kL,Nat.reduceBEq,Nat.reduceEqDiff]
 have hln:(ts.take i).length=i:=by rw[List.length_take];omega
 by_cases hlt:i<ts.length
 ·have hu:=ih _ (List.getElem_mem hlt) (by have:=wK hlt;omega)
  have hnx:=hZ hlt
  by_cases h0:i=0
  ·subst h0
   repeat' (first|(refine aE fun _ _=>?_)|refine zHg ?_|refine bI rfl (hu) rfl (by simp) ?_|(refine(hAA.next (0+1) (Le.renSub [(21,900)] [(900,21)] (by simp[go_sem,hnx]) (by simp[go_sem,hnx]) (Le.sub4 rfl (by simp[go_sem,hnx]))) (by(try dsimp only);omega) ?_))|simp(disch:=omega) [go_sem,hlt]|refine zDr 4 bA ?_|fail)
   try any_goals omega
   exact⟨hlt⟩
  ·generalize ts.take i=A at*
   repeat' (first|(refine aE fun _ _=>?_)|refine zHg ?_|refine bI rfl (hu) rfl (by simp) ?_|(refine(hAA.next (i+1) (Le.sub4 rfl (by simp[go_sem,hnx,hln])) (by(try dsimp only);omega) ?_))|simp(disch:=omega) [go_sem,hlt,h0,hln]|refine zAo ?_|refine zDr 4 bA ?_|fail)
   try any_goals omega
   exact⟨hlt⟩
 ·obtain rfl:i=ts.length:=by omega
  rw[List.take_length]
  by_cases h0:ts.length=0
  ·obtain rfl:=List.eq_nil_of_length_eq_zero h0
   repeat' (first|(refine aE fun _ _=>?_)|refine zHg ?_|(refine aL [] ?_;simp[go_sem])|simp(disch:=omega) [go_sem])
  ·repeat' (first|(refine aE fun _ _=>?_)|refine zHg ?_|(refine aL [] ?_;simp[go_sem,h0])|simp(disch:=omega) [go_sem,h0])
set_option maxHeartbeats 4000000
theorem aAe {l:List Tm} {i:Nat} {x:Tm}:(l.map aP).set i (.agg [.sc (.string x.name),.list false false (x.args.map aP)])=(l.set i x).map aP:=by
 rw[List.map_set,jH]
theorem aS4 (f:FuncId) (cf:Tm->Tm->Int) (hp:Pre cf) (kd:Nat) (l:List Tm) (hl:l.length<=140737488355328) (hc: ∀x∈l,∀y∈l,ACall prog f [eT x,eT y] (fun r=>r=nt .i64 (cf x y))) (a b:Nat) (hab:a<=b) (hb:b<=l.length):
 MCall prog 159 [.ref 1000 0 l.length,nt .i64 a,nt .i64 b,.clo f []] [(1000,bP aP 2 kd l)] (fun r o'=> ∃l',(Keep l l' a b/\SrtOn cf l' a b)/\r= .tup []/\o'= [(1000,bP aP 2 kd l')]):=by
 refine dM func159 call159 rfl (by simp[ntmps159]) ?_;simp only[ntmps159,results159]
 repeat' (first|(refine aE fun _ _=>?_)|refine zHg ?_|simp(disch:=omega) [go_sem])
 refine bZ [0,1,2,3] [1000] (fun x:Nat×List Tm=> [(8,nt .i64 x.1)]) (fun x:Nat×List Tm=> [(1000,bP aP 2 kd x.2)]) (fun x:Nat×List Tm=>b - x.1) (fun x:Nat×List Tm=>a+1<=x.1/\(x.1<=b\/x.1=a+1)/\Keep l x.2 a b/\SrtOn cf x.2 a x.1) ((a+1,l)) (Le.sub4 rfl (by simp[go_sem])) ⟨?_⟩ ?_
 ·exact⟨Nat.le_refl _,.inr rfl,Keep.refl _ _ _,SrtOn.short (by omega)⟩
 intro⟨i,l1⟩ ⟨hi,hi2,hk,hs⟩ AA hAA;simp only[kL,Nat.reduceBEq,Nat.reduceEqDiff]
 dsimp only at*
 have hlen:=hk.len
 by_cases hib:i<b
 ·have hAB:=hAA
  repeat' (first|(refine aE fun _ _=>?_)|refine zHg ?_|(refine zqd ?_ ?_<;>(intro h;first|(exfalso;omega)|(simp only[h,zT])))|simp(disch:=omega) [go_sem])
  refine bZ [0,1,2,3,8] [1000] (fun x:Nat×List Tm=> [(9,nt .i64 x.1)]) (fun x:Nat×List Tm=> [(1000,bP aP 2 kd x.2)]) (fun x:Nat×List Tm=>x.1) (fun x:Nat×List Tm=>a<=x.1/\x.1<=i/\Keep l x.2 a b/\Sink cf x.2 a i x.1) ((i,l1)) (Le.sub4 rfl (by simp[go_sem])) ⟨?_⟩ ?_
  ·exact⟨by omega,Nat.le_refl _,hk,Sink.start hs⟩
  intro⟨j,l2⟩ ⟨hj,hj2,hk2,hsk⟩ AA hAA;simp only[kL,Nat.reduceBEq,Nat.reduceEqDiff]
  dsimp only at*
  have hlen2:=hk2.len
  by_cases hja:a<j
  ·obtain⟨j,rfl⟩: ∃j',j=j'+1:=⟨j - 1,by omega⟩
   have h1:j+1<l2.length:=by omega
   have h0:j<l2.length:=by omega
   have hu:=hc l2[j+1] (hk2.mem.1 (List.getElem_mem h1)) l2[j] (hk2.mem.1 (List.getElem_mem h0))
   have hsw:=(J3 h1 h0).symm
   by_cases hq:cf l2[j+1] l2[j]<0
   ·repeat' (first|(refine aE fun _ _=>?_)|refine zHg ?_|((first|refine zqd ?_ ?_|refine zdd ?_ ?_)<;>(intro h;first|(exfalso;omega)|(simp only[h,zT])))|refine bI rfl (hu) rfl (by simp) ?_|(refine(hAA.next ((j,lR l2 (j+1) j)) (Le.sub4 rfl (by simp[go_sem,aAe,hsw,-List.map_set])) (by(try dsimp only);omega) ?_))|simp(disch:=omega) [go_sem,h0,h1]|refine zAo ?_|refine zDr 15 bA ?_|fail)
    exact⟨⟨by omega,by omega,hk2.trans (bOp ⟨by omega,by omega⟩ ⟨by omega,by omega⟩),hsk.step (by omega) h1 (by omega) (List.getElem?_eq_getElem h1) (List.getElem?_eq_getElem h0) hq⟩⟩
   ·repeat' (first|(refine aE fun _ _=>?_)|refine zHg ?_|((first|refine zqd ?_ ?_|refine zdd ?_ ?_)<;>(intro h;first|(exfalso;omega)|(simp only[h,zT])))|refine bI rfl (hu) rfl (by simp) ?_|(refine(hAB.next ((i+1,l2)) (Le.sub4 rfl (by simp[go_sem])) (by(try dsimp only);omega) ?_))|simp(disch:=omega) [go_sem,h0,h1]|refine zAo ?_|refine zDr 15 bA ?_|fail)
    exact⟨⟨by omega,by omega,hk2,hsk.stop hp (by omega) (.inr fun x y hx hy=>by
     rw[List.getElem?_eq_getElem h1]at hx
     rw[Nat.add_sub_cancel,List.getElem?_eq_getElem h0]at hy
     cases hx;cases hy;exact hq)⟩⟩
  ·repeat' (first|(refine aE fun _ _=>?_)|refine zHg ?_|(refine zdd ?_ ?_<;>(intro h;first|(exfalso;omega)|(simp only[h,zT])))|(refine(hAB.next ((i+1,l2)) (Le.sub4 rfl (by simp[go_sem])) (by(try dsimp only);omega) ?_))|simp(disch:=omega) [go_sem]|refine zDr 15 bA ?_|fail)
   exact⟨⟨by omega,by omega,hk2,hsk.stop hp (by omega) (.inl (by omega))⟩⟩
 ·repeat' (first|(refine aE fun _ _=>?_)|refine zHg ?_|(refine zqd ?_ ?_<;>(intro h;first|(exfalso;omega)|(simp only[h,zT])))|simp(disch:=omega) [go_sem])
  refine eW ⟨53,[],[(1000,bP aP 2 kd l1)]⟩ [] (Le.renSub [] [] (by simp[go_sem]) (by simp[go_sem]) (Le.sub4 rfl (by simp[go_sem]))) (by simp[go_sem]) ⟨l1,⟨hk,hs.sub (Nat.le_refl _) (by omega)⟩,rfl,rfl⟩
theorem aGr (f:FuncId) (kd:Nat) (l:List Tm) (hl:l.length<=140737488355328) (a b n:Nat) (h1:a+n<=b) (h2:b+n<=l.length):
 MCall prog 194 [.ref 1000 0 l.length,nt .i64 a,nt .i64 b,nt .i64 n,.clo f []] [(1000,bP aP 2 kd l)] (fun r o'=>r= .tup []/\o'= [(1000,bP aP 2 kd (lS l a b n))]):=by
 refine dM func194 call194 rfl (by simp[ntmps194]) ?_;simp only[ntmps194,results194]
 repeat' (first|(refine aE fun _ _=>?_)|refine zHg ?_|simp(disch:=omega) [go_sem])
 refine bZ [0,1,2,3] [1000] (fun i:Nat=> [(10,nt .i64 i)]) (fun i:Nat=> [(1000,bP aP 2 kd (lS l a b i))]) (fun i:Nat=>n - i) (fun i:Nat=>i<=n) (0) (Le.sub4 rfl (by simp[go_sem,lS,List.range_zero,List.foldl_nil])) ⟨?_⟩ ?_
 ·exact Nat.zero_le _
 intro i hi AA hAA;simp only[kL,Nat.reduceBEq,Nat.reduceEqDiff]
 have hlen:=aEf l a b i
 have hs:=V0 l a b i
 generalize hg:lS l a b i=l1 at*
 by_cases hlt:i<n
 ·have ha:a+i<l1.length:=by omega
  have hb:b+i<l1.length:=by omega
  have e1:((a:Int)+i).toNat=a+i:=by omega
  have e2:((b:Int)+i).toNat=b+i:=by omega
  have hsw:=(J3 ha hb).symm
  rw[<-hsw]at hs
  repeat' (first|(refine aE fun _ _=>?_)|refine zHg ?_|(refine zqd ?_ ?_<;>(intro h;first|(exfalso;omega)|(simp only[h,zT])))|(refine(hAA.next (i+1) (Le.sub4 rfl (by simp[go_sem,aAe,hs,-List.map_set])) (by(try dsimp only);omega) ?_))|simp(disch:=omega) [go_sem,ha,hb,e1,e2]|refine zAo ?_|refine zDr 21 bA ?_|fail)
  exact⟨hlt⟩
 ·obtain rfl:i=n:=by omega
  subst hg
  repeat' (first|(refine aE fun _ _=>?_)|refine zHg ?_|simp(disch:=omega) [go_sem])
  refine eW ⟨38,[],[(1000,bP aP 2 kd (lS l a b i))]⟩ [] (Le.renSub [] [] (by simp[go_sem]) (by simp[go_sem]) (Le.sub4 rfl (by simp[go_sem]))) (by simp[go_sem]) ⟨rfl,rfl⟩
theorem aS5 (f:FuncId) (kd:Nat) (l:List Tm) (hl:l.length<=140737488355328) (a m b:Nat) (h1:a<m) (h2:m<b) (hb:b<=l.length):
 MCall prog 180 [.ref 1000 0 l.length,nt .i64 a,nt .i64 m,nt .i64 b,.clo f []] [(1000,bP aP 2 kd l)] (fun r o'=> ∃l',Rot l l' a m b/\r= .tup []/\o'= [(1000,bP aP 2 kd l')]):=by
 have g1:((m:Int) - a)=((m - a:Nat):Int):=by omega
 have g2:((b:Int) - m)=((b - m:Nat):Int):=by omega
 refine dM func180 call180 rfl (by simp[ntmps180]) ?_;simp only[ntmps180,results180]
 repeat' (first|(refine aE fun _ _=>?_)|refine zHg ?_|simp(disch:=omega) [go_sem])
 refine bZ [0,2,4] [1000] (fun x:Nat×Nat×List Tm=> [(10,nt .i64 x.1),(11,nt .i64 x.2.1)]) (fun x:Nat×Nat×List Tm=> [(1000,bP aP 2 kd x.2.2)]) (fun x:Nat×Nat×List Tm=>x.1+x.2.1) (fun x:Nat×Nat×List Tm=>1<=x.1/\1<=x.2.1/\RotS l x.2.2 a m b x.1 x.2.1) ((m - a,b - m,l)) (Le.sub4 rfl (by simp[go_sem,g1,g2])) ⟨?_⟩ ?_
 ·exact⟨by(try dsimp only);omega,by(try dsimp only);omega,RotS.start (by omega) (by omega) hb⟩
 intro⟨i,j,l1⟩ ⟨hi,hj,hs⟩ AA hAA;simp only[kL,Nat.reduceBEq,Nat.reduceEqDiff]
 dsimp only at*
 have q1:=hs.hi
 have q2:=hs.hi2
 have q3:=hs.hj
 have hlen:=hs.len
 have hbl:=hs.hb
 have e1:((m:Int) - i)=((m - i:Nat):Int):=by omega
 by_cases hij:i=j
 ·subst hij
  have hc:=aGr f kd l1 (by omega) (m - i) m i (by omega) (by omega)
  rw[hlen]at hc
  repeat' (first|(refine aE fun _ _=>?_)|refine zHg ?_|simp(disch:=omega) [go_sem])
  refine bO [] [] 10000 _ _ (Fits.mk' (by simp[go_sem,e1]) (by simp[go_sem,e1])) (by simp[go_sem,e1]) (by simp[go_sem,e1]) (hc) (by simp[go_sem,e1]) (by simp[go_sem,e1]) ?_
  repeat' (first|(refine aE fun _ _=>?_)|refine zHg ?_|simp(disch:=omega) [go_sem])
  refine eW ⟨58,[],[(1000,bP aP 2 kd (lS l1 (m - i) m i))]⟩ [] (Le.renSub [] [] (by simp[go_sem]) (by simp[go_sem]) (Le.sub4 rfl (by simp[go_sem]))) (by simp[go_sem]) ⟨_,hs.done,rfl,rfl⟩
 ·by_cases hgt:j<i
  ·have hc:=aGr f kd l1 (by omega) (m - i) m j (by omega) (by omega)
   rw[hlen]at hc
   have e2:((i:Int) - j)=((i - j:Nat):Int):=by omega
   repeat' (first|(refine aE fun _ _=>?_)|refine zHg ?_|((first|refine zqd ?_ ?_|refine zqn ?_ ?_)<;>(intro h;first|(exfalso;omega)|(simp only[h,zT])))|simp(disch:=omega) [go_sem])
   try any_goals omega
   refine bO [] [] 10000 _ _ (Fits.mk' (by simp[go_sem,e1]) (by simp[go_sem,e1])) (by simp[go_sem,e1]) (by simp[go_sem,e1]) (hc) (by simp[go_sem,e1]) (by simp[go_sem,e1]) ?_
   repeat' (first|(refine aE fun _ _=>?_)|refine zHg ?_|(refine(hAA.next ((i - j,j,lS l1 (m - i) m j)) (Le.sub4 rfl (by simp[go_sem,e2])) (by(try dsimp only);omega) ?_))|simp(disch:=omega) [go_sem])
   exact⟨⟨by omega,by omega,hs.gt hgt⟩⟩
  ·have hc:=aGr f kd l1 (by omega) (m - i) (m+j - i) i (by omega) (by omega)
   rw[hlen]at hc
   have e2:((j:Int) - i)=((j - i:Nat):Int):=by omega
   have e3:((m:Int)+j - i)=((m+j - i:Nat):Int):=by omega
   repeat' (first|(refine aE fun _ _=>?_)|refine zHg ?_|((first|refine zqd ?_ ?_|refine zqn ?_ ?_)<;>(intro h;first|(exfalso;omega)|(simp only[h,zT])))|simp(disch:=omega) [go_sem])
   try any_goals omega
   refine bO [] [] 10000 _ _ (Fits.mk' (by simp[go_sem,e1,e3]) (by simp[go_sem,e1,e3])) (by simp[go_sem,e1,e3]) (by simp[go_sem,e1,e3]) (hc) (by simp[go_sem,e1,e3]) (by simp[go_sem,e1,e3]) ?_
   repeat' (first|(refine aE fun _ _=>?_)|refine zHg ?_|(refine(hAA.next ((i,j - i,lS l1 (m - i) (m+j - i) i)) (Le.sub4 rfl (by simp[go_sem,e2])) (by(try dsimp only);omega) ?_))|simp(disch:=omega) [go_sem])
   exact⟨⟨hi,show 1<=j - i by omega,hs.lt (by omega)⟩⟩
end Go.Proofs.YtgmibdiofkmmbaaGreatDoor
