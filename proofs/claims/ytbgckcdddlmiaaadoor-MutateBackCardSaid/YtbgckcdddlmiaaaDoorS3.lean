import Derived.Test.YtbgckcdddlmiaaaDoorS2
import Derived.Test.YtbgckcdddlmiaaaDoorA5
import Derived.Test.YtbgckcdddlmiaaaDoorS1
set_option linter.unusedSimpArgs false
set_option linter.unusedVariables false
open Go.Proofs.Tryd
namespace Go.Proofs.YtbgckcdddlmiaaaDoor
open Go.Ab
set_option maxRecDepth 100000
def pG (l:List Tm):Prop:=l.Pairwise fun a b=>cT a b<0
theorem aCs {a b c:Tm} (h:cT a b<0) (k:cT b c≤0):cT a c<0:=by
 have:=L7 a b c (by omega) k
 omega
theorem bUp {a b c:Tm} (h:cT a b≤0) (k:cT b c<0):cT a c<0:=by
 have:=L7 a b c h (by omega)
 omega
theorem bUq:Pre cT:=⟨fun x y z h k=>(L7 x y z h k).1,fun x y h=>by rw[zJ x y];omega⟩
theorem aCt: ∀{a b:List Tm},pG a→pG b→(∀t,t∈a↔t∈b)→a=b
 | [],[],_,_,_=>rfl
 | [],u::r,_,_,h=>absurd ((h u).2 List.mem_cons_self) (by simp)
 |t::q,[],_,_,h=>absurd ((h t).1 List.mem_cons_self) (by simp)
 |t::q,u::r,ha,hb,h=>by
  obtain⟨a1,a2⟩:=List.pairwise_cons.1 ha
  obtain⟨b1,b2⟩:=List.pairwise_cons.1 hb
  have htu:t=u:=by
   rcases List.mem_cons.1 ((h t).1 List.mem_cons_self)with e|e
   ·exact e
   ·rcases List.mem_cons.1 ((h u).2 List.mem_cons_self)with e2|e2
    ·exact e2.symm
    ·have h1:=a1 _ e2
     have h2:=b1 _ e
     rw[zJ t u]at h2
     omega
  subst htu
  congr 1
  refine aCt a2 b2 fun x=>?_
  constructor
  ·intro hx
   rcases List.mem_cons.1 ((h x).1 (List.mem_cons_of_mem _ hx))with e|e
   ·subst e;have:=a1 _ hx;rw[vX]at this;omega
   ·exact e
  ·intro hx
   rcases List.mem_cons.1 ((h x).2 (List.mem_cons_of_mem _ hx))with e|e
   ·subst e;have:=b1 _ hx;rw[vX]at this;omega
   ·exact e
def nC (t:Tm):List Tm→List Tm
 | []=> [t]
 |u::r=>if cT u t<0 then u::nC t r else if cT u t=0 then u::r else t::u::r
def rN (l:List Tm):List Tm:=l.foldl (fun o t=>nC t o) []
theorem L8 {t x:Tm}: ∀{o:List Tm},x∈nC t o↔x=t∨x∈o
 | []=>by simp[nC]
 |u::r=>by
  unfold nC
  split
  ·simp only[List.mem_cons,L8 (o:=r)]
   constructor<;>(intro h;rcases h with h|h|h<;>simp[h])
  ·split
   ·rename_i h0
    have:u=t:=(vW _ _).1 h0
    subst this
    simp
   ·simp only[List.mem_cons]
theorem aCu {t:Tm}: ∀{o:List Tm},pG o→pG (nC t o)
 | [],_=>by simp[nC,pG]
 |u::r,h=>by
  obtain⟨h1,h2⟩:=List.pairwise_cons.1 h
  unfold nC
  split
  ·rename_i hu
   refine List.pairwise_cons.2 ⟨fun x hx=>?_,aCu h2⟩
   rcases L8.1 hx with e|e
   ·rw[e];exact hu
   ·exact h1 x e
  ·split
   ·exact h
   ·rename_i n1 n2
    have hut:cT t u<0:=by rw[zJ u t];omega
    refine List.pairwise_cons.2 ⟨fun x hx=>?_,h⟩
    rcases List.mem_cons.1 hx with e|e
    ·rw[e];exact hut
    ·exact aCs hut (Int.le_of_lt (h1 x e))
theorem L9: ∀(l o:List Tm),pG o→pG (l.foldl (fun o t=>nC t o) o)∧ ∀x,x∈l.foldl (fun o t=>nC t o) o↔x∈l∨x∈o
 | [],o,h=>⟨h,fun x=>by simp⟩
 |t::r,o,h=>by
  obtain⟨h1,h2⟩:=L9 r (nC t o) (aCu h)
  refine⟨h1,fun x=>?_⟩
  rw[List.foldl_cons,h2,L8,List.mem_cons]
  constructor
  ·rintro(a|a|a)<;>simp[a]
  ·rintro((a|a)|a)<;>simp[a]
theorem aCv (l:List Tm):pG (rN l):=(L9 l [] List.Pairwise.nil).1
theorem aCw (l:List Tm) (x:Tm):x∈rN l↔x∈l:=by
 have:=(L9 l [] List.Pairwise.nil).2 x
 simpa[rN]using this
def lM (l:List Tm):Nat→List Tm
 |0=> []
 |i+1=>match l[i]? with
  |some t=>if i=0∨cT (l.getD (i - 1) t) t≠0 then lM l i++ [t]else lM l i
  |none=>lM l i
theorem aCx {l:List Tm} {i:Nat} (h:i<l.length):lM l (i+1)=if i=0∨cT (l.getD (i - 1) l[i]) l[i]≠0 then lM l i++ [l[i]]else lM l i:=by
 rw[lM,List.getElem?_eq_getElem h]
theorem aCy {l:List Tm} (hs:SrtOn cT l 0 l.length): ∀i,i≤l.length→pG (lM l i)∧ ∀x,x∈lM l i↔x∈l.take i
 |0,_=>⟨List.Pairwise.nil,fun x=>by simp[lM]⟩
 |i+1,hi=>by
  have hlt:i<l.length:=by omega
  obtain⟨h1,h2⟩:=aCy hs i (by omega)
  rw[aCx hlt,iX hlt]
  split
  ·rename_i hc
   refine⟨List.pairwise_append.2 ⟨h1,by simp,fun x hx y hy=>?_⟩,fun x=>by simp only[List.mem_append,List.mem_singleton,h2]⟩
   simp only[List.mem_singleton]at hy
   subst hy
   rcases hc with rfl|hc
   ·simp[lM]at hx
   ·rw[h2,List.mem_take_iff_getElem]at hx
    obtain⟨k,hk,rfl⟩:=hx
    have hi0:i - 1<l.length:=by omega
    have hd:l.getD (i - 1) l[i]=l[i - 1]:=by rw[List.getD_eq_getElem?_getD,List.getElem?_eq_getElem hi0];rfl
    rw[hd]at hc
    have h3:=hs (i - 1) i _ _ (Nat.zero_le _) (by omega) hlt (List.getElem?_eq_getElem hi0) (List.getElem?_eq_getElem hlt)
    have h4:cT l[k] l[i - 1]≤0:=by
     by_cases e:k=i - 1
     ·subst e;rw[vX];exact Int.le_refl _
     ·exact hs k (i - 1) _ _ (Nat.zero_le _) (by omega) hi0 (List.getElem?_eq_getElem (by omega)) (List.getElem?_eq_getElem hi0)
    exact bUp h4 (by omega)
  ·rename_i hc
   simp only[not_or,Decidable.not_not]at hc
   refine⟨h1,fun x=>?_⟩
   rw[h2]
   simp only[List.mem_append,List.mem_singleton]
   constructor
   ·exact .inl
   ·rintro(h|rfl)
    ·exact h
    ·have hi0:i - 1<l.length:=by omega
     have hd:l.getD (i - 1) l[i]=l[i - 1]:=by rw[List.getD_eq_getElem?_getD,List.getElem?_eq_getElem hi0];rfl
     rw[hd]at hc
     have e:=(vW _ _).1 hc.2
     rw[←e,List.mem_take_iff_getElem]
     exact⟨i - 1,by omega,rfl⟩
theorem bUr {l m:List Tm} (hp:m.Perm l) (hs:SrtOn cT m 0 l.length):lM m m.length=rN l:=by
 rw[←hp.length_eq]at hs
 obtain⟨h1,h2⟩:=aCy hs m.length (Nat.le_refl _)
 refine aCt h1 (aCv l) fun x=>?_
 rw[h2,List.take_length,aCw,hp.mem_iff]
instance:DecidableEq Tm:=fun a b=>decidable_of_iff (mK a b=true) (qM a b)
def qN (c:Int→Bool) (s:ByteArray):Nat→Nat→Nat
 |0,i=>i
 |k+1,i=>if i<s.size∧c (bt s i)=true then qN c s k (i+1)else i
def jQ (c:Int→Bool) (s:ByteArray) (i:Nat):Nat:=qN c s (s.size - i) i
theorem M0 {c s} {i:Nat} (h:i<s.size) (hc:c (bt s i)=true):jQ c s i=jQ c s (i+1):=by
 unfold jQ
 rw[show s.size - i=(s.size - (i+1))+1 by omega,qN,if_pos ⟨h,hc⟩]
theorem zK {c s} {i:Nat} (h: ¬(i<s.size∧c (bt s i)=true)):jQ c s i=i:=by
 unfold jQ
 cases s.size - i with
 |zero=>rfl
 |succ k=>rw[qN,if_neg h]
theorem aCz {c s}: ∀k i,i≤qN c s k i
 |0,i=>Nat.le_refl i
 |k+1,i=>by
  unfold qN
  split
  ·exact Nat.le_trans (Nat.le_succ i) (aCz k (i+1))
  ·exact Nat.le_refl i
theorem M1 {c s i}:i≤jQ c s i:=aCz _ _
theorem aC0 {c} {s:ByteArray}: ∀k i,i≤s.size→qN c s k i≤s.size
 |0,i,h=>h
 |k+1,i,h=>by
  unfold qN
  split
  ·exact aC0 k (i+1) (by omega)
  ·exact h
theorem aC1 {c} {s:ByteArray} {i:Nat} (h:i≤s.size):jQ c s i≤s.size:=aC0 _ _ h
def zL (c:Int):Bool:=decide (c=32)||decide (c=10)
def mL (c:Int):Bool:=decide (c=45)||(decide (48≤c)&&decide (c≤57))||(decide (97≤c)&&decide (c≤122))||(decide (65≤c)&&decide (c≤90))
def iZ (s:ByteArray) (i:Nat):Nat:=jQ zL s i
def aK (s:ByteArray) (i:Nat):Nat:=jQ mL s (iZ s i)
def bH (s:ByteArray) (i:Nat):ByteArray:=s.extract (iZ s i) (aK s i)
def cN (s:ByteArray) (c:Int) (i:Nat):Bool:=decide (iZ s i<s.size)&&decide (bt s (iZ s i)=c)
def aM (s:ByteArray) (c:Int) (i:Nat):Nat:=if cN s c i=true then iZ s i+1 else iZ s i
theorem tE {s i}:i≤iZ s i:=M1
theorem kK {s i}:i≤aK s i:=Nat.le_trans tE M1
theorem pH {s c i}:i≤aM s c i:=by
 unfold aM;split
 ·exact Nat.le_succ_of_le tE
 ·exact tE
theorem zM {s:ByteArray} {i:Nat} (h:i≤s.size):iZ s i≤s.size:=aC1 h
theorem kM {s:ByteArray} {i:Nat} (h:i≤s.size):aK s i≤s.size:=aC1 (zM h)
theorem pI {s:ByteArray} {c:Int} {i:Nat} (h:i≤s.size):aM s c i≤s.size:=by
 unfold aM;split
 ·rename_i hb
  unfold cN at hb
  simp only[Bool.and_eq_true,decide_eq_true_eq]at hb
  omega
 ·exact zM h
theorem tF {s c i} (h:cN s c i=true):i<aM s c i:=by
 unfold aM;rw[if_pos h];exact Nat.lt_succ_of_le tE
theorem aC2 {s:ByteArray} {c:Int} {i:Nat} (h:cN s c i=true):i<s.size:=by
 unfold cN at h
 simp only[Bool.and_eq_true,decide_eq_true_eq]at h
 exact Nat.lt_of_le_of_lt tE h.1
mutual
def jR (s:ByteArray):Nat→ByteArray→Nat→Tm×Nat
 |0,w,i=>(.mk w [],i)
 |f+1,w,i=>if cN s 40 i=true then
  (.mk w (kN s f [] (aM s 40 i)).1,aM s 41 (kN s f [] (aM s 40 i)).2)
  else(.mk w [],aM s 40 i)
def kN (s:ByteArray):Nat→List Tm→Nat→List Tm×Nat
 |0,a,i=>(a,i)
 |f+1,a,i=>if i<s.size then
  if cN s 44 (jR s f (bH s i) (aK s i)).2=true then kN s f (a++ [(jR s f (bH s i) (aK s i)).1]) (aM s 44 (jR s f (bH s i) (aK s i)).2)
  else(a++ [(jR s f (bH s i) (aK s i)).1],aM s 44 (jR s f (bH s i) (aK s i)).2)
  else(a,i)
end
theorem zN (s:ByteArray): ∀f,(∀w i,i≤(jR s f w i).2)∧(∀a i,i≤(kN s f a i).2)
 |0=>⟨fun _ _=>Nat.le_refl _,fun _ _=>Nat.le_refl _⟩
 |f+1=>by
  obtain⟨h1,h2⟩:=zN s f
  constructor
  ·intro w i
   unfold jR
   split
   ·exact Nat.le_trans pH (Nat.le_trans (h2 [] _) pH)
   ·exact pH
  ·intro a i
   unfold kN
   split
   ·split
    ·exact Nat.le_trans kK (Nat.le_trans (h1 _ _) (Nat.le_trans pH (h2 _ _)))
    ·exact Nat.le_trans kK (Nat.le_trans (h1 _ _) pH)
   ·exact Nat.le_refl _
theorem aC3 (s:ByteArray): ∀f,(∀w i,i≤s.size→(jR s f w i).2≤s.size)∧(∀a i,i≤s.size→(kN s f a i).2≤s.size)
 |0=>⟨fun _ _ h=>h,fun _ _ h=>h⟩
 |f+1=>by
  obtain⟨h1,h2⟩:=aC3 s f
  constructor
  ·intro w i h
   unfold jR
   split
   ·exact pI (h2 [] _ (pI h))
   ·exact pI h
  ·intro a i h
   unfold kN
   split
   ·split
    ·exact h2 _ _ (pI (h1 _ _ (kM h)))
    ·exact pI (h1 _ _ (kM h))
   ·exact h
theorem vY (s:ByteArray): ∀f f',(∀w i,2*(s.size - i)<f→2*(s.size - i)<f'→jR s f w i=jR s f' w i)∧(∀a i,2*(s.size - i)+1<f→2*(s.size - i)+1<f'→kN s f a i=kN s f' a i)
 |0,_=>⟨fun _ _ h=>absurd h (Nat.not_lt_zero _),fun _ _ h=>absurd h (Nat.not_lt_zero _)⟩
 |_+1,0=>⟨fun _ _ _ h=>absurd h (Nat.not_lt_zero _),fun _ _ _ h=>absurd h (Nat.not_lt_zero _)⟩
 |f+1,f'+1=>by
  obtain⟨h1,h2⟩:=vY s f f'
  constructor
  ·intro w i ha hb
   unfold jR
   split
   ·rename_i hs
    have:=tF hs
    have:=aC2 hs
    rw[h2 [] (aM s 40 i) (by omega) (by omega)]
   ·rfl
  ·intro a i ha hb
   unfold kN
   split
   ·rename_i hi
    have hw:=kK (s:=s) (i:=i)
    rw[h1 (bH s i) (aK s i) (by omega) (by omega)]
    split
    ·rename_i hs
     have:=tF hs
     have:=(zN s f').1 (bH s i) (aK s i)
     exact h2 _ _ (by omega) (by omega)
    ·rfl
   ·rfl
def cJ (s:ByteArray) (w:ByteArray) (i:Nat):Tm×Nat:=jR s (2*s.size+2) w i
def iB (s:ByteArray) (a:List Tm) (i:Nat):List Tm×Nat:=kN s (2*s.size+2) a i
theorem rO {s w i} (h:cN s 40 i=false):cJ s w i=(.mk w [],aM s 40 i):=by
 unfold cJ;rw[jR,if_neg (by simp[h])]
theorem rP {s w i} (h:cN s 40 i=true):cJ s w i=(.mk w (iB s [] (aM s 40 i)).1,aM s 41 (iB s [] (aM s 40 i)).2):=by
 unfold cJ iB
 have:=tF h
 have:=aC2 h
 rw[jR,if_pos h,(vY s (2*s.size+1) (2*s.size+2)).2 [] _ (by omega) (by omega)]
theorem bUs {s:ByteArray} {a:List Tm} {i:Nat} (h: ¬i<s.size):iB s a i=(a,i):=by
 unfold iB;rw[kN,if_neg h]
theorem rQ {s:ByteArray} {a:List Tm} {i:Nat} (h:i<s.size) (hs:cN s 44 (cJ s (bH s i) (aK s i)).2=false):iB s a i=(a++ [(cJ s (bH s i) (aK s i)).1],aM s 44 (cJ s (bH s i) (aK s i)).2):=by
 unfold iB
 have hw:=kK (s:=s) (i:=i)
 rw[kN,if_pos h,(vY s (2*s.size+1) (2*s.size+2)).1 (bH s i) (aK s i) (by omega) (by omega)]
 rw[←cJ,if_neg (by simp[hs])]
theorem bUt {s:ByteArray} {a:List Tm} {i:Nat} (h:i<s.size) (hs:cN s 44 (cJ s (bH s i) (aK s i)).2=true):iB s a i=iB s (a++ [(cJ s (bH s i) (aK s i)).1]) (aM s 44 (cJ s (bH s i) (aK s i)).2):=by
 have hw:=kK (s:=s) (i:=i)
 have h3:i≤(cJ s (bH s i) (aK s i)).2:=Nat.le_trans hw ((zN s _).1 _ _)
 have h4:=tF hs
 unfold iB
 rw[kN,if_pos h,(vY s (2*s.size+1) (2*s.size+2)).1 (bH s i) (aK s i) (by omega) (by omega)]
 rw[←cJ,if_pos hs,(vY s (2*s.size+1) (2*s.size+2)).2 _ _ (by omega) (by omega)]
theorem rR {s w i}:i≤(cJ s w i).2:=(zN s _).1 w i
theorem tG {s:ByteArray} {w i} (h:i≤s.size):(cJ s w i).2≤s.size:=(aC3 s _).1 w i h
open Go.Ab
set_option maxRecDepth 100000
structure Bd where
 v:ByteArray
 t:Tm
abbrev vZ (x:Bd):AV:= .agg [.sc (.string x.v),.sc (.string x.t.name),.list false false (x.t.args.map aL)]
structure Lt where
 neg:Bool
 atom:Tm
abbrev bT (x:Lt):AV:= .agg [bl x.neg,.sc (.string x.atom.name),.list false false (x.atom.args.map aL)]
structure Rl where
 head:Tm
 body:List Lt
abbrev bZ (x:Rl):AV:= .agg [.sc (.string x.head.name),.list false false (x.head.args.map aL),.list false false (x.body.map bT)]
def lN (t:Tm):Bool:=decide (t.args.length=0)&&(decide (t.name.size≠0)&&(decide (65≤bt t.name 0)&&decide (bt t.name 0≤90)))
mutual
def eA:Tm→ByteArray
 | .mk n ts=>iM (n++⟨#[40]⟩) ts++⟨#[41]⟩
def iM:ByteArray→List Tm→ByteArray
 |a,[]=>a
 |a,t::ts=>iM (a++(eA t++⟨#[44]⟩)) ts
end
mutual
def eN:Tm→Nat
 | .mk n ts=>n.size+2+dR ts
def dR:List Tm→Nat
 | []=>0
 |t::ts=>eN t+1+dR ts
end
theorem tH {n:ByteArray} {ts:List Tm}:eN (.mk n ts)=n.size+2+dR ts:=by rw[eN]
theorem wA (a b:ByteArray):(a++b).size=a.size+b.size:=ByteArray.size_append
theorem M2: ∀{ts:List Tm} {a:ByteArray},(∀t∈ts,(eA t).size=eN t)→(iM a ts).size=a.size+dR ts
 | [],a,_=>by simp[iM,dR]
 |t::ts,a,h=>by
  rw[iM,M2 fun u hu=>h u (by simp[hu]),wA,wA,h t (by simp),dR]
  have:(⟨#[44]⟩:ByteArray).size=1:=rfl
  omega
theorem aC4: ∀t:Tm,(eA t).size=eN t:=by
 refine fX fun t ih=>?_
 obtain⟨n,ts⟩:=t
 simp only[cS]at ih
 rw[eA,wA,M2 ih,wA,tH]
 have h1:(⟨#[40]⟩:ByteArray).size=1:=rfl
 have h2:(⟨#[41]⟩:ByteArray).size=1:=rfl
 omega
theorem aC5: ∀{ts us:List Tm} {a:ByteArray},iM a (ts++us)=iM (iM a ts) us
 | [],_,_=>rfl
 |t::ts,us,a=>by rw[List.cons_append,iM,iM,aC5]
theorem bUu {ts:List Tm} {a:ByteArray} {i:Nat} (h:i<ts.length):iM a (ts.take (i+1))=iM a (ts.take i)++(eA ts[i]++⟨#[44]⟩):=by
 rw[iX h,aC5];rfl
theorem aC6: ∀{a b:List Tm},dR (a++b)=dR a+dR b
 | [],b=>by simp[dR]
 |t::r,b=>by rw[List.cons_append,dR,dR,aC6];omega
theorem bUv {ts:List Tm} {i:Nat}:dR (ts.take i)≤dR ts:=by
 have:=aC6 (a:=ts.take i) (b:=ts.drop i)
 rw[List.take_append_drop]at this;omega
theorem aC7: ∀{ts:List Tm} {t:Tm},t∈ts→eN t+1≤dR ts
 |u::r,t,h=>by
  rcases List.mem_cons.1 h with rfl|h
  ·rw[dR];omega
  ·have:=aC7 h;rw[dR];omega
def jS (s:List Bd) (n:ByteArray):Option Tm:=(s.find? fun b=>decide (b.v=n)).map Bd.t
def rS (s:List Bd) (n:ByteArray) (t:Tm):Option Tm→List Bd×Bool
 |some u=>(s,decide (u=t))
 |none=>(s++ [⟨n,t⟩],true)
def rT (t:Tm):Option Tm→Tm×Bool
 |some u=>(u,true)
 |none=>(t,false)
def aC8 (n:ByteArray) (ts:List Tm):Option (List Tm)→Tm×Bool
 |some l=>(.mk n l,true)
 |none=>(.mk n ts,false)
mutual
def dW:Tm→Tm→List Bd→List Bd×Bool
 | .mk n ps,t,s=>if lN (.mk n ps)=true then rS s n t (jS s n)else if n=t.name∧ps.length=t.args.length then iN ps t.args s else([],false)
def iN:List Tm→List Tm→List Bd→List Bd×Bool
 | [],_,s=>(s,true)
 |_::_,[],s=>(s,true)
 |p::ps,t::ts,s=>if(dW p t s).2=true then iN ps ts (dW p t s).1 else dW p t s
end
theorem M3 {n:ByteArray} {ps:List Tm} {t:Tm} {s:List Bd}:dW (.mk n ps) t s=if lN (.mk n ps)=true then rS s n t (jS s n)else if n=t.name∧ps.length=t.args.length then iN ps t.args s else([],false):=by rw[dW]
theorem M4 {p:Tm} {ps:List Tm} {t:Tm} {ts:List Tm} {s:List Bd}:iN (p::ps) (t::ts) s=if(dW p t s).2=true then iN ps ts (dW p t s).1 else dW p t s:=by rw[iN]
theorem M5 {ts:List Tm} {s:List Bd}:iN [] ts s=(s,true):=by rw[iN]
mutual
def fC:Tm→List Bd→Tm×Bool
 | .mk n ts,s=>if lN (.mk n ts)=true then rT (.mk n ts) (jS s n)else aC8 n ts (jA ts s)
def jA:List Tm→List Bd→Option (List Tm)
 | [],_=>some []
 |t::ts,s=>if(fC t s).2=true then(jA ts s).map fun l=>(fC t s).1::l else none
end
theorem aC9 {n:ByteArray} {ts:List Tm} {s:List Bd}:fC (.mk n ts) s=if lN (.mk n ts)=true then rT (.mk n ts) (jS s n)else aC8 n ts (jA ts s):=by rw[fC]
theorem M6 {t:Tm} {ts:List Tm} {s:List Bd}:jA (t::ts) s=if(fC t s).2=true then(jA ts s).map fun l=>(fC t s).1::l else none:=by rw[jA]
theorem zO {s:List Bd}:jA [] s=some []:=by rw[jA]
theorem M7: ∀{ts:List Tm} {s:List Bd} {l:List Tm},jA ts s=some l→l.length=ts.length
 | [],s,l,h=>by rw[zO]at h;obtain rfl:=Option.some.inj h;rfl
 |t::ts,s,l,h=>by
  rw[M6]at h
  split at h
  ·cases hq:jA ts s with
   |none=>rw[hq]at h;cases h
   |some m=>
    rw[hq]at h
    obtain rfl:=Option.some.inj h
    simp[M7 hq]
  ·cases h
mutual
def dK (q M:Nat):Tm→Prop
 | .mk n ts=>n.size≤M∧ts.length≤q∧nV q M ts
def nV (q M:Nat):List Tm→Prop
 | []=>True
 |t::ts=>dK q M t∧nV q M ts
end
theorem nW {q M:Nat} {n:ByteArray} {ts:List Tm}:dK q M (.mk n ts)↔n.size≤M∧ts.length≤q∧nV q M ts:=by rw[dK]
theorem rU {q M:Nat}: ∀{l:List Tm},nV q M l↔ ∀t∈l,dK q M t
 | []=>by simp[nV]
 |t::r=>by rw[nV,rU];simp
def KB (q M:Nat):Nat→Nat
 |0=>0
 |k+1=>M+2+q*(KB q M k+1)
theorem aDa {b:Nat}: ∀{l:List Tm},(∀t∈l,eN t≤b)→dR l≤l.length*(b+1)
 | [],_=>by simp[dR]
 |t::r,h=>by
  have h1:=h t (by simp)
  have h2:=aDa (b:=b) (l:=r) fun u hu=>h u (by simp[hu])
  rw[dR,List.length_cons,Nat.succ_mul];omega
theorem M8 {n:ByteArray} {ts:List Tm} {t:Tm} (h:t∈ts):t.depth+1≤(Tm.mk n ts).depth:=by
 rw[nU (.mk n ts),cS]
 have: ∀{l:List Tm},t∈l→t.depth≤dV l:=by
  intro l
  induction l with
  |nil=>intro h;simp at h
  |cons u r ih=>
   intro h
   rw[dV]
   rcases List.mem_cons.1 h with rfl|h
   ·omega
   ·have:=ih h;omega
 have:=this h
 omega
theorem M9 {q M:Nat}: ∀{k:Nat} {t:Tm},dK q M t→t.depth≤k→eN t≤KB q M k
 |0,t,_,h=>by rw[nU]at h;omega
 |k+1,.mk n ts,h,hd=>by
  obtain⟨h1,h2,h3⟩:=nW.1 h
  have h4:=aDa (b:=KB q M k) (l:=ts) fun t ht=>M9 (rU.1 h3 t ht) (by have:=M8 (n:=n) ht;omega)
  have h5:ts.length*(KB q M k+1)≤q*(KB q M k+1):=Nat.mul_le_mul_right _ h2
  rw[tH,KB];omega
theorem bUw {q M:Nat}: ∀{t:Tm},dK q M t→eN t≤t.size*(M+3):=by
 have key: ∀t:Tm,dK q M t→eN t+1≤t.size*(M+3):=by
  refine fX fun t ih h=>?_
  obtain⟨n,ts⟩:=t
  simp only[cS]at ih
  obtain⟨h1,h2,h3⟩:=nW.1 h
  have: ∀{l:List Tm},(∀t∈l,eN t+1≤t.size*(M+3))→dR l≤cE l*(M+3):=by
   intro l
   induction l with
   |nil=>intro _;simp[dR]
   |cons u r ih=>
    intro h
    have a:=h u (by simp)
    have b:=ih fun v hv=>h v (by simp[hv])
    rw[dR,cE,Nat.add_mul];omega
  have h4:=this fun t ht=>ih t ht (rU.1 h3 t ht)
  rw[tH,iK,cS,Nat.add_mul];omega
 exact fun {t} h=>by have:=key t h;omega
def lO (q M:Nat) (s:List Bd):Prop:= ∀b∈s,dK q M b.t∧b.t.depth≤3
theorem bUx {q M:Nat} {s:List Bd} (h:lO q M s) {n:ByteArray} {u:Tm} (hu:jS s n=some u):dK q M u∧u.depth≤3:=by
 unfold jS at hu
 cases hf:s.find? fun b=>decide (b.v=n)with
 |none=>rw[hf]at hu;cases hu
 |some b=>
  rw[hf]at hu
  obtain rfl:=Option.some.inj hu
  exact h b (List.mem_of_find?_eq_some hf)
theorem aDb {q M:Nat}: ∀(p t:Tm) (s:List Bd),dK q M t→t.depth≤4→(lN p=true→t.depth≤3)→lO q M s→lO q M (dW p t s).1∧(dW p t s).1.length≤s.length+p.size:=by
 have key: ∀p:Tm,∀(t:Tm) (s:List Bd),dK q M t→t.depth≤4→(lN p=true→t.depth≤3)→lO q M s→lO q M (dW p t s).1∧(dW p t s).1.length≤s.length+p.size:=by
  refine fX fun p ih t s ht hd h3 hs=>?_
  obtain⟨n,ps⟩:=p
  simp only[cS]at ih
  rw[M3]
  have hp:=rL (.mk n ps)
  split
  ·rename_i hu
   cases jS s n with
   |some u=>exact⟨hs,by show s.length≤_;omega⟩
   |none=>
    show lO q M (s++ [⟨n,t⟩])∧(s++ [⟨n,t⟩]:List Bd).length≤_
    refine⟨fun b hb=>?_,by(try simp);omega⟩
    rcases List.mem_append.1 hb with hb|hb
    ·exact hs b hb
    ·obtain rfl:=List.mem_singleton.1 hb
     exact⟨ht,h3 hu⟩
  ·split
   ·obtain⟨m,ts⟩:=t
    simp only[cS]
    have hts:=rU.1 (nW.1 ht).2.2
    have hdt: ∀t∈ts,t.depth≤3:=fun t h=>by have:=M8 (n:=m) h;omega
    rw[iK,cS]
    have: ∀(ps ts:List Tm) (s:List Bd),(∀p∈ps,∀(t:Tm) (s:List Bd),dK q M t→t.depth≤4→(lN p=true→t.depth≤3)→lO q M s→lO q M (dW p t s).1∧(dW p t s).1.length≤s.length+p.size)→(∀t∈ts,dK q M t∧t.depth≤3)→lO q M s→
     lO q M (iN ps ts s).1∧(iN ps ts s).1.length≤s.length+cE ps:=by
     intro ps
     induction ps with
     |nil=>intro ts s _ _ h;rw[M5];exact⟨h,by simp⟩
     |cons p ps ihp=>
      intro ts s hp ht hs
      cases ts with
      |nil=>rw[iN];exact⟨hs,by simp⟩
      |cons t ts=>
       obtain⟨a1,a2⟩:=hp p (by simp) t s (ht t (by simp)).1 (Nat.le_succ_of_le (ht t (by simp)).2) (fun _=>(ht t (by simp)).2) hs
       rw[M4,cE]
       split
       ·obtain⟨b1,b2⟩:=ihp ts _ (fun z hz=>hp z (by simp[hz])) (fun u hu=>ht u (by simp[hu])) a1
        exact⟨b1,by omega⟩
       ·exact⟨a1,by omega⟩
    obtain⟨c1,c2⟩:=this ps ts s ih (fun t h=>⟨hts t h,hdt t h⟩) hs
    exact⟨c1,by omega⟩
   ·exact⟨fun b hb=>by simp at hb,by simp⟩
 exact key
theorem bUy {q M:Nat} {s:List Bd} (hs:lO q M s): ∀p:Tm,dK q M p→dK q M (fC p s).1∧(fC p s).1.depth≤p.depth+3∧eN (fC p s).1≤eN p+p.size*KB q M 3:=by
 refine fX fun p ih hp=>?_
 obtain⟨n,ts⟩:=p
 simp only[cS]at ih
 have h0:=rL (.mk n ts)
 have h0':KB q M 3≤(Tm.mk n ts).size*KB q M 3:=Nat.le_mul_of_pos_left _ h0
 rw[aC9]
 split
 ·cases hu:jS s n with
  |some u=>
   obtain⟨a,b⟩:=bUx hs hu
   exact⟨a,by show u.depth≤_;omega,by have:=M9 a b;show eN u≤_;omega⟩
  |none=>exact⟨hp,Nat.le_add_right _ _,Nat.le_add_right _ _⟩
 ·cases hl:jA ts s with
  |none=>exact⟨hp,Nat.le_add_right _ _,Nat.le_add_right _ _⟩
  |some l=>
   obtain⟨h1,h2,h3⟩:=nW.1 hp
   have: ∀(ts l:List Tm),(∀t∈ts,dK q M t→dK q M (fC t s).1∧(fC t s).1.depth≤t.depth+3∧eN (fC t s).1≤eN t+t.size*KB q M 3)→nV q M ts→jA ts s=some l→
    nV q M l∧dV l≤dV ts+3∧dR l≤dR ts+cE ts*KB q M 3:=by
    intro ts
    induction ts with
    |nil=>intro l _ _ h;rw[zO]at h;obtain rfl:=Option.some.inj h;exact⟨trivial,by simp[dV],by simp[dR]⟩
    |cons t ts iht=>
     intro l h ho hl
     rw[M6]at hl
     rw[nV]at ho
     split at hl
     ·cases hq:jA ts s with
      |none=>rw[hq]at hl;cases hl
      |some m=>
       rw[hq]at hl
       obtain rfl:=Option.some.inj hl
       obtain⟨a1,a2,a3⟩:=h t (by simp) ho.1
       obtain⟨b1,b2,b3⟩:=iht m (fun u hu=>h u (by simp[hu])) ho.2 hq
       refine⟨by rw[nV];exact⟨a1,b1⟩,?_,?_⟩
       ·rw[dV,dV];omega
       ·rw[dR,dR,cE,Nat.add_mul];omega
     ·cases hl
   obtain⟨c1,c2,c3⟩:=this ts l ih h3 hl
   show dK q M (.mk n l)∧(Tm.mk n l).depth≤_∧eN (.mk n l)≤_
   refine⟨nW.2 ⟨h1,by rw[M7 hl];exact h2,c1⟩,?_,?_⟩
   ·rw[nU,nU,cS,cS];omega
   ·rw[tH,tH,iK,cS,Nat.add_mul];omega
open Go.Ab
abbrev aDc:ByteArray:=⟨#[110,111,116]⟩
def dS (s:ByteArray) (i:Nat):Bool×ByteArray×Nat:=
 if bH s (aK s i)=aDc then(true,bH s (aK s (aK s i)),aK s (aK s (aK s i)))else(false,bH s (aK s i),aK s (aK s i))
def jC (s:ByteArray):Nat→List Lt→Nat→List Lt×Nat
 |0,a,i=>(a,i)
 |f+1,a,i=>if i<s.size then
  if cN s 46 i=true then(a,aM s 46 i)
  else if(dS s (aM s 46 i)).2.1.size=0 then(a,(dS s (aM s 46 i)).2.2)
  else jC s f (a++ [⟨(dS s (aM s 46 i)).1,(cJ s (dS s (aM s 46 i)).2.1 (dS s (aM s 46 i)).2.2).1⟩]) (cJ s (dS s (aM s 46 i)).2.1 (dS s (aM s 46 i)).2.2).2
  else(a,i)
theorem wB {s:ByteArray} {i:Nat} (h:(bH s i).size≠0):i<aK s i:=by
 have h1:=tE (s:=s) (i:=i)
 have h2:iZ s i≤aK s i:=M1
 unfold bH at h
 rw[ByteArray.size_extract]at h
 omega
theorem bUz {s:ByteArray} {i:Nat}:i≤(dS s i).2.2:=by
 unfold dS
 have h1:=kK (s:=s) (i:=i)
 have h2:=kK (s:=s) (i:=aK s i)
 have h3:=kK (s:=s) (i:=aK s (aK s i))
 split
 ·show i≤aK s (aK s (aK s i));omega
 ·show i≤aK s (aK s i);omega
theorem N0 {s:ByteArray} {i:Nat} (h:(dS s i).2.1.size≠0):i<(dS s i).2.2:=by
 unfold dS at*
 have h1:=kK (s:=s) (i:=i)
 have h2:=kK (s:=s) (i:=aK s i)
 split at h
 ·rename_i hc
  rw[if_pos hc]
  have h3:=wB h
  show i<aK s (aK s (aK s i));omega
 ·rename_i hc
  rw[if_neg hc]
  have h3:=wB h
  show i<aK s (aK s i);omega
theorem bU0 {s:ByteArray} {i:Nat} (h:i≤s.size):(dS s i).2.2≤s.size:=by
 unfold dS
 split
 ·exact kM (kM (kM h))
 ·exact kM (kM h)
theorem aDd (s:ByteArray): ∀(f f':Nat) (a:List Lt) (i:Nat),s.size - i<f→s.size - i<f'→jC s f a i=jC s f' a i
 |0,_,_,_,h,_=>absurd h (Nat.not_lt_zero _)
 |_+1,0,_,_,_,h=>absurd h (Nat.not_lt_zero _)
 |f+1,f'+1,a,i,h,h'=>by
  rw[jC,jC]
  split
  ·split
   ·rfl
   ·split
    ·rfl
    ·rename_i hi _ hz
     have h1:=N0 hz
     have h2:=pH (s:=s) (c:=46) (i:=i)
     have h3:=rR (s:=s) (w:=(dS s (aM s 46 i)).2.1) (i:=(dS s (aM s 46 i)).2.2)
     exact aDd s f f' _ _ (by omega) (by omega)
  ·rfl
def gP (s:ByteArray) (a:List Lt) (i:Nat):List Lt×Nat:=jC s (s.size+1) a i
theorem bU1 {s:ByteArray} {a:List Lt} {i:Nat} (h: ¬i<s.size):gP s a i=(a,i):=by unfold gP;rw[jC,if_neg h]
theorem wC {s:ByteArray} {a:List Lt} {i:Nat} (h:i<s.size) (hd:cN s 46 i=true):gP s a i=(a,aM s 46 i):=by unfold gP;rw[jC,if_pos h,if_pos hd]
theorem bU2 {s:ByteArray} {a:List Lt} {i:Nat} (h:i<s.size) (hd:cN s 46 i=false) (hz:(dS s (aM s 46 i)).2.1.size=0):gP s a i=(a,(dS s (aM s 46 i)).2.2):=by
 unfold gP;rw[jC,if_pos h,if_neg (by simp[hd]),if_pos hz]
theorem N1 {s:ByteArray} {a:List Lt} {i:Nat} (h:i<s.size) (hd:cN s 46 i=false) (hz: ¬(dS s (aM s 46 i)).2.1.size=0):
 gP s a i=gP s (a++ [⟨(dS s (aM s 46 i)).1,(cJ s (dS s (aM s 46 i)).2.1 (dS s (aM s 46 i)).2.2).1⟩]) (cJ s (dS s (aM s 46 i)).2.1 (dS s (aM s 46 i)).2.2).2:=by
 have h1:=N0 hz
 have h2:=pH (s:=s) (c:=46) (i:=i)
 have h3:=rR (s:=s) (w:=(dS s (aM s 46 i)).2.1) (i:=(dS s (aM s 46 i)).2.2)
 unfold gP
 rw[jC,if_pos h,if_neg (by simp[hd]),if_neg hz]
 exact aDd s _ _ _ _ (by omega) (by omega)
def iC (s:ByteArray) (w:ByteArray) (i:Nat):Rl×Nat:=(⟨(cJ s w i).1,(gP s [] (cJ s w i).2).1⟩,(gP s [] (cJ s w i).2).2)
theorem aDe (s:ByteArray): ∀(f:Nat) (a:List Lt) (i:Nat),i≤(jC s f a i).2
 |0,a,i=>by rw[jC];exact Nat.le_refl i
 |f+1,a,i=>by
  rw[jC]
  by_cases h:i<s.size
  ·rw[if_pos h]
   have h1:=pH (s:=s) (c:=46) (i:=i)
   have h2:=bUz (s:=s) (i:=aM s 46 i)
   by_cases hd:cN s 46 i=true
   ·rw[if_pos hd];exact h1
   ·rw[if_neg hd]
    generalize dS s (aM s 46 i)=q at*
    by_cases hz:q.2.1.size=0
    ·rw[if_pos hz];exact Nat.le_trans h1 h2
    ·rw[if_neg hz]
     have h3:=rR (s:=s) (w:=q.2.1) (i:=q.2.2)
     generalize cJ s q.2.1 q.2.2=u at*
     have h4:=aDe s f (a++ [⟨q.1,u.1⟩]) u.2
     omega
  ·rw[if_neg h];exact Nat.le_refl i
theorem aDf (s:ByteArray): ∀(f:Nat) (a:List Lt) (i:Nat),i≤s.size→(jC s f a i).2≤s.size
 |0,a,i,h=>by rw[jC];exact h
 |f+1,a,i,h=>by
  rw[jC]
  by_cases hi:i<s.size
  ·rw[if_pos hi]
   have h1:=pI (s:=s) (c:=46) h
   have h2:=bU0 h1
   by_cases hd:cN s 46 i=true
   ·rw[if_pos hd];exact h1
   ·rw[if_neg hd]
    generalize dS s (aM s 46 i)=q at*
    by_cases hz:q.2.1.size=0
    ·rw[if_pos hz];exact h2
    ·rw[if_neg hz]
     have h3:=tG (s:=s) (w:=q.2.1) h2
     generalize cJ s q.2.1 q.2.2=u at*
     exact aDf s f (a++ [⟨q.1,u.1⟩]) u.2 h3
  ·rw[if_neg hi];exact h
theorem N2 {s w i}:i≤(iC s w i).2:=Nat.le_trans rR (aDe s _ _ _)
theorem N3 {s:ByteArray} {w i} (h:i≤s.size):(iC s w i).2≤s.size:=aDf s _ _ _ (tG h)
def qO (s:ByteArray):Nat→List Rl→Nat→List Rl
 |0,a,_=>a
 |f+1,a,i=>if(bH s i).size=0 then a else qO s f (a++ [(iC s (bH s i) (aK s i)).1]) (iC s (bH s i) (aK s i)).2
theorem aDg (s:ByteArray): ∀(f f':Nat) (a:List Rl) (i:Nat),i≤s.size→s.size - i<f→s.size - i<f'→qO s f a i=qO s f' a i
 |0,_,_,_,_,h,_=>absurd h (Nat.not_lt_zero _)
 |_+1,0,_,_,_,_,h=>absurd h (Nat.not_lt_zero _)
 |f+1,f'+1,a,i,hi,h,h'=>by
  rw[qO,qO]
  split
  ·rfl
  ·rename_i hz
   have h1:=wB hz
   have h2:=N2 (s:=s) (w:=bH s i) (i:=aK s i)
   have h3:=kM (s:=s) hi
   exact aDg s f f' _ _ (N3 h3) (by omega) (by omega)
def kO (s:ByteArray) (a:List Rl) (i:Nat):List Rl:=qO s (s.size+1) a i
theorem N4 {s:ByteArray} {a:List Rl} {i:Nat} (h:(bH s i).size=0):kO s a i=a:=by unfold kO;rw[qO,if_pos h]
theorem wD {s:ByteArray} {a:List Rl} {i:Nat} (hi:i≤s.size) (h: ¬(bH s i).size=0):kO s a i=kO s (a++ [(iC s (bH s i) (aK s i)).1]) (iC s (bH s i) (aK s i)).2:=by
 have h1:=wB h
 have h2:=N2 (s:=s) (w:=bH s i) (i:=aK s i)
 have h3:=kM (s:=s) hi
 unfold kO
 rw[qO,if_neg h]
 exact aDg s _ _ _ _ (N3 h3) (by omega) (by omega)
set_option maxRecDepth 100000
set_option maxHeartbeats 8000000
abbrev aA (s:ByteArray) (i:Nat):AObj:=⟨false,false,true,2,[.agg [.sc (.string s),nt .i64 i]],0⟩
abbrev aB (s:ByteArray) (i:Nat):aF:= [(1000,aA s i)]
theorem aDh (s:ByteArray) (i:Nat) (hs:s.size≤1000000) (hi:i≤s.size):MCall prog 45 [.ptr 1000 0 0] (aB s i) (fun r o'=>r= .tup []∧o'=aB s (iZ s i)):=by
 refine eM func45 call45 rfl (by simp[ntmps45]) ?_;simp only[ntmps45,results45]
 repeat' (first|(refine aC fun _ _=>?_)|refine zHg ?_|simp(disch:=omega) [go_sem,aB,aA])
 refine cL [0] [1000] (fun j:Nat=> []) (fun j:Nat=> [(1000,aA s j)]) (fun j:Nat=>s.size - j) (fun j:Nat=>j≤s.size∧iZ s j=iZ s i) (i) (Le.sub4 rfl (by simp[go_sem,aB,aA])) ⟨?_⟩ ?_
 ·exact⟨hi,rfl⟩
 intro j ⟨hj,he⟩ AA hAA;simp only[kL,Nat.reduceBEq,Nat.reduceEqDiff,if_true,if_false,List.cons_append,List.nil_append,List.append_nil]
 by_cases h1:j<s.size
 ·by_cases h2:bt s j=32
  ·repeat' (first|(refine aC fun _ _=>?_)|refine zHg ?_|(refine(hAA.next (j+1) (Le.sub4 rfl (by simp[go_sem])) (by(try dsimp only);omega) ?_))|simp(disch:=omega) [go_sem,h1,h2,aA]|refine zDr 34 aT ?_|fail)
   exact⟨h1,by rw[←he];exact(M0 h1 (by simp[zL,h2])).symm⟩
  ·by_cases h3:bt s j=10
   ·repeat' (first|(refine aC fun _ _=>?_)|refine zHg ?_|(refine(hAA.next (j+1) (Le.sub4 rfl (by simp[go_sem])) (by(try dsimp only);omega) ?_))|simp(disch:=omega) [go_sem,h1,h2,h3,aA]|refine zDr 34 aT ?_|fail)
    exact⟨h1,by rw[←he];exact(M0 h1 (by simp[zL,h3])).symm⟩
   ·have hz:iZ s i=j:=by rw[←he];exact zK (by simp[zL,h2,h3])
    rw[hz]
    repeat' (first|(refine aC fun _ _=>?_)|refine zHg ?_|simp(disch:=omega) [go_sem,h1,h2,h3,aA]|refine zDr 34 aT ?_|fail)
    refine rI ⟨43,[],aB s j⟩ [] (Le.renSub [] [] (by simp[go_sem,aB,aA]) (by simp[go_sem,aB,aA]) (Le.sub4 rfl (by simp[go_sem,aB,aA]))) (by simp[go_sem,aB,aA]) ⟨rfl,rfl⟩
 ·have hz:iZ s i=j:=by rw[←he];exact zK (by simp[h1])
  rw[hz]
  repeat' (first|(refine aC fun _ _=>?_)|refine zHg ?_|simp(disch:=omega) [go_sem,h1,aA]|refine zDr 34 aT ?_|fail)
  refine rI ⟨43,[],aB s j⟩ [] (Le.renSub [] [] (by simp[go_sem,aB,aA]) (by simp[go_sem,aB,aA]) (Le.sub4 rfl (by simp[go_sem,aB,aA]))) (by simp[go_sem,aB,aA]) ⟨rfl,rfl⟩
theorem wE (s:ByteArray) (i:Nat) (c:Int) (hs:s.size≤1000000) (hi:i≤s.size):MCall prog 47 [.ptr 1000 0 0,nt .u8 c] (aB s i) (fun r o'=>r=bl (cN s c i)∧o'=aB s (aM s c i)):=by
 have hb:=aDh s i hs hi
 have hle:=zM (s:=s) hi
 unfold aM cN
 generalize iZ s i=j at*
 refine eM func47 call47 rfl (by simp[ntmps47]) ?_;simp only[ntmps47,results47]
 repeat' (first|(refine aC fun _ _=>?_)|refine zHg ?_|simp(disch:=omega) [go_sem,aB,aA])
 refine bG [] [] 10000 _ _ (Fits.mk' (by simp[go_sem,aB,aA]) (by simp[go_sem,aB,aA])) (by simp[go_sem,aB,aA]) (by simp[go_sem,aB,aA]) (hb) (by simp[go_sem,aB,aA]) (by simp[go_sem,aB,aA]) ?_
 by_cases h1:j<s.size
 ·by_cases h2:bt s j=c
  ·repeat' (first|(refine aC fun _ _=>?_)|refine zHg ?_|simp(disch:=omega) [go_sem,h1,h2,aB,aA]|refine zDr 23 aT ?_|fail)
   refine cV ⟨37,[(4,bl true)],aB s (j+1)⟩ [bl true] (Le.renSub [] [] (by simp[go_sem,aB,aA]) (by simp[go_sem,aB,aA]) (Le.sub4 rfl (by simp[go_sem,aB,aA]))) (by simp[go_sem,aB,aA]) ⟨rfl,rfl⟩
  ·repeat' (first|(refine aC fun _ _=>?_)|refine zHg ?_|simp(disch:=omega) [go_sem,h1,h2,aB,aA]|refine zDr 23 aT ?_|fail)
   refine cV ⟨37,[(4,bl false)],aB s j⟩ [bl false] (Le.renSub [] [] (by simp[go_sem,aB,aA]) (by simp[go_sem,aB,aA]) (Le.sub4 rfl (by simp[go_sem,aB,aA]))) (by simp[go_sem,aB,aA]) ⟨rfl,rfl⟩
 ·repeat' (first|(refine aC fun _ _=>?_)|refine zHg ?_|simp(disch:=omega) [go_sem,h1,aB,aA]|refine zDr 23 aT ?_|fail)
  refine cV ⟨37,[(4,bl false)],aB s j⟩ [bl false] (Le.renSub [] [] (by simp[go_sem,aB,aA]) (by simp[go_sem,aB,aA]) (Le.sub4 rfl (by simp[go_sem,aB,aA]))) (by simp[go_sem,aB,aA]) ⟨rfl,rfl⟩
set_option maxHeartbeats 16000000
theorem bU3 {c:Int} (h:mL c=false): ¬c=45∧(48≤c→ ¬c≤57)∧(97≤c→ ¬c≤122)∧(65≤c→ ¬c≤90):=by
 unfold mL at h
 simp only[Bool.or_eq_false_iff,Bool.and_eq_false_iff,decide_eq_false_iff_not]at h
 refine⟨h.1.1.1,?_,?_,?_⟩<;>omega
theorem bU4 {c:Int} (h:mL c=true):c=45∨(48≤c∧c≤57)∨(97≤c∧c≤122)∨(65≤c∧c≤90):=by
 unfold mL at h
 simp only[Bool.or_eq_true,Bool.and_eq_true,decide_eq_true_eq]at h
 omega
theorem wG (s:ByteArray) (i:Nat) (hs:s.size≤1000000) (hi:i≤s.size):MCall prog 27 [.ptr 1000 0 0] (aB s i) (fun r o'=>r= .sc (.string (bH s i))∧o'=aB s (aK s i)):=by
 have hb:=aDh s i hs hi
 have hle:=zM (s:=s) hi
 unfold bH aK
 generalize iZ s i=k at*
 refine eM func27 call27 rfl (by simp[ntmps27]) ?_;simp only[ntmps27,results27]
 repeat' (first|(refine aC fun _ _=>?_)|refine zHg ?_|simp(disch:=omega) [go_sem,aB,aA])
 refine bG [] [] 10000 _ _ (Fits.mk' (by simp[go_sem,aB,aA]) (by simp[go_sem,aB,aA])) (by simp[go_sem,aB,aA]) (by simp[go_sem,aB,aA]) (hb) (by simp[go_sem,aB,aA]) (by simp[go_sem,aB,aA]) ?_
 repeat' (first|(refine aC fun _ _=>?_)|refine zHg ?_|simp(disch:=omega) [go_sem,aB,aA])
 refine cL [0,3] [1000] (fun j:Nat=> []) (fun j:Nat=> [(1000,aA s j)]) (fun j:Nat=>s.size - j) (fun j:Nat=>k≤j∧j≤s.size∧jQ mL s j=jQ mL s k) (k) (Le.sub4 rfl (by simp[go_sem,aB,aA])) ⟨?_⟩ ?_
 ·exact⟨Nat.le_refl _,hle,rfl⟩
 intro j ⟨hkj,hj,he⟩ AA hAA;simp only[kL,Nat.reduceBEq,Nat.reduceEqDiff,if_true,if_false,List.cons_append,List.nil_append,List.append_nil]
 by_cases h1:j<s.size
 ·cases h2:mL (bt s j)
  ·have hz:jQ mL s k=j:=by rw[←he];exact zK (by simp[h2])
   obtain⟨n1,n2,n3,n4⟩:=bU3 h2
   clear he h2
   generalize jQ mL s k=z at*
   subst z
   by_cases a3:65≤bt s j
   ·have a1:48≤bt s j:=by omega
    have b1:=n2 a1
    have b3:=n4 a3
    by_cases a2:97≤bt s j
    ·have b2:=n3 a2
     repeat' (first|(refine aC fun _ _=>?_)|refine zHg ?_|simp(disch:=omega) [go_sem,h1,n1,a1,a2,a3,b1,b2,b3,aA]|refine zAo ?_|refine zDr 11 aT ?_|refine zDr 94 aT ?_|fail)
     refine cV ⟨121,[(2,.sc (.string (s.extract k j)))],aB s j⟩ [.sc (.string (s.extract k j))] (Le.renSub [] [] (by simp[go_sem,aB,aA]) (by simp[go_sem,aB,aA]) (Le.sub4 rfl (by simp[go_sem,aB,aA]))) (by simp[go_sem,aB,aA]) ⟨rfl,rfl⟩
    ·repeat' (first|(refine aC fun _ _=>?_)|refine zHg ?_|simp(disch:=omega) [go_sem,h1,n1,a1,a2,a3,b1,b3,aA]|refine zAo ?_|refine zDr 11 aT ?_|refine zDr 94 aT ?_|fail)
     refine cV ⟨121,[(2,.sc (.string (s.extract k j)))],aB s j⟩ [.sc (.string (s.extract k j))] (Le.renSub [] [] (by simp[go_sem,aB,aA]) (by simp[go_sem,aB,aA]) (Le.sub4 rfl (by simp[go_sem,aB,aA]))) (by simp[go_sem,aB,aA]) ⟨rfl,rfl⟩
   ·have a2: ¬97≤bt s j:=by omega
    by_cases a1:48≤bt s j
    ·have b1:=n2 a1
     repeat' (first|(refine aC fun _ _=>?_)|refine zHg ?_|simp(disch:=omega) [go_sem,h1,n1,a1,a2,a3,b1,aA]|refine zAo ?_|refine zDr 11 aT ?_|refine zDr 94 aT ?_|fail)
     refine cV ⟨121,[(2,.sc (.string (s.extract k j)))],aB s j⟩ [.sc (.string (s.extract k j))] (Le.renSub [] [] (by simp[go_sem,aB,aA]) (by simp[go_sem,aB,aA]) (Le.sub4 rfl (by simp[go_sem,aB,aA]))) (by simp[go_sem,aB,aA]) ⟨rfl,rfl⟩
    ·repeat' (first|(refine aC fun _ _=>?_)|refine zHg ?_|simp(disch:=omega) [go_sem,h1,n1,a1,a2,a3,aA]|refine zAo ?_|refine zDr 11 aT ?_|refine zDr 94 aT ?_|fail)
     refine cV ⟨121,[(2,.sc (.string (s.extract k j)))],aB s j⟩ [.sc (.string (s.extract k j))] (Le.renSub [] [] (by simp[go_sem,aB,aA]) (by simp[go_sem,aB,aA]) (Le.sub4 rfl (by simp[go_sem,aB,aA]))) (by simp[go_sem,aB,aA]) ⟨rfl,rfl⟩
  ·have hnx:=M0 h1 h2
   have h3:=bU4 h2
   rw[he]at hnx
   rcases h3 with h3|⟨a1,b1⟩|⟨a2,b2⟩|⟨a3,b3⟩
   ·repeat' (first|(refine aC fun _ _=>?_)|refine zHg ?_|(refine(hAA.next (j+1) (Le.sub4 rfl (by simp[go_sem])) (by(try dsimp only);omega) ?_))|simp(disch:=omega) [go_sem,h1,h3,aA]|refine zDr 94 aT ?_|fail)
    exact⟨by omega,by omega,hnx.symm⟩
   ·have n1: ¬bt s j=45:=by omega
    repeat' (first|(refine aC fun _ _=>?_)|refine zHg ?_|(refine(hAA.next (j+1) (Le.sub4 rfl (by simp[go_sem])) (by(try dsimp only);omega) ?_))|simp(disch:=omega) [go_sem,h1,n1,a1,b1,aA]|refine zDr 94 aT ?_|fail)
    exact⟨by omega,by omega,hnx.symm⟩
   ·have n1: ¬bt s j=45:=by omega
    have a1:48≤bt s j:=by omega
    have b1: ¬bt s j≤57:=by omega
    repeat' (first|(refine aC fun _ _=>?_)|refine zHg ?_|(refine(hAA.next (j+1) (Le.sub4 rfl (by simp[go_sem])) (by(try dsimp only);omega) ?_))|simp(disch:=omega) [go_sem,h1,n1,a1,b1,a2,b2,aA]|refine zDr 94 aT ?_|fail)
    exact⟨by omega,by omega,hnx.symm⟩
   ·have n1: ¬bt s j=45:=by omega
    have a1:48≤bt s j:=by omega
    have b1: ¬bt s j≤57:=by omega
    have a2: ¬97≤bt s j:=by omega
    repeat' (first|(refine aC fun _ _=>?_)|refine zHg ?_|(refine(hAA.next (j+1) (Le.sub4 rfl (by simp[go_sem])) (by(try dsimp only);omega) ?_))|simp(disch:=omega) [go_sem,h1,n1,a1,b1,a2,a3,b3,aA]|refine zDr 94 aT ?_|fail)
    exact⟨by omega,by omega,hnx.symm⟩
 ·have hz:jQ mL s k=j:=by rw[←he];exact zK (by simp[h1])
  clear he
  generalize jQ mL s k=z at*
  subst z
  repeat' (first|(refine aC fun _ _=>?_)|refine zHg ?_|simp(disch:=omega) [go_sem,h1,aA]|refine zAo ?_|refine zDr 11 aT ?_|refine zDr 94 aT ?_|fail)
  refine cV ⟨121,[(2,.sc (.string (s.extract k j)))],aB s j⟩ [.sc (.string (s.extract k j))] (Le.renSub [] [] (by simp[go_sem,aB,aA]) (by simp[go_sem,aB,aA]) (Le.sub4 rfl (by simp[go_sem,aB,aA]))) (by simp[go_sem,aB,aA]) ⟨rfl,rfl⟩
end Go.Proofs.YtbgckcdddlmiaaaDoor
