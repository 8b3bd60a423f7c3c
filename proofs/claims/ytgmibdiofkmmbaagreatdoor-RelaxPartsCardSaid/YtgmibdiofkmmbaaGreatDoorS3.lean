import Derived.Test.YtgmibdiofkmmbaaGreatDoorS2
import Derived.Test.YtgmibdiofkmmbaaGreatDoorA9
import Derived.Test.YtgmibdiofkmmbaaGreatDoorA13
set_option linter.all false
open Go.Proofs.Tryz
namespace Go.Proofs.YtgmibdiofkmmbaaGreatDoor
open Go.Ab
variable [Glob prog]
abbrev aOs:ByteArray:=⟨#[110,111,116]⟩
def fZ (s:ByteArray) (i:Nat):Bool×ByteArray×Nat:=
 if bL s (aZ s i)=aOs then(true,bL s (aZ s (aZ s i)),aZ s (aZ s (aZ s i)))else(false,bL s (aZ s i),aZ s (aZ s i))
def mT (s:ByteArray):Nat->List Lt->Nat->List Lt×Nat
 |0,a,i=>(a,i)
 |f+1,a,i=>if i<s.size then
  if bT s 46 i=true then(a,aW s 46 i)
  else if(fZ s (aW s 46 i)).2.1.size=0 then(a,(fZ s (aW s 46 i)).2.2)
  else mT s f (a++ [⟨(fZ s (aW s 46 i)).1,(cD s (fZ s (aW s 46 i)).2.1 (fZ s (aW s 46 i)).2.2).1⟩]) (cD s (fZ s (aW s 46 i)).2.1 (fZ s (aW s 46 i)).2.2).2
  else(a,i)
theorem L3 {s:ByteArray} {i:Nat} (h:(bL s i).size≠0):i<aZ s i:=by
 have h1:=B4 (s:=s) (i:=i)
 have h2:mQ s i<=aZ s i:=aFr
 unfold bL at h
 rw[ByteArray.size_extract]at h
 omega
theorem cZx {s:ByteArray} {i:Nat}:i<=(fZ s i).2.2:=by
 unfold fZ
 have h1:=nL (s:=s) (i:=i)
 have h2:=nL (s:=s) (i:=aZ s i)
 have h3:=nL (s:=s) (i:=aZ s (aZ s i))
 split
 ·show i<=aZ s (aZ s (aZ s i));omega
 ·show i<=aZ s (aZ s i);omega
theorem aF0 {s:ByteArray} {i:Nat} (h:(fZ s i).2.1.size≠0):i<(fZ s i).2.2:=by
 unfold fZ at*
 have h1:=nL (s:=s) (i:=i)
 have h2:=nL (s:=s) (i:=aZ s i)
 split at h
 ·rename_i hc
  rw[if_pos hc]
  have h3:=L3 h
  show i<aZ s (aZ s (aZ s i));omega
 ·rename_i hc
  rw[if_neg hc]
  have h3:=L3 h
  show i<aZ s (aZ s i);omega
theorem cZy {s:ByteArray} {i:Nat} (h:i<=s.size):(fZ s i).2.2<=s.size:=by
 unfold fZ
 split
 ·exact nM (nM (nM h))
 ·exact nM (nM h)
theorem aOt (s:ByteArray): ∀(f f':Nat) (a:List Lt) (i:Nat),s.size - i<f->s.size - i<f'->mT s f a i=mT s f' a i
 |0,_,_,_,h,_=>absurd h (Nat.not_lt_zero _)
 |_+1,0,_,_,_,h=>absurd h (Nat.not_lt_zero _)
 |f+1,f'+1,a,i,h,h'=>by
  rw[mT,mT]
  split
  ·split
   ·rfl
   ·split
    ·rfl
    ·rename_i hi _ hz
     have h1:=aF0 hz
     have h2:=uI (s:=s) (c:=46) (i:=i)
     have h3:=wN (s:=s) (w:=(fZ s (aW s 46 i)).2.1) (i:=(fZ s (aW s 46 i)).2.2)
     exact aOt s f f' _ _ (by omega) (by omega)
  ·rfl
def jA (s:ByteArray) (a:List Lt) (i:Nat):List Lt×Nat:=mT s (s.size+1) a i
theorem cZz {s:ByteArray} {a:List Lt} {i:Nat} (h: ¬i<s.size):jA s a i=(a,i):=by unfold jA;rw[mT,if_neg h]
theorem wP {s:ByteArray} {a:List Lt} {i:Nat} (h:i<s.size) (hd:bT s 46 i=true):jA s a i=(a,aW s 46 i):=by unfold jA;rw[mT,if_pos h,if_pos hd]
theorem cZ0 {s:ByteArray} {a:List Lt} {i:Nat} (h:i<s.size) (hd:bT s 46 i=false) (hz:(fZ s (aW s 46 i)).2.1.size=0):jA s a i=(a,(fZ s (aW s 46 i)).2.2):=by
 unfold jA;rw[mT,if_pos h,if_neg (by simp[hd]),if_pos hz]
theorem Y5 {s:ByteArray} {a:List Lt} {i:Nat} (h:i<s.size) (hd:bT s 46 i=false) (hz: ¬(fZ s (aW s 46 i)).2.1.size=0):
 jA s a i=jA s (a++ [⟨(fZ s (aW s 46 i)).1,(cD s (fZ s (aW s 46 i)).2.1 (fZ s (aW s 46 i)).2.2).1⟩]) (cD s (fZ s (aW s 46 i)).2.1 (fZ s (aW s 46 i)).2.2).2:=by
 have h1:=aF0 hz
 have h2:=uI (s:=s) (c:=46) (i:=i)
 have h3:=wN (s:=s) (w:=(fZ s (aW s 46 i)).2.1) (i:=(fZ s (aW s 46 i)).2.2)
 unfold jA
 rw[mT,if_pos h,if_neg (by simp[hd]),if_neg hz]
 exact aOt s _ _ _ _ (by omega) (by omega)
def iR (s:ByteArray) (w:ByteArray) (i:Nat):Rl×Nat:=(⟨(cD s w i).1,(jA s [] (cD s w i).2).1⟩,(jA s [] (cD s w i).2).2)
theorem aOu (s:ByteArray): ∀(f:Nat) (a:List Lt) (i:Nat),i<=(mT s f a i).2
 |0,a,i=>by rw[mT];exact Nat.le_refl i
 |f+1,a,i=>by
  rw[mT]
  by_cases h:i<s.size
  ·rw[if_pos h]
   have h1:=uI (s:=s) (c:=46) (i:=i)
   have h2:=cZx (s:=s) (i:=aW s 46 i)
   by_cases hd:bT s 46 i=true
   ·rw[if_pos hd];exact h1
   ·rw[if_neg hd]
    generalize fZ s (aW s 46 i)=q at*
    by_cases hz:q.2.1.size=0
    ·rw[if_pos hz];exact Nat.le_trans h1 h2
    ·rw[if_neg hz]
     have h3:=wN (s:=s) (w:=q.2.1) (i:=q.2.2)
     generalize cD s q.2.1 q.2.2=u at*
     have h4:=aOu s f (a++ [⟨q.1,u.1⟩]) u.2
     omega
  ·rw[if_neg h];exact Nat.le_refl i
theorem aOv (s:ByteArray): ∀(f:Nat) (a:List Lt) (i:Nat),i<=s.size->(mT s f a i).2<=s.size
 |0,a,i,h=>by rw[mT];exact h
 |f+1,a,i,h=>by
  rw[mT]
  by_cases hi:i<s.size
  ·rw[if_pos hi]
   have h1:=sW (s:=s) (c:=46) h
   have h2:=cZy h1
   by_cases hd:bT s 46 i=true
   ·rw[if_pos hd];exact h1
   ·rw[if_neg hd]
    generalize fZ s (aW s 46 i)=q at*
    by_cases hz:q.2.1.size=0
    ·rw[if_pos hz];exact h2
    ·rw[if_neg hz]
     have h3:=yE (s:=s) (w:=q.2.1) h2
     generalize cD s q.2.1 q.2.2=u at*
     exact aOv s f (a++ [⟨q.1,u.1⟩]) u.2 h3
  ·rw[if_neg hi];exact h
theorem aF1 {s w i}:i<=(iR s w i).2:=Nat.le_trans wN (aOu s _ _ _)
theorem aF2 {s:ByteArray} {w i} (h:i<=s.size):(iR s w i).2<=s.size:=aOv s _ _ _ (yE h)
def wQ (s:ByteArray):Nat->List Rl->Nat->List Rl
 |0,a,_=>a
 |f+1,a,i=>if(bL s i).size=0 then a else wQ s f (a++ [(iR s (bL s i) (aZ s i)).1]) (iR s (bL s i) (aZ s i)).2
theorem aOw (s:ByteArray): ∀(f f':Nat) (a:List Rl) (i:Nat),i<=s.size->s.size - i<f->s.size - i<f'->wQ s f a i=wQ s f' a i
 |0,_,_,_,_,h,_=>absurd h (Nat.not_lt_zero _)
 |_+1,0,_,_,_,_,h=>absurd h (Nat.not_lt_zero _)
 |f+1,f'+1,a,i,hi,h,h'=>by
  rw[wQ,wQ]
  split
  ·rfl
  ·rename_i hz
   have h1:=L3 hz
   have h2:=aF1 (s:=s) (w:=bL s i) (i:=aZ s i)
   have h3:=nM (s:=s) hi
   exact aOw s f f' _ _ (aF2 h3) (by omega) (by omega)
def lY (s:ByteArray) (a:List Rl) (i:Nat):List Rl:=wQ s (s.size+1) a i
theorem aF3 {s:ByteArray} {a:List Rl} {i:Nat} (h:(bL s i).size=0):lY s a i=a:=by unfold lY;rw[wQ,if_pos h]
theorem wR {s:ByteArray} {a:List Rl} {i:Nat} (hi:i<=s.size) (h: ¬(bL s i).size=0):lY s a i=lY s (a++ [(iR s (bL s i) (aZ s i)).1]) (iR s (bL s i) (aZ s i)).2:=by
 have h1:=L3 h
 have h2:=aF1 (s:=s) (w:=bL s i) (i:=aZ s i)
 have h3:=nM (s:=s) hi
 unfold lY
 rw[wQ,if_neg h]
 exact aOw s _ _ _ _ (aF2 h3) (by omega) (by omega)
set_option maxRecDepth 100000
set_option maxHeartbeats 8000000
abbrev aF (s:ByteArray) (i:Nat):AObj:=⟨false,false,true,2,[.agg [.sc (.string s),nt .i64 i]],0⟩
abbrev aG (s:ByteArray) (i:Nat):aK:= [(1000,aF s i)]
theorem aOx (s:ByteArray) (i:Nat) (hs:s.size<=1000000) (hi:i<=s.size):MCall prog 102 [.ptr 1000 0 0] (aG s i) (fun r o'=>r= .tup []/\o'=aG s (mQ s i)):=by
 refine dM func102 call102 rfl (by simp[ntmps102]) ?_;simp only[ntmps102,results102]
 repeat' (first|(refine aE fun _ _=>?_)|refine zHg ?_|simp(disch:=omega) [go_sem,aG,aF])
 refine bZ [0] [1000] (fun j:Nat=> []) (fun j:Nat=> [(1000,aF s j)]) (fun j:Nat=>s.size - j) (fun j:Nat=>j<=s.size/\mQ s j=mQ s i) (i) (Le.sub4 rfl (by simp[go_sem,aG,aF])) ⟨?_⟩ ?_
 ·exact⟨hi,rfl⟩
 intro j ⟨hj,he⟩ AA hAA;simp only[kL,Nat.reduceBEq,Nat.reduceEqDiff]
 by_cases h1:j<s.size
 ·by_cases h2:bt s j=32
  ·repeat' (first|(refine aE fun _ _=>?_)|refine zHg ?_|(refine(hAA.next (j+1) (Le.sub4 rfl (by simp[go_sem])) (by(try dsimp only);omega) ?_))|simp(disch:=omega) [go_sem,h1,h2,aF]|refine zDr 34 bA ?_|fail)
   exact⟨h1,by rw[<-he];exact(aFq h1 (by simp[Y1,h2])).symm⟩
  ·by_cases h3:bt s j=10
   ·repeat' (first|(refine aE fun _ _=>?_)|refine zHg ?_|(refine(hAA.next (j+1) (Le.sub4 rfl (by simp[go_sem])) (by(try dsimp only);omega) ?_))|simp(disch:=omega) [go_sem,h1,h2,h3,aF]|refine zDr 34 bA ?_|fail)
    exact⟨h1,by rw[<-he];exact(aFq h1 (by simp[Y1,h3])).symm⟩
   ·have hz:mQ s i=j:=by rw[<-he];exact Y0 (by simp[Y1,h2,h3])
    rw[hz]
    repeat' (first|(refine aE fun _ _=>?_)|refine zHg ?_|simp(disch:=omega) [go_sem,h1,h2,h3,aF]|refine zDr 34 bA ?_|fail)
    refine eW ⟨43,[],aG s j⟩ [] (Le.renSub [] [] (by simp[go_sem,aG,aF]) (by simp[go_sem,aG,aF]) (Le.sub4 rfl (by simp[go_sem,aG,aF]))) (by simp[go_sem,aG,aF]) ⟨rfl,rfl⟩
 ·have hz:mQ s i=j:=by rw[<-he];exact Y0 (by simp[h1])
  rw[hz]
  repeat' (first|(refine aE fun _ _=>?_)|refine zHg ?_|simp(disch:=omega) [go_sem,h1,aF]|refine zDr 34 bA ?_|fail)
  refine eW ⟨43,[],aG s j⟩ [] (Le.renSub [] [] (by simp[go_sem,aG,aF]) (by simp[go_sem,aG,aF]) (Le.sub4 rfl (by simp[go_sem,aG,aF]))) (by simp[go_sem,aG,aF]) ⟨rfl,rfl⟩
theorem B5 (s:ByteArray) (i:Nat) (c:Int) (hs:s.size<=1000000) (hi:i<=s.size):MCall prog 61 [.ptr 1000 0 0,nt .u8 c] (aG s i) (fun r o'=>r=bl (bT s c i)/\o'=aG s (aW s c i)):=by
 have hb:=aOx s i hs hi
 have hle:=Y2 (s:=s) hi
 unfold aW bT
 generalize mQ s i=j at*
 refine dM func61 call61 rfl (by simp[ntmps61]) ?_;simp only[ntmps61,results61]
 repeat' (first|(refine aE fun _ _=>?_)|refine zHg ?_|simp(disch:=omega) [go_sem,aG,aF])
 refine bO [] [] 10000 _ _ (Fits.mk' (by simp[go_sem,aG,aF]) (by simp[go_sem,aG,aF])) (by simp[go_sem,aG,aF]) (by simp[go_sem,aG,aF]) (hb) (by simp[go_sem,aG,aF]) (by simp[go_sem,aG,aF]) ?_
 by_cases h1:j<s.size
 ·by_cases h2:bt s j=c
  ·repeat' (first|(refine aE fun _ _=>?_)|refine zHg ?_|simp(disch:=omega) [go_sem,h1,h2,aG,aF]|refine zDr 23 bA ?_|fail)
   refine dN ⟨37,[(4,bl true)],aG s (j+1)⟩ [bl true] (Le.renSub [] [] (by simp[go_sem,aG,aF]) (by simp[go_sem,aG,aF]) (Le.sub4 rfl (by simp[go_sem,aG,aF]))) (by simp[go_sem,aG,aF]) ⟨rfl,rfl⟩
  ·repeat' (first|(refine aE fun _ _=>?_)|refine zHg ?_|simp(disch:=omega) [go_sem,h1,h2,aG,aF]|refine zDr 23 bA ?_|fail)
   refine dN ⟨37,[(4,bl false)],aG s j⟩ [bl false] (Le.renSub [] [] (by simp[go_sem,aG,aF]) (by simp[go_sem,aG,aF]) (Le.sub4 rfl (by simp[go_sem,aG,aF]))) (by simp[go_sem,aG,aF]) ⟨rfl,rfl⟩
 ·repeat' (first|(refine aE fun _ _=>?_)|refine zHg ?_|simp(disch:=omega) [go_sem,h1,aG,aF]|refine zDr 23 bA ?_|fail)
  refine dN ⟨37,[(4,bl false)],aG s j⟩ [bl false] (Le.renSub [] [] (by simp[go_sem,aG,aF]) (by simp[go_sem,aG,aF]) (Le.sub4 rfl (by simp[go_sem,aG,aF]))) (by simp[go_sem,aG,aF]) ⟨rfl,rfl⟩
set_option maxHeartbeats 16000000
theorem cZ1 {c:Int} (h:qU c=false): ¬c=45/\(48<=c-> ¬c<=57)/\(97<=c-> ¬c<=122)/\(65<=c-> ¬c<=90):=by
 unfold qU at h
 simp only[Bool.or_eq_false_iff,Bool.and_eq_false_iff,decide_eq_false_iff_not]at h
 refine⟨h.1.1.1,?_,?_,?_⟩<;>omega
theorem cZ2 {c:Int} (h:qU c=true):c=45\/(48<=c/\c<=57)\/(97<=c/\c<=122)\/(65<=c/\c<=90):=by
 unfold qU at h
 simp only[Bool.or_eq_true,Bool.and_eq_true,decide_eq_true_eq]at h
 omega
theorem B6 (s:ByteArray) (i:Nat) (hs:s.size<=1000000) (hi:i<=s.size):MCall prog 58 [.ptr 1000 0 0] (aG s i) (fun r o'=>r= .sc (.string (bL s i))/\o'=aG s (aZ s i)):=by
 have hb:=aOx s i hs hi
 have hle:=Y2 (s:=s) hi
 unfold bL aZ
 generalize mQ s i=k at*
 refine dM func58 call58 rfl (by simp[ntmps58]) ?_;simp only[ntmps58,results58]
 repeat' (first|(refine aE fun _ _=>?_)|refine zHg ?_|simp(disch:=omega) [go_sem,aG,aF])
 refine bO [] [] 10000 _ _ (Fits.mk' (by simp[go_sem,aG,aF]) (by simp[go_sem,aG,aF])) (by simp[go_sem,aG,aF]) (by simp[go_sem,aG,aF]) (hb) (by simp[go_sem,aG,aF]) (by simp[go_sem,aG,aF]) ?_
 repeat' (first|(refine aE fun _ _=>?_)|refine zHg ?_|simp(disch:=omega) [go_sem,aG,aF])
 refine bZ [0,3] [1000] (fun j:Nat=> []) (fun j:Nat=> [(1000,aF s j)]) (fun j:Nat=>s.size - j) (fun j:Nat=>k<=j/\j<=s.size/\nK qU s j=nK qU s k) (k) (Le.sub4 rfl (by simp[go_sem,aG,aF])) ⟨?_⟩ ?_
 ·exact⟨Nat.le_refl _,hle,rfl⟩
 intro j ⟨hkj,hj,he⟩ AA hAA;simp only[kL,Nat.reduceBEq,Nat.reduceEqDiff]
 by_cases h1:j<s.size
 ·cases h2:qU (bt s j)
  ·have hz:nK qU s k=j:=by rw[<-he];exact Y0 (by simp[h2])
   obtain⟨n1,n2,n3,n4⟩:=cZ1 h2
   clear he h2
   generalize nK qU s k=z at*
   subst z
   by_cases a3:65<=bt s j
   ·have a1:48<=bt s j:=by omega
    have b1:=n2 a1
    have b3:=n4 a3
    by_cases a2:97<=bt s j
    ·have b2:=n3 a2
     repeat' (first|(refine aE fun _ _=>?_)|refine zHg ?_|simp(disch:=omega) [go_sem,h1,n1,a1,a2,a3,b1,b2,b3,aF]|refine zAo ?_|refine zDr 11 bA ?_|refine zDr 94 bA ?_|fail)
     refine dN ⟨121,[(2,.sc (.string (s.extract k j)))],aG s j⟩ [.sc (.string (s.extract k j))] (Le.renSub [] [] (by simp[go_sem,aG,aF]) (by simp[go_sem,aG,aF]) (Le.sub4 rfl (by simp[go_sem,aG,aF]))) (by simp[go_sem,aG,aF]) ⟨rfl,rfl⟩
    ·repeat' (first|(refine aE fun _ _=>?_)|refine zHg ?_|simp(disch:=omega) [go_sem,h1,n1,a1,a2,a3,b1,b3,aF]|refine zAo ?_|refine zDr 11 bA ?_|refine zDr 94 bA ?_|fail)
     refine dN ⟨121,[(2,.sc (.string (s.extract k j)))],aG s j⟩ [.sc (.string (s.extract k j))] (Le.renSub [] [] (by simp[go_sem,aG,aF]) (by simp[go_sem,aG,aF]) (Le.sub4 rfl (by simp[go_sem,aG,aF]))) (by simp[go_sem,aG,aF]) ⟨rfl,rfl⟩
   ·have a2: ¬97<=bt s j:=by omega
    by_cases a1:48<=bt s j
    ·have b1:=n2 a1
     repeat' (first|(refine aE fun _ _=>?_)|refine zHg ?_|simp(disch:=omega) [go_sem,h1,n1,a1,a2,a3,b1,aF]|refine zAo ?_|refine zDr 11 bA ?_|refine zDr 94 bA ?_|fail)
     refine dN ⟨121,[(2,.sc (.string (s.extract k j)))],aG s j⟩ [.sc (.string (s.extract k j))] (Le.renSub [] [] (by simp[go_sem,aG,aF]) (by simp[go_sem,aG,aF]) (Le.sub4 rfl (by simp[go_sem,aG,aF]))) (by simp[go_sem,aG,aF]) ⟨rfl,rfl⟩
    ·repeat' (first|(refine aE fun _ _=>?_)|refine zHg ?_|simp(disch:=omega) [go_sem,h1,n1,a1,a2,a3,aF]|refine zAo ?_|refine zDr 11 bA ?_|refine zDr 94 bA ?_|fail)
     refine dN ⟨121,[(2,.sc (.string (s.extract k j)))],aG s j⟩ [.sc (.string (s.extract k j))] (Le.renSub [] [] (by simp[go_sem,aG,aF]) (by simp[go_sem,aG,aF]) (Le.sub4 rfl (by simp[go_sem,aG,aF]))) (by simp[go_sem,aG,aF]) ⟨rfl,rfl⟩
  ·have hnx:=aFq h1 h2
   have h3:=cZ2 h2
   rw[he]at hnx
   rcases h3 with h3|⟨a1,b1⟩|⟨a2,b2⟩|⟨a3,b3⟩
   ·repeat' (first|(refine aE fun _ _=>?_)|refine zHg ?_|(refine(hAA.next (j+1) (Le.sub4 rfl (by simp[go_sem])) (by(try dsimp only);omega) ?_))|simp(disch:=omega) [go_sem,h1,h3,aF]|refine zDr 94 bA ?_|fail)
    exact⟨by omega,by omega,hnx.symm⟩
   ·have n1: ¬bt s j=45:=by omega
    repeat' (first|(refine aE fun _ _=>?_)|refine zHg ?_|(refine(hAA.next (j+1) (Le.sub4 rfl (by simp[go_sem])) (by(try dsimp only);omega) ?_))|simp(disch:=omega) [go_sem,h1,n1,a1,b1,aF]|refine zDr 94 bA ?_|fail)
    exact⟨by omega,by omega,hnx.symm⟩
   ·have n1: ¬bt s j=45:=by omega
    have a1:48<=bt s j:=by omega
    have b1: ¬bt s j<=57:=by omega
    repeat' (first|(refine aE fun _ _=>?_)|refine zHg ?_|(refine(hAA.next (j+1) (Le.sub4 rfl (by simp[go_sem])) (by(try dsimp only);omega) ?_))|simp(disch:=omega) [go_sem,h1,n1,a1,b1,a2,b2,aF]|refine zDr 94 bA ?_|fail)
    exact⟨by omega,by omega,hnx.symm⟩
   ·have n1: ¬bt s j=45:=by omega
    have a1:48<=bt s j:=by omega
    have b1: ¬bt s j<=57:=by omega
    have a2: ¬97<=bt s j:=by omega
    repeat' (first|(refine aE fun _ _=>?_)|refine zHg ?_|(refine(hAA.next (j+1) (Le.sub4 rfl (by simp[go_sem])) (by(try dsimp only);omega) ?_))|simp(disch:=omega) [go_sem,h1,n1,a1,b1,a2,a3,b3,aF]|refine zDr 94 bA ?_|fail)
    exact⟨by omega,by omega,hnx.symm⟩
 ·have hz:nK qU s k=j:=by rw[<-he];exact Y0 (by simp[h1])
  clear he
  generalize nK qU s k=z at*
  subst z
  repeat' (first|(refine aE fun _ _=>?_)|refine zHg ?_|simp(disch:=omega) [go_sem,h1,aF]|refine zAo ?_|refine zDr 11 bA ?_|refine zDr 94 bA ?_|fail)
  refine dN ⟨121,[(2,.sc (.string (s.extract k j)))],aG s j⟩ [.sc (.string (s.extract k j))] (Le.renSub [] [] (by simp[go_sem,aG,aF]) (by simp[go_sem,aG,aF]) (Le.sub4 rfl (by simp[go_sem,aG,aF]))) (by simp[go_sem,aG,aF]) ⟨rfl,rfl⟩
theorem L4 (s:ByteArray) (hs:s.size<=1000000): ∀(n i:Nat) (w:ByteArray),s.size - i<n->i<=s.size->MCall prog 60 [.ptr 1000 0 0,.sc (.string w)] (aG s i) (fun r o'=>r=eT (cD s w i).1/\o'=aG s (cD s w i).2)
 |0,i,w,hn,hi=>absurd hn (Nat.not_lt_zero _)
 |n+1,i,w,hn,hi=>by
  have ih:=L4 s hs n
  have hsg:=B5 s i 40 hs hi
  have hle:=sW (s:=s) (c:=40) hi
  cases hb:bT s 40 i
  ·rw[iG hb]
   rw[hb]at hsg
   refine MCall.loose (x:= .agg [.sc (.string w),.list false true []]) (o2:=(4,⟨false,false,false,2,[.agg [.sc (.string w),.list false true []]],0⟩)::aG s (aW s 40 i)) ?_ (by simp[go_sem]) (by simp[go_sem]) (by simp[go_sem])
   generalize aW s 40 i=j at*
   refine dM func60 call60 rfl (by simp[ntmps60]) ?_;simp only[ntmps60,results60]
   skip
   repeat' (first|(refine aE fun _ _=>?_)|refine zHg ?_|simp(disch:=omega) [go_sem,aG,aF])
   refine bO [] [] 10000 _ _ (Fits.mk' (by simp[go_sem,aG,aF]) (by simp[go_sem,aG,aF])) (by simp[go_sem,aG,aF]) (by simp[go_sem,aG,aF]) (hsg) (by simp[go_sem,aG,aF]) (by simp[go_sem,aG,aF]) ?_
   repeat' (first|(refine aE fun _ _=>?_)|refine zHg ?_|simp(disch:=omega) [go_sem,aG,aF])
   refine dN ⟨39,[(4,.ptr 4 0 0)],(4,⟨false,false,false,2,[.agg [.sc (.string w),.list false true []]],0⟩)::aG s j⟩ [.agg [.sc (.string w),.list false true []]] (Le.renSub [] [] (by simp[go_sem,aG,aF]) (by simp[go_sem,aG,aF]) (Le.sub4 rfl (by simp[go_sem,aG,aF]))) (by simp[go_sem,aG,aF]) ⟨rfl,rfl⟩
  ·rw[kK hb]
   rw[hb]at hsg
   have hgt:=yD hb
   generalize aW s 40 i=j at*
   dsimp only
   generalize hG:dY s [] j=G at*
   have hY:eT (.mk w G.1)=Ab.loose (.agg [.sc (.string w),.list false (decide (G.1.length=0)) (G.1.map aP)]):=rfl
   rw[hY]
   have key:MCall prog 60 [.ptr 1000 0 0,.sc (.string w)] (aG s i) (fun r o'=>r= .agg [.sc (.string w),if G.1.length=0 then .list false true []else .ref 900 0 G.1.length]/\o'=(4,⟨false,false,false,2,[.agg [.sc (.string w),if G.1.length=0 then .list false true []else .ref 900 0 G.1.length]],0⟩)::(1000,aF s (aW s 41 G.2))::(if G.1.length=0 then[]else[(900,⟨true,false,false,2,G.1.map aP,0⟩)])):=by
    refine dM func60 call60 rfl (by simp[ntmps60]) ?_;simp only[ntmps60,results60]
    skip
    repeat' (first|(refine aE fun _ _=>?_)|refine zHg ?_|simp(disch:=omega) [go_sem,aG,aF])
    refine bO [] [] 10000 _ _ (Fits.mk' (by simp[go_sem,aG,aF]) (by simp[go_sem,aG,aF])) (by simp[go_sem,aG,aF]) (by simp[go_sem,aG,aF]) (hsg) (by simp[go_sem,aG,aF]) (by simp[go_sem,aG,aF]) ?_
    repeat' (first|(refine aE fun _ _=>?_)|refine zHg ?_|simp(disch:=omega) [go_sem,aG,aF])
    refine bZ [0,4,5] [5,900,1000] (fun y:List Tm×Nat=> []) (fun y:List Tm×Nat=>(5,⟨false,false,false,2,[.agg [.sc (.string w),if y.1.length=0 then .list false true []else .ref 900 0 y.1.length]],0⟩)::(1000,aF s y.2)::(if y.1.length=0 then[]else[(900,⟨true,false,false,2,y.1.map aP,0⟩)])) (fun y:List Tm×Nat=>s.size - y.2) (fun y:List Tm×Nat=>i<y.2/\y.2<=s.size/\y.1.length<=y.2/\dY s y.1 y.2=G) (([],j)) (Le.sub4 rfl (by simp[go_sem,aG,aF])) ⟨?_⟩ ?_
    ·exact⟨hgt,hle,Nat.zero_le _,hG⟩
    intro y ⟨hy1,hy2,hy3,hag⟩ AA hAA;simp only[kL,Nat.reduceBEq,Nat.reduceEqDiff]
    obtain⟨a,k⟩:=y
    dsimp only at hy1 hy2 hy3 hag ⊢
    clear hG
    by_cases hlt:k<s.size
    ·have hwd:=B6 s k hs hy2
     have hwl:=nM (s:=s) hy2
     have hwg:=nL (s:=s) (i:=k)
     have ht:=ih (aZ s k) (bL s k) (by omega) hwl
     have htl:=yE (s:=s) (w:=bL s k) hwl
     have htg:=wN (s:=s) (w:=bL s k) (i:=aZ s k)
     have hcm:=B5 s (cD s (bL s k) (aZ s k)).2 44 hs htl
     have hcl:=sW (s:=s) (c:=44) htl
     have hlim:a.length<=1000000:=by omega
     cases hc:bT s 44 (cD s (bL s k) (aZ s k)).2
     ·rw[iK hlt hc]at hag
      subst hag
      rw[hc]at hcm
      have hsz:=B5 s (aW s 44 (cD s (bL s k) (aZ s k)).2) 41 hs hcl
      generalize aW s 44 (cD s (bL s k) (aZ s k)).2=k3 at*
      generalize cD s (bL s k) (aZ s k)=q at*
      generalize bL s k=wd at*
      generalize aZ s k=k1 at*
      obtain⟨tm,k2⟩:=q
      dsimp only at*
      generalize aW s 41 k3=k4 at*
      by_cases h0:a.length=0
      ·obtain rfl:=List.eq_nil_of_length_eq_zero h0
       repeat' (first|(refine aE fun _ _=>?_)|refine zHg ?_|simp(disch:=omega) [go_sem,hlt,aG,aF]|refine zDr 10 bA ?_|fail)
       refine bO [] [] 10000 _ _ (Fits.mk' (by simp[go_sem,aG,aF]) (by simp[go_sem,aG,aF])) (by simp[go_sem,aG,aF]) (by simp[go_sem,aG,aF]) (hwd) (by simp[go_sem,aG,aF]) (by simp[go_sem,aG,aF]) ?_
       repeat' (first|(refine aE fun _ _=>?_)|refine zHg ?_|(with_reducible refine eO ?_;first|(exact eL)|(refine zSkip ?_)|(refine eM rfl ?_ ?_))|(with_reducible refine eN ?_;first|(refine zDone ?_)|(refine zQu 0 rfl rfl rfl rfl ?_)|(refine zQu 1 rfl rfl rfl rfl ?_)|(refine zQu 2 rfl rfl rfl rfl ?_)|(refine zQu 3 rfl rfl rfl rfl ?_)|(refine zQu 7 rfl rfl rfl rfl ?_)|(refine zAll ?_;show dR _ _ _ _ _ _ _))|with_reducible refine eJ ?_|simp(disch:=omega) [go_sem,hlt,aG,aF]|refine zAny bA ?_|fail)
       all_goals refine bO [] [] 10000 _ _ (Fits.mk' (by simp[go_sem,aG,aF]) (by simp[go_sem,aG,aF])) (by simp[go_sem,aG,aF]) (by simp[go_sem,aG,aF]) (ht) (by simp[go_sem,aG,aF]) (by simp[go_sem,aG,aF]) ?_
       all_goals repeat' (first|(refine aE fun _ _=>?_)|refine zHg ?_|(with_reducible refine eO ?_;first|(exact eL)|(refine zSkip ?_)|(refine eM rfl ?_ ?_))|(with_reducible refine eN ?_;first|(refine zDone ?_)|(refine zQu 0 rfl rfl rfl rfl ?_)|(refine zQu 1 rfl rfl rfl rfl ?_)|(refine zQu 2 rfl rfl rfl rfl ?_)|(refine zQu 3 rfl rfl rfl rfl ?_)|(refine zQu 7 rfl rfl rfl rfl ?_)|(refine zAll ?_;show dR _ _ _ _ _ _ _))|with_reducible refine eJ ?_|simp(disch:=omega) [go_sem,hlt,aG,aF])
       all_goals refine bO [] [] 10000 _ _ (Fits.mk' (by simp[go_sem,aG,aF]) (by simp[go_sem,aG,aF])) (by simp[go_sem,aG,aF]) (by simp[go_sem,aG,aF]) (hcm) (by simp[go_sem,aG,aF]) (by simp[go_sem,aG,aF]) ?_
       all_goals repeat' (first|(refine aE fun _ _=>?_)|refine zHg ?_|simp(disch:=omega) [go_sem,hlt,aG,aF])
       all_goals refine bO [] [] 10000 _ _ (Fits.mk' (by simp[go_sem,aG,aF]) (by simp[go_sem,aG,aF])) (by simp[go_sem,aG,aF]) (by simp[go_sem,aG,aF]) (hsz) (by simp[go_sem,aG,aF]) (by simp[go_sem,aG,aF]) ?_
       all_goals repeat' (first|(refine aE fun _ _=>?_)|refine zHg ?_|simp(disch:=omega) [go_sem,hlt,aG,aF])
       all_goals refine dN ⟨39,[(4,.ptr 4 0 0)],(4,⟨false,false,false,2,[.agg [.sc (.string w),.ref 900 0 1]],0⟩)::(1000,aF s k4):: [(900,⟨true,false,false,2,[eT tm],0⟩)]⟩ [.agg [.sc (.string w),.ref 900 0 1]] (Le.renSub [(31,900)] [(900,31)] (by simp[go_sem,aG,aF]) (by simp[go_sem,aG,aF]) (Le.sub4 rfl (by simp[go_sem,aG,aF]))) (by simp[go_sem,aG,aF]) ⟨rfl,rfl⟩
      ·
       repeat' (first|(refine aE fun _ _=>?_)|refine zHg ?_|simp(disch:=omega) [go_sem,hlt,h0,aG,aF]|refine zDr 10 bA ?_|fail)
       refine bO [] [] 10000 _ _ (Fits.mk' (by simp[go_sem,aG,aF]) (by simp[go_sem,aG,aF])) (by simp[go_sem,aG,aF]) (by simp[go_sem,aG,aF]) (hwd) (by simp[go_sem,aG,aF]) (by simp[go_sem,aG,aF]) ?_
       repeat' (first|(refine aE fun _ _=>?_)|refine zHg ?_|(with_reducible refine eO ?_;first|(exact eL)|(refine zSkip ?_)|(refine eM rfl ?_ ?_))|(with_reducible refine eN ?_;first|(refine zDone ?_)|(refine zQu 0 rfl rfl rfl rfl ?_)|(refine zQu 1 rfl rfl rfl rfl ?_)|(refine zQu 2 rfl rfl rfl rfl ?_)|(refine zQu 3 rfl rfl rfl rfl ?_)|(refine zQu 7 rfl rfl rfl rfl ?_)|(refine zAll ?_;show dR _ _ _ _ _ _ _))|with_reducible refine eJ ?_|simp(disch:=omega) [go_sem,hlt,h0,aG,aF]|refine zAny bA ?_|fail)
       all_goals refine bO [] [] 10000 _ _ (Fits.mk' (by simp[go_sem,aG,aF]) (by simp[go_sem,aG,aF])) (by simp[go_sem,aG,aF]) (by simp[go_sem,aG,aF]) (ht) (by simp[go_sem,aG,aF]) (by simp[go_sem,aG,aF]) ?_
       all_goals repeat' (first|(refine aE fun _ _=>?_)|refine zHg ?_|(with_reducible refine eO ?_;first|(exact eL)|(refine zSkip ?_)|(refine eM rfl ?_ ?_))|(with_reducible refine eN ?_;first|(refine zDone ?_)|(refine zQu 0 rfl rfl rfl rfl ?_)|(refine zQu 1 rfl rfl rfl rfl ?_)|(refine zQu 2 rfl rfl rfl rfl ?_)|(refine zQu 3 rfl rfl rfl rfl ?_)|(refine zQu 7 rfl rfl rfl rfl ?_)|(refine zAll ?_;show dR _ _ _ _ _ _ _))|with_reducible refine eJ ?_|simp(disch:=omega) [go_sem,hlt,h0,aG,aF]|refine zAo ?_|fail)
       all_goals refine bO [] [] 10000 _ _ (Fits.mk' (by simp[go_sem,aG,aF]) (by simp[go_sem,aG,aF])) (by simp[go_sem,aG,aF]) (by simp[go_sem,aG,aF]) (hcm) (by simp[go_sem,aG,aF]) (by simp[go_sem,aG,aF]) ?_
       all_goals repeat' (first|(refine aE fun _ _=>?_)|refine zHg ?_|simp(disch:=omega) [go_sem,hlt,h0,aG,aF])
       all_goals refine bO [] [] 10000 _ _ (Fits.mk' (by simp[go_sem,aG,aF]) (by simp[go_sem,aG,aF])) (by simp[go_sem,aG,aF]) (by simp[go_sem,aG,aF]) (hsz) (by simp[go_sem,aG,aF]) (by simp[go_sem,aG,aF]) ?_
       all_goals repeat' (first|(refine aE fun _ _=>?_)|refine zHg ?_|simp(disch:=omega) [go_sem,hlt,h0,aG,aF])
       all_goals refine dN ⟨39,[(4,.ptr 4 0 0)],(4,⟨false,false,false,2,[.agg [.sc (.string w),.ref 900 0 (a.length+1)]],0⟩)::(1000,aF s k4):: [(900,⟨true,false,false,2,a.map aP++ [eT tm],0⟩)]⟩ [.agg [.sc (.string w),.ref 900 0 (a.length+1)]] (Le.renSub [] [] (by simp[go_sem,aG,aF]) (by simp[go_sem,aG,aF]) (Le.sub4 rfl (by simp[go_sem,aG,aF]))) (by simp[go_sem,aG,aF]) ⟨rfl,rfl⟩
     ·rw[pT hlt hc]at hag
      have hcg:=yD hc
      rw[hc]at hcm
      generalize aW s 44 (cD s (bL s k) (aZ s k)).2=k3 at*
      generalize cD s (bL s k) (aZ s k)=q at*
      generalize bL s k=wd at*
      generalize aZ s k=k1 at*
      obtain⟨tm,k2⟩:=q
      dsimp only at*
      by_cases h0:a.length=0
      ·obtain rfl:=List.eq_nil_of_length_eq_zero h0
       repeat' (first|(refine aE fun _ _=>?_)|refine zHg ?_|simp(disch:=omega) [go_sem,hlt,aG,aF]|refine zDr 10 bA ?_|fail)
       refine bO [] [] 10000 _ _ (Fits.mk' (by simp[go_sem,aG,aF]) (by simp[go_sem,aG,aF])) (by simp[go_sem,aG,aF]) (by simp[go_sem,aG,aF]) (hwd) (by simp[go_sem,aG,aF]) (by simp[go_sem,aG,aF]) ?_
       repeat' (first|(refine aE fun _ _=>?_)|refine zHg ?_|(with_reducible refine eO ?_;first|(exact eL)|(refine zSkip ?_)|(refine eM rfl ?_ ?_))|(with_reducible refine eN ?_;first|(refine zDone ?_)|(refine zQu 0 rfl rfl rfl rfl ?_)|(refine zQu 1 rfl rfl rfl rfl ?_)|(refine zQu 2 rfl rfl rfl rfl ?_)|(refine zQu 3 rfl rfl rfl rfl ?_)|(refine zQu 7 rfl rfl rfl rfl ?_)|(refine zAll ?_;show dR _ _ _ _ _ _ _))|with_reducible refine eJ ?_|simp(disch:=omega) [go_sem,hlt,aG,aF]|refine zAny bA ?_|fail)
       all_goals refine bO [] [] 10000 _ _ (Fits.mk' (by simp[go_sem,aG,aF]) (by simp[go_sem,aG,aF])) (by simp[go_sem,aG,aF]) (by simp[go_sem,aG,aF]) (ht) (by simp[go_sem,aG,aF]) (by simp[go_sem,aG,aF]) ?_
       all_goals repeat' (first|(refine aE fun _ _=>?_)|refine zHg ?_|(with_reducible refine eO ?_;first|(exact eL)|(refine zSkip ?_)|(refine eM rfl ?_ ?_))|(with_reducible refine eN ?_;first|(refine zDone ?_)|(refine zQu 0 rfl rfl rfl rfl ?_)|(refine zQu 1 rfl rfl rfl rfl ?_)|(refine zQu 2 rfl rfl rfl rfl ?_)|(refine zQu 3 rfl rfl rfl rfl ?_)|(refine zQu 7 rfl rfl rfl rfl ?_)|(refine zAll ?_;show dR _ _ _ _ _ _ _))|with_reducible refine eJ ?_|simp(disch:=omega) [go_sem,hlt,aG,aF])
       all_goals refine bO [] [] 10000 _ _ (Fits.mk' (by simp[go_sem,aG,aF]) (by simp[go_sem,aG,aF])) (by simp[go_sem,aG,aF]) (by simp[go_sem,aG,aF]) (hcm) (by simp[go_sem,aG,aF]) (by simp[go_sem,aG,aF]) ?_
       all_goals repeat' (first|(refine aE fun _ _=>?_)|refine zHg ?_|(refine(hAA.next (([tm],k3)) (Le.renSub [(31,900)] [(900,31)] (by simp[go_sem]) (by simp[go_sem]) (Le.sub4 rfl (by simp[go_sem]))) (by(try dsimp only);omega) ?_))|simp(disch:=omega) [go_sem,hlt,aG,aF])
       try any_goals omega
       all_goals exact⟨by omega,by omega,by(try simp);omega,hag⟩
      ·
       repeat' (first|(refine aE fun _ _=>?_)|refine zHg ?_|simp(disch:=omega) [go_sem,hlt,h0,aG,aF]|refine zDr 10 bA ?_|fail)
       refine bO [] [] 10000 _ _ (Fits.mk' (by simp[go_sem,aG,aF]) (by simp[go_sem,aG,aF])) (by simp[go_sem,aG,aF]) (by simp[go_sem,aG,aF]) (hwd) (by simp[go_sem,aG,aF]) (by simp[go_sem,aG,aF]) ?_
       repeat' (first|(refine aE fun _ _=>?_)|refine zHg ?_|(with_reducible refine eO ?_;first|(exact eL)|(refine zSkip ?_)|(refine eM rfl ?_ ?_))|(with_reducible refine eN ?_;first|(refine zDone ?_)|(refine zQu 0 rfl rfl rfl rfl ?_)|(refine zQu 1 rfl rfl rfl rfl ?_)|(refine zQu 2 rfl rfl rfl rfl ?_)|(refine zQu 3 rfl rfl rfl rfl ?_)|(refine zQu 7 rfl rfl rfl rfl ?_)|(refine zAll ?_;show dR _ _ _ _ _ _ _))|with_reducible refine eJ ?_|simp(disch:=omega) [go_sem,hlt,h0,aG,aF]|refine zAny bA ?_|fail)
       all_goals refine bO [] [] 10000 _ _ (Fits.mk' (by simp[go_sem,aG,aF]) (by simp[go_sem,aG,aF])) (by simp[go_sem,aG,aF]) (by simp[go_sem,aG,aF]) (ht) (by simp[go_sem,aG,aF]) (by simp[go_sem,aG,aF]) ?_
       all_goals repeat' (first|(refine aE fun _ _=>?_)|refine zHg ?_|(with_reducible refine eO ?_;first|(exact eL)|(refine zSkip ?_)|(refine eM rfl ?_ ?_))|(with_reducible refine eN ?_;first|(refine zDone ?_)|(refine zQu 0 rfl rfl rfl rfl ?_)|(refine zQu 1 rfl rfl rfl rfl ?_)|(refine zQu 2 rfl rfl rfl rfl ?_)|(refine zQu 3 rfl rfl rfl rfl ?_)|(refine zQu 7 rfl rfl rfl rfl ?_)|(refine zAll ?_;show dR _ _ _ _ _ _ _))|with_reducible refine eJ ?_|simp(disch:=omega) [go_sem,hlt,h0,aG,aF]|refine zAo ?_|fail)
       all_goals refine bO [] [] 10000 _ _ (Fits.mk' (by simp[go_sem,aG,aF]) (by simp[go_sem,aG,aF])) (by simp[go_sem,aG,aF]) (by simp[go_sem,aG,aF]) (hcm) (by simp[go_sem,aG,aF]) (by simp[go_sem,aG,aF]) ?_
       all_goals repeat' (first|(refine aE fun _ _=>?_)|refine zHg ?_|(refine(hAA.next ((a++ [tm],k3)) (Le.sub4 rfl (by simp[go_sem])) (by(try dsimp only);omega) ?_))|simp(disch:=omega) [go_sem,hlt,h0,aG,aF])
       try any_goals omega
       all_goals exact⟨by omega,by omega,by(try simp);omega,hag⟩
    ·rw[aOi hlt]at hag
     subst hag
     have hsz:=B5 s k 41 hs hy2
     dsimp only at*
     generalize aW s 41 k=k4 at*
     by_cases h0:a.length=0
     ·obtain rfl:=List.eq_nil_of_length_eq_zero h0
      repeat' (first|(refine aE fun _ _=>?_)|refine zHg ?_|simp(disch:=omega) [go_sem,hlt,aG,aF]|refine zDr 10 bA ?_|fail)
      refine bO [] [] 10000 _ _ (Fits.mk' (by simp[go_sem,aG,aF]) (by simp[go_sem,aG,aF])) (by simp[go_sem,aG,aF]) (by simp[go_sem,aG,aF]) (hsz) (by simp[go_sem,aG,aF]) (by simp[go_sem,aG,aF]) ?_
      repeat' (first|(refine aE fun _ _=>?_)|refine zHg ?_|simp(disch:=omega) [go_sem,hlt,aG,aF])
      refine dN ⟨39,[(4,.ptr 4 0 0)],(4,⟨false,false,false,2,[.agg [.sc (.string w),.list false true []]],0⟩)::(1000,aF s k4):: []⟩ [.agg [.sc (.string w),.list false true []]] (Le.renSub [] [] (by simp[go_sem,aG,aF]) (by simp[go_sem,aG,aF]) (Le.sub4 rfl (by simp[go_sem,aG,aF]))) (by simp[go_sem,aG,aF]) ⟨rfl,rfl⟩
     ·repeat' (first|(refine aE fun _ _=>?_)|refine zHg ?_|simp(disch:=omega) [go_sem,hlt,h0,aG,aF]|refine zDr 10 bA ?_|fail)
      refine bO [] [] 10000 _ _ (Fits.mk' (by simp[go_sem,aG,aF]) (by simp[go_sem,aG,aF])) (by simp[go_sem,aG,aF]) (by simp[go_sem,aG,aF]) (hsz) (by simp[go_sem,aG,aF]) (by simp[go_sem,aG,aF]) ?_
      repeat' (first|(refine aE fun _ _=>?_)|refine zHg ?_|simp(disch:=omega) [go_sem,hlt,h0,aG,aF])
      refine dN ⟨39,[(4,.ptr 4 0 0)],(4,⟨false,false,false,2,[.agg [.sc (.string w),.ref 900 0 a.length]],0⟩)::(1000,aF s k4):: [(900,⟨true,false,false,2,a.map aP,0⟩)]⟩ [.agg [.sc (.string w),.ref 900 0 a.length]] (Le.renSub [] [] (by simp[go_sem,aG,aF]) (by simp[go_sem,aG,aF]) (Le.sub4 rfl (by simp[go_sem,aG,aF]))) (by simp[go_sem,aG,aF]) ⟨rfl,rfl⟩
   by_cases h0:G.1.length=0
   ·have hn:=List.eq_nil_of_length_eq_zero h0
    simp only[hn,List.length_nil,if_true,decide_true,List.map_nil]at key ⊢
    exact key.shared rfl (by simp[go_sem]) (by simp[go_sem]) (by simp[go_sem])
   ·simp only[h0,if_false,decide_false]at key ⊢
    refine key.shared (s':=?_) (y:= .agg [.sc (.string w),.list false false (G.1.map aP)]) (by simp[go_sem,dC];rfl) (by simp[go_sem]) (by simp[go_sem]) (by simp[go_sem])
abbrev cO (s:ByteArray) (i:Nat):AObj:=⟨false,false,false,2,[.agg [.sc (.string s),nt .i64 i]],0⟩
theorem Y6 (s:ByteArray) (hs:s.size<=1000000):ACall prog 31 [.sc (.string s)] (fun r=>r= .own 2 ((sX s).map aP)):=by
 unfold sX
 generalize hG:dY s [] 0=G at*
 refine ACall.own_nil ?_
 refine aX func31 call31 rfl (by simp[ntmps31]) ?_;simp only[ntmps31,results31]
 repeat' (first|(refine aE fun _ _=>?_)|refine zHg ?_|simp(disch:=omega) [go_sem])
 refine bZ [3] [7,900] (fun y:List Tm×Nat=> [(4,.ref 900 0 y.1.length)]) (fun y:List Tm×Nat=> [(7,cO s y.2),(900,⟨true,false,false,2,y.1.map aP,0⟩)]) (fun y:List Tm×Nat=>s.size - y.2) (fun y:List Tm×Nat=>y.2<=s.size/\y.1.length<=y.2/\dY s y.1 y.2=G) (([],0)) (by refine Le.trans ?_ (Le.nil (i:=4) (T:=900) (es:=2) rfl);exact(Le.sub4 rfl (by simp[go_sem,cO,List.map_nil,List.length_nil]))) ⟨?_⟩ ?_
 ·exact⟨Nat.zero_le _,Nat.zero_le _,hG⟩
 intro y ⟨hy2,hy3,hag⟩ AA hAA;simp only[kL,Nat.reduceBEq,Nat.reduceEqDiff]
 obtain⟨a,k⟩:=y
 dsimp only at hy2 hy3 hag ⊢
 clear hG
 by_cases hlt:k<s.size
 ·have hwd:=B6 s k hs hy2
  have hwl:=nM (s:=s) hy2
  have hwg:=nL (s:=s) (i:=k)
  have ht:=L4 s hs (s.size+1) (aZ s k) (bL s k) (by omega) hwl
  have htl:=yE (s:=s) (w:=bL s k) hwl
  have htg:=wN (s:=s) (w:=bL s k) (i:=aZ s k)
  have hcm:=B5 s (cD s (bL s k) (aZ s k)).2 44 hs htl
  have hcl:=sW (s:=s) (c:=44) htl
  have hlim:a.length<=1000000:=by omega
  cases hc:bT s 44 (cD s (bL s k) (aZ s k)).2
  ·rw[iK hlt hc]at hag
   subst hag
   rw[hc]at hcm
   generalize aW s 44 (cD s (bL s k) (aZ s k)).2=k3 at*
   generalize cD s (bL s k) (aZ s k)=q at*
   generalize bL s k=wd at*
   generalize aZ s k=k1 at*
   obtain⟨tm,k2⟩:=q
   dsimp only at*
   repeat' (first|(refine aE fun _ _=>?_)|refine zHg ?_|simp(disch:=omega) [go_sem,hlt,cO]|refine zDr 10 bA ?_|fail)
   refine bO [(1000,7)] [(7,1000)] 10000 _ _ (Fits.mk' (by simp[go_sem,aG,aF,cO]) (by simp[go_sem,aG,aF,cO])) (by simp[go_sem,aG,aF,cO]) (by simp[go_sem,aG,aF,cO]) (hwd) (by simp[go_sem,aG,aF,cO]) (by simp[go_sem,aG,aF,cO]) ?_
   repeat' (first|(refine aE fun _ _=>?_)|refine zHg ?_|simp(disch:=omega) [go_sem,hlt,cO])
   refine bO [(1000,7)] [(7,1000)] 10000 _ _ (Fits.mk' (by simp[go_sem,aG,aF,cO]) (by simp[go_sem,aG,aF,cO])) (by simp[go_sem,aG,aF,cO]) (by simp[go_sem,aG,aF,cO]) (ht) (by simp[go_sem,aG,aF,cO]) (by simp[go_sem,aG,aF,cO]) ?_
   repeat' (first|(refine aE fun _ _=>?_)|refine zHg ?_|simp(disch:=omega) [go_sem,hlt,cO]|refine zAo ?_|fail)
   refine bO [(1000,7)] [(7,1000)] 10000 _ _ (Fits.mk' (by simp[go_sem,aG,aF,cO]) (by simp[go_sem,aG,aF,cO])) (by simp[go_sem,aG,aF,cO]) (by simp[go_sem,aG,aF,cO]) (hcm) (by simp[go_sem,aG,aF,cO]) (by simp[go_sem,aG,aF,cO]) ?_
   repeat' (first|(refine aE fun _ _=>?_)|refine zHg ?_|(refine aL [] ?_;simp[go_sem,hlt,cO])|simp(disch:=omega) [go_sem,hlt,cO])
  ·rw[pT hlt hc]at hag
   have hcg:=yD hc
   rw[hc]at hcm
   generalize aW s 44 (cD s (bL s k) (aZ s k)).2=k3 at*
   generalize cD s (bL s k) (aZ s k)=q at*
   generalize bL s k=wd at*
   generalize aZ s k=k1 at*
   obtain⟨tm,k2⟩:=q
   dsimp only at*
   repeat' (first|(refine aE fun _ _=>?_)|refine zHg ?_|simp(disch:=omega) [go_sem,hlt,cO]|refine zDr 10 bA ?_|fail)
   refine bO [(1000,7)] [(7,1000)] 10000 _ _ (Fits.mk' (by simp[go_sem,aG,aF,cO]) (by simp[go_sem,aG,aF,cO])) (by simp[go_sem,aG,aF,cO]) (by simp[go_sem,aG,aF,cO]) (hwd) (by simp[go_sem,aG,aF,cO]) (by simp[go_sem,aG,aF,cO]) ?_
   repeat' (first|(refine aE fun _ _=>?_)|refine zHg ?_|simp(disch:=omega) [go_sem,hlt,cO])
   refine bO [(1000,7)] [(7,1000)] 10000 _ _ (Fits.mk' (by simp[go_sem,aG,aF,cO]) (by simp[go_sem,aG,aF,cO])) (by simp[go_sem,aG,aF,cO]) (by simp[go_sem,aG,aF,cO]) (ht) (by simp[go_sem,aG,aF,cO]) (by simp[go_sem,aG,aF,cO]) ?_
   repeat' (first|(refine aE fun _ _=>?_)|refine zHg ?_|simp(disch:=omega) [go_sem,hlt,cO]|refine zAo ?_|fail)
   refine bO [(1000,7)] [(7,1000)] 10000 _ _ (Fits.mk' (by simp[go_sem,aG,aF,cO]) (by simp[go_sem,aG,aF,cO])) (by simp[go_sem,aG,aF,cO]) (by simp[go_sem,aG,aF,cO]) (hcm) (by simp[go_sem,aG,aF,cO]) (by simp[go_sem,aG,aF,cO]) ?_
   repeat' (first|(refine aE fun _ _=>?_)|refine zHg ?_|(refine(hAA.next ((a++ [tm],k3)) (Le.sub4 rfl (by simp[go_sem,cO])) (by(try dsimp only);omega) ?_))|simp(disch:=omega) [go_sem,hlt,cO])
   try any_goals omega
   exact⟨by omega,by(try simp);omega,hag⟩
 ·rw[aOi hlt]at hag
  subst hag
  repeat' (first|(refine aE fun _ _=>?_)|refine zHg ?_|(refine aL [] ?_;simp[go_sem,hlt,cO])|simp(disch:=omega) [go_sem,hlt,cO]|refine zDr 10 bA ?_|fail)
theorem cZ3 (s:ByteArray) (hs:s.size<=1000000) (i:Nat) (w:ByteArray) (hi:i<=s.size):MCall prog 59 [.ptr 1000 0 0,.sc (.string w)] (aG s i) (fun r o'=>r=fP (iR s w i).1/\o'=aG s (iR s w i).2):=by
 have ht:=L4 s hs (s.size+1) i w (by omega) hi
 have htl:=yE (s:=s) (w:=w) hi
 unfold iR
 generalize cD s w i=q at*
 obtain⟨H,j⟩:=q
 dsimp only at*
 generalize hG:jA s [] j=G at*
 have hY:fP ⟨H,G.1⟩=Ab.loose (.agg [.sc (.string H.name),.list false false (H.args.map aP),.list false (decide (G.1.length=0)) (G.1.map lV)]):=rfl
 rw[hY]
 have key:MCall prog 59 [.ptr 1000 0 0,.sc (.string w)] (aG s i) (fun r o'=>r= .agg [.sc (.string H.name),.list false false (H.args.map aP),if G.1.length=0 then .list false true []else .ref 900 0 G.1.length]/\o'=(4,⟨false,false,false,3,[.agg [.sc (.string H.name),.list false false (H.args.map aP),if G.1.length=0 then .list false true []else .ref 900 0 G.1.length]],0⟩)::(1000,aF s G.2)::(if G.1.length=0 then[]else[(900,⟨true,false,false,3,G.1.map lV,0⟩)])):=by
  refine dM func59 call59 rfl (by simp[ntmps59]) ?_;simp only[ntmps59,results59]
  skip
  skip
  repeat' (first|(refine aE fun _ _=>?_)|refine zHg ?_|simp(disch:=omega) [go_sem,aG,aF])
  refine bO [] [] 10000 _ _ (Fits.mk' (by simp[go_sem,aG,aF]) (by simp[go_sem,aG,aF])) (by simp[go_sem,aG,aF]) (by simp[go_sem,aG,aF]) (ht) (by simp[go_sem,aG,aF]) (by simp[go_sem,aG,aF]) ?_
  repeat' (first|(refine aE fun _ _=>?_)|refine zHg ?_|simp(disch:=omega) [go_sem,aG,aF])
  refine bZ [0,4,5] [5,900,1000] (fun y:List Lt×Nat=> []) (fun y:List Lt×Nat=>(5,⟨false,false,false,3,[.agg [.sc (.string H.name),.list false false (H.args.map aP),if y.1.length=0 then .list false true []else .ref 900 0 y.1.length]],0⟩)::(1000,aF s y.2)::(if y.1.length=0 then[]else[(900,⟨true,false,false,3,y.1.map lV,0⟩)])) (fun y:List Lt×Nat=>s.size - y.2) (fun y:List Lt×Nat=>y.2<=s.size/\y.1.length<=y.2/\jA s y.1 y.2=G) (([],j)) (Le.sub4 rfl (by simp[go_sem,aG,aF])) ⟨?_⟩ ?_
  ·exact⟨htl,Nat.zero_le _,hG⟩
  intro y ⟨hy2,hy3,hag⟩ AA hAA;simp only[kL,Nat.reduceBEq,Nat.reduceEqDiff]
  obtain⟨a,k⟩:=y
  dsimp only at hy2 hy3 hag ⊢
  clear hG ht
  by_cases hlt:k<s.size
  ·have hsg:=B5 s k 46 hs hy2
   have hsl:=sW (s:=s) (c:=46) hy2
   have hsge:=uI (s:=s) (c:=46) (i:=k)
   have hlim:a.length<=1000000:=by omega
   cases hb:bT s 46 k
   ·rw[hb]at hsg
    have hw1:=B6 s (aW s 46 k) hs hsl
    have hl1:=nM (s:=s) hsl
    have hg1:=nL (s:=s) (i:=aW s 46 k)
    have hw2:=B6 s (aZ s (aW s 46 k)) hs hl1
    have hl2:=nM (s:=s) hl1
    have hg2:=nL (s:=s) (i:=aZ s (aW s 46 k))
    have hw3:=B6 s (aZ s (aZ s (aW s 46 k))) hs hl2
    have hl3:=nM (s:=s) hl2
    have hg3:=nL (s:=s) (i:=aZ s (aZ s (aW s 46 k)))
    have hvoid:=fun hz=>cZ0 (s:=s) (a:=a) (i:=k) hlt hb hz
    have hgo:=fun hz=>Y5 (s:=s) (a:=a) (i:=k) hlt hb hz
    have hgt:=fun hz=>aF0 (s:=s) (i:=aW s 46 k) hz
    unfold fZ at hvoid hgo hgt
    by_cases hnot:bL s (aZ s (aW s 46 k))=aOs
    ·simp only[hnot,if_true,if_false]at hvoid hgo hgt
     rw[hnot]at hw2
     have ht:=L4 s hs (s.size+1) (aZ s (aZ s (aZ s (aW s 46 k)))) (bL s (aZ s (aZ s (aW s 46 k)))) (by omega) hl3
     have htl2:=yE (s:=s) (w:=bL s (aZ s (aZ s (aW s 46 k)))) hl3
     have htg:=wN (s:=s) (w:=bL s (aZ s (aZ s (aW s 46 k)))) (i:=aZ s (aZ s (aZ s (aW s 46 k))))
     by_cases hz:(bL s (aZ s (aZ s (aW s 46 k)))).size=0
     ·rw[hvoid hz]at hag
      subst hag
      have hz':bL s (aZ s (aZ s (aW s 46 k)))=⟨#[]⟩:=by
       refine ByteArray.ext ?_
       exact Array.eq_empty_of_size_eq_zero hz
      clear hvoid hgo hgt ht htl2 htg hz
      rw[hz']at hw3
      clear hz'
      generalize aZ s (aZ s (aZ s (aW s 46 k)))=k4 at*
      generalize aZ s (aZ s (aW s 46 k))=k3 at*
      generalize aZ s (aW s 46 k)=k2 at*
      generalize bL s (aW s 46 k)=w1 at*
      generalize aW s 46 k=k1 at*
      dsimp only at*
      by_cases h0:a.length=0
      ·obtain rfl:=List.eq_nil_of_length_eq_zero h0
       all_goals repeat' (first|(refine aE fun _ _=>?_)|refine zHg ?_|simp(disch:=omega) [go_sem,hlt,aG,aF]|refine zDn 11 15 bA ?_|fail)
       all_goals refine bO [] [] 10000 _ _ (Fits.mk' (by simp[go_sem,aG,aF]) (by simp[go_sem,aG,aF])) (by simp[go_sem,aG,aF]) (by simp[go_sem,aG,aF]) (hsg) (by simp[go_sem,aG,aF]) (by simp[go_sem,aG,aF]) ?_
       all_goals repeat' (first|(refine aE fun _ _=>?_)|refine zHg ?_|simp(disch:=omega) [go_sem,hlt,aG,aF])
       all_goals refine bO [] [] 10000 _ _ (Fits.mk' (by simp[go_sem,aG,aF]) (by simp[go_sem,aG,aF])) (by simp[go_sem,aG,aF]) (by simp[go_sem,aG,aF]) (hw1) (by simp[go_sem,aG,aF]) (by simp[go_sem,aG,aF]) ?_
       all_goals repeat' (first|(refine aE fun _ _=>?_)|refine zHg ?_|simp(disch:=omega) [go_sem,hlt,aG,aF])
       all_goals refine bO [] [] 10000 _ _ (Fits.mk' (by simp[go_sem,aG,aF]) (by simp[go_sem,aG,aF])) (by simp[go_sem,aG,aF]) (by simp[go_sem,aG,aF]) (hw2) (by simp[go_sem,aG,aF]) (by simp[go_sem,aG,aF]) ?_
       all_goals repeat' (first|(refine aE fun _ _=>?_)|refine zHg ?_|simp(disch:=omega) [go_sem,hlt,aG,aF])
       all_goals refine bO [] [] 10000 _ _ (Fits.mk' (by simp[go_sem,aG,aF]) (by simp[go_sem,aG,aF])) (by simp[go_sem,aG,aF]) (by simp[go_sem,aG,aF]) (hw3) (by simp[go_sem,aG,aF]) (by simp[go_sem,aG,aF]) ?_
       all_goals repeat' (first|(refine aE fun _ _=>?_)|refine zHg ?_|simp(disch:=omega) [go_sem,hlt,aG,aF])
       all_goals refine dN ⟨50,[(4,.ptr 4 0 0)],(4,⟨false,false,false,3,[.agg [.sc (.string H.name),.list false false (H.args.map aP),.list false true []]],0⟩)::(1000,aF s k4):: []⟩ [.agg [.sc (.string H.name),.list false false (H.args.map aP),.list false true []]] (Le.renSub [] [] (by simp[go_sem,aG,aF]) (by simp[go_sem,aG,aF]) (Le.sub4 rfl (by simp[go_sem,aG,aF]))) (by simp[go_sem,aG,aF]) ⟨rfl,rfl⟩
      ·have h0': ¬a= []:=fun h=>h0 (by rw[h];rfl)
       all_goals repeat' (first|(refine aE fun _ _=>?_)|refine zHg ?_|simp(disch:=omega) [go_sem,hlt,h0,h0',aG,aF]|refine zDn 11 15 bA ?_|fail)
       all_goals refine bO [] [] 10000 _ _ (Fits.mk' (by simp[go_sem,aG,aF]) (by simp[go_sem,aG,aF])) (by simp[go_sem,aG,aF]) (by simp[go_sem,aG,aF]) (hsg) (by simp[go_sem,aG,aF]) (by simp[go_sem,aG,aF]) ?_
       all_goals repeat' (first|(refine aE fun _ _=>?_)|refine zHg ?_|simp(disch:=omega) [go_sem,hlt,h0,h0',aG,aF])
       all_goals refine bO [] [] 10000 _ _ (Fits.mk' (by simp[go_sem,aG,aF]) (by simp[go_sem,aG,aF])) (by simp[go_sem,aG,aF]) (by simp[go_sem,aG,aF]) (hw1) (by simp[go_sem,aG,aF]) (by simp[go_sem,aG,aF]) ?_
       all_goals repeat' (first|(refine aE fun _ _=>?_)|refine zHg ?_|simp(disch:=omega) [go_sem,hlt,h0,h0',aG,aF])
       all_goals refine bO [] [] 10000 _ _ (Fits.mk' (by simp[go_sem,aG,aF]) (by simp[go_sem,aG,aF])) (by simp[go_sem,aG,aF]) (by simp[go_sem,aG,aF]) (hw2) (by simp[go_sem,aG,aF]) (by simp[go_sem,aG,aF]) ?_
       all_goals repeat' (first|(refine aE fun _ _=>?_)|refine zHg ?_|simp(disch:=omega) [go_sem,hlt,h0,h0',aG,aF])
       all_goals refine bO [] [] 10000 _ _ (Fits.mk' (by simp[go_sem,aG,aF]) (by simp[go_sem,aG,aF])) (by simp[go_sem,aG,aF]) (by simp[go_sem,aG,aF]) (hw3) (by simp[go_sem,aG,aF]) (by simp[go_sem,aG,aF]) ?_
       all_goals repeat' (first|(refine aE fun _ _=>?_)|refine zHg ?_|simp(disch:=omega) [go_sem,hlt,h0,h0',aG,aF])
       all_goals refine dN ⟨50,[(4,.ptr 4 0 0)],(4,⟨false,false,false,3,[.agg [.sc (.string H.name),.list false false (H.args.map aP),.ref 900 0 a.length]],0⟩)::(1000,aF s k4):: [(900,⟨true,false,false,3,a.map lV,0⟩)]⟩ [.agg [.sc (.string H.name),.list false false (H.args.map aP),.ref 900 0 a.length]] (Le.renSub [] [] (by simp[go_sem,aG,aF]) (by simp[go_sem,aG,aF]) (Le.sub4 rfl (by simp[go_sem,aG,aF]))) (by simp[go_sem,aG,aF]) ⟨rfl,rfl⟩
     ·rw[hgo hz]at hag
      have hgt1:=hgt hz
      have hz': ¬bL s (aZ s (aZ s (aW s 46 k)))=⟨#[]⟩:=fun h=>hz (by rw[h];rfl)
      clear hvoid hgo hgt hz
      generalize cD s (bL s (aZ s (aZ s (aW s 46 k)))) (aZ s (aZ s (aZ s (aW s 46 k))))=q at*
      generalize hwd:bL s (aZ s (aZ s (aW s 46 k)))=wd at*
      clear hwd
      generalize aZ s (aZ s (aZ s (aW s 46 k)))=k4 at*
      generalize aZ s (aZ s (aW s 46 k))=k3 at*
      generalize aZ s (aW s 46 k)=k2 at*
      generalize bL s (aW s 46 k)=w1 at*
      generalize aW s 46 k=k1 at*
      obtain⟨tm,k5⟩:=q
      dsimp only at*
      by_cases h0:a.length=0
      ·obtain rfl:=List.eq_nil_of_length_eq_zero h0
       all_goals repeat' (first|(refine aE fun _ _=>?_)|refine zHg ?_|simp(disch:=omega) [go_sem,hlt,hz',aG,aF]|refine zDn 11 15 bA ?_|fail)
       all_goals refine bO [] [] 10000 _ _ (Fits.mk' (by simp[go_sem,aG,aF]) (by simp[go_sem,aG,aF])) (by simp[go_sem,aG,aF]) (by simp[go_sem,aG,aF]) (hsg) (by simp[go_sem,aG,aF]) (by simp[go_sem,aG,aF]) ?_
       all_goals repeat' (first|(refine aE fun _ _=>?_)|refine zHg ?_|simp(disch:=omega) [go_sem,hlt,hz',aG,aF])
       all_goals refine bO [] [] 10000 _ _ (Fits.mk' (by simp[go_sem,aG,aF]) (by simp[go_sem,aG,aF])) (by simp[go_sem,aG,aF]) (by simp[go_sem,aG,aF]) (hw1) (by simp[go_sem,aG,aF]) (by simp[go_sem,aG,aF]) ?_
       all_goals repeat' (first|(refine aE fun _ _=>?_)|refine zHg ?_|simp(disch:=omega) [go_sem,hlt,hz',aG,aF])
       all_goals refine bO [] [] 10000 _ _ (Fits.mk' (by simp[go_sem,aG,aF]) (by simp[go_sem,aG,aF])) (by simp[go_sem,aG,aF]) (by simp[go_sem,aG,aF]) (hw2) (by simp[go_sem,aG,aF]) (by simp[go_sem,aG,aF]) ?_
       all_goals repeat' (first|(refine aE fun _ _=>?_)|refine zHg ?_|simp(disch:=omega) [go_sem,hlt,hz',aG,aF])
       all_goals refine bO [] [] 10000 _ _ (Fits.mk' (by simp[go_sem,aG,aF]) (by simp[go_sem,aG,aF])) (by simp[go_sem,aG,aF]) (by simp[go_sem,aG,aF]) (hw3) (by simp[go_sem,aG,aF]) (by simp[go_sem,aG,aF]) ?_
       all_goals repeat' (first|(refine aE fun _ _=>?_)|refine zHg ?_|(with_reducible refine eO ?_;first|(exact eL)|(refine zSkip ?_)|(refine eM rfl ?_ ?_))|(with_reducible refine eN ?_;first|(refine zDone ?_)|(refine zQu 0 rfl rfl rfl rfl ?_)|(refine zQu 1 rfl rfl rfl rfl ?_)|(refine zQu 2 rfl rfl rfl rfl ?_)|(refine zQu 3 rfl rfl rfl rfl ?_)|(refine zQu 4 rfl rfl rfl rfl ?_)|(refine zQu 6 rfl rfl rfl rfl ?_)|(refine zQu 7 rfl rfl rfl rfl ?_)|(refine zQu 8 rfl rfl rfl rfl ?_)|(refine zQu 9 rfl rfl rfl rfl ?_)|(refine zQu 10 rfl rfl rfl rfl ?_)|(refine zAll ?_;show dR _ _ _ _ _ _ _))|with_reducible refine eJ ?_|simp(disch:=omega) [go_sem,hlt,hz',aG,aF]|refine zAny bA ?_|fail)
       all_goals refine bO [] [] 10000 _ _ (Fits.mk' (by simp[go_sem,aG,aF]) (by simp[go_sem,aG,aF])) (by simp[go_sem,aG,aF]) (by simp[go_sem,aG,aF]) (ht) (by simp[go_sem,aG,aF]) (by simp[go_sem,aG,aF]) ?_
       all_goals repeat' (first|(refine aE fun _ _=>?_)|refine zHg ?_|(with_reducible refine eO ?_;first|(exact eL)|(refine zSkip ?_)|(refine eM rfl ?_ ?_))|(with_reducible refine eN ?_;first|(refine zDone ?_)|(refine zQu 0 rfl rfl rfl rfl ?_)|(refine zQu 1 rfl rfl rfl rfl ?_)|(refine zQu 2 rfl rfl rfl rfl ?_)|(refine zQu 3 rfl rfl rfl rfl ?_)|(refine zQu 4 rfl rfl rfl rfl ?_)|(refine zQu 6 rfl rfl rfl rfl ?_)|(refine zQu 7 rfl rfl rfl rfl ?_)|(refine zQu 8 rfl rfl rfl rfl ?_)|(refine zQu 9 rfl rfl rfl rfl ?_)|(refine zQu 10 rfl rfl rfl rfl ?_)|(refine zAll ?_;show dR _ _ _ _ _ _ _))|with_reducible refine eJ ?_|(refine(hAA.next (([⟨true,tm⟩],k5)) (Le.renSub [(47,900)] [(900,47)] (by simp[go_sem]) (by simp[go_sem]) (Le.sub4 rfl (by simp[go_sem]))) (by(try dsimp only);omega) ?_))|simp(disch:=omega) [go_sem,hlt,hz',aG,aF])
       try any_goals omega
       all_goals exact⟨by omega,by(try simp);omega,hag⟩
      ·have h0': ¬a= []:=fun h=>h0 (by rw[h];rfl)
       all_goals repeat' (first|(refine aE fun _ _=>?_)|refine zHg ?_|simp(disch:=omega) [go_sem,hlt,h0,h0',hz',aG,aF]|refine zDn 11 15 bA ?_|fail)
       all_goals refine bO [] [] 10000 _ _ (Fits.mk' (by simp[go_sem,aG,aF]) (by simp[go_sem,aG,aF])) (by simp[go_sem,aG,aF]) (by simp[go_sem,aG,aF]) (hsg) (by simp[go_sem,aG,aF]) (by simp[go_sem,aG,aF]) ?_
       all_goals repeat' (first|(refine aE fun _ _=>?_)|refine zHg ?_|simp(disch:=omega) [go_sem,hlt,h0,h0',hz',aG,aF])
       all_goals refine bO [] [] 10000 _ _ (Fits.mk' (by simp[go_sem,aG,aF]) (by simp[go_sem,aG,aF])) (by simp[go_sem,aG,aF]) (by simp[go_sem,aG,aF]) (hw1) (by simp[go_sem,aG,aF]) (by simp[go_sem,aG,aF]) ?_
       all_goals repeat' (first|(refine aE fun _ _=>?_)|refine zHg ?_|simp(disch:=omega) [go_sem,hlt,h0,h0',hz',aG,aF])
       all_goals refine bO [] [] 10000 _ _ (Fits.mk' (by simp[go_sem,aG,aF]) (by simp[go_sem,aG,aF])) (by simp[go_sem,aG,aF]) (by simp[go_sem,aG,aF]) (hw2) (by simp[go_sem,aG,aF]) (by simp[go_sem,aG,aF]) ?_
       all_goals repeat' (first|(refine aE fun _ _=>?_)|refine zHg ?_|simp(disch:=omega) [go_sem,hlt,h0,h0',hz',aG,aF])
       all_goals refine bO [] [] 10000 _ _ (Fits.mk' (by simp[go_sem,aG,aF]) (by simp[go_sem,aG,aF])) (by simp[go_sem,aG,aF]) (by simp[go_sem,aG,aF]) (hw3) (by simp[go_sem,aG,aF]) (by simp[go_sem,aG,aF]) ?_
       all_goals repeat' (first|(refine aE fun _ _=>?_)|refine zHg ?_|(with_reducible refine eO ?_;first|(exact eL)|(refine zSkip ?_)|(refine eM rfl ?_ ?_))|(with_reducible refine eN ?_;first|(refine zDone ?_)|(refine zQu 0 rfl rfl rfl rfl ?_)|(refine zQu 1 rfl rfl rfl rfl ?_)|(refine zQu 2 rfl rfl rfl rfl ?_)|(refine zQu 3 rfl rfl rfl rfl ?_)|(refine zQu 4 rfl rfl rfl rfl ?_)|(refine zQu 6 rfl rfl rfl rfl ?_)|(refine zQu 7 rfl rfl rfl rfl ?_)|(refine zQu 8 rfl rfl rfl rfl ?_)|(refine zQu 9 rfl rfl rfl rfl ?_)|(refine zQu 10 rfl rfl rfl rfl ?_)|(refine zAll ?_;show dR _ _ _ _ _ _ _))|with_reducible refine eJ ?_|simp(disch:=omega) [go_sem,hlt,h0,h0',hz',aG,aF]|refine zAny bA ?_|fail)
       all_goals refine bO [] [] 10000 _ _ (Fits.mk' (by simp[go_sem,aG,aF]) (by simp[go_sem,aG,aF])) (by simp[go_sem,aG,aF]) (by simp[go_sem,aG,aF]) (ht) (by simp[go_sem,aG,aF]) (by simp[go_sem,aG,aF]) ?_
       all_goals repeat' (first|(refine aE fun _ _=>?_)|refine zHg ?_|(with_reducible refine eO ?_;first|(exact eL)|(refine zSkip ?_)|(refine eM rfl ?_ ?_))|(with_reducible refine eN ?_;first|(refine zDone ?_)|(refine zQu 0 rfl rfl rfl rfl ?_)|(refine zQu 1 rfl rfl rfl rfl ?_)|(refine zQu 2 rfl rfl rfl rfl ?_)|(refine zQu 3 rfl rfl rfl rfl ?_)|(refine zQu 4 rfl rfl rfl rfl ?_)|(refine zQu 6 rfl rfl rfl rfl ?_)|(refine zQu 7 rfl rfl rfl rfl ?_)|(refine zQu 8 rfl rfl rfl rfl ?_)|(refine zQu 9 rfl rfl rfl rfl ?_)|(refine zQu 10 rfl rfl rfl rfl ?_)|(refine zAll ?_;show dR _ _ _ _ _ _ _))|with_reducible refine eJ ?_|(refine(hAA.next ((a++ [⟨true,tm⟩],k5)) (Le.sub4 rfl (by simp[go_sem])) (by(try dsimp only);omega) ?_))|simp(disch:=omega) [go_sem,hlt,h0,h0',hz',aG,aF]|refine zAo ?_|fail)
       try any_goals omega
       all_goals exact⟨by omega,by(try simp);omega,hag⟩
    ·simp only[hnot,if_false]at hvoid hgo hgt
     have ht:=L4 s hs (s.size+1) (aZ s (aZ s (aW s 46 k))) (bL s (aZ s (aW s 46 k))) (by omega) hl2
     have htl2:=yE (s:=s) (w:=bL s (aZ s (aW s 46 k))) hl2
     have htg:=wN (s:=s) (w:=bL s (aZ s (aW s 46 k))) (i:=aZ s (aZ s (aW s 46 k)))
     by_cases hz:(bL s (aZ s (aW s 46 k))).size=0
     ·rw[hvoid hz]at hag
      subst hag
      have hz':bL s (aZ s (aW s 46 k))=⟨#[]⟩:=by
       refine ByteArray.ext ?_
       exact Array.eq_empty_of_size_eq_zero hz
      clear hvoid hgo hgt ht htl2 htg hz
      rw[hz']at hw2 hnot
      clear hz'
      generalize aZ s (aZ s (aW s 46 k))=k3 at*
      generalize aZ s (aW s 46 k)=k2 at*
      generalize bL s (aW s 46 k)=w1 at*
      generalize aW s 46 k=k1 at*
      dsimp only at*
      by_cases h0:a.length=0
      ·obtain rfl:=List.eq_nil_of_length_eq_zero h0
       all_goals repeat' (first|(refine aE fun _ _=>?_)|refine zHg ?_|simp(disch:=omega) [go_sem,hlt,aG,aF]|refine zDn 11 15 bA ?_|fail)
       all_goals refine bO [] [] 10000 _ _ (Fits.mk' (by simp[go_sem,aG,aF]) (by simp[go_sem,aG,aF])) (by simp[go_sem,aG,aF]) (by simp[go_sem,aG,aF]) (hsg) (by simp[go_sem,aG,aF]) (by simp[go_sem,aG,aF]) ?_
       all_goals repeat' (first|(refine aE fun _ _=>?_)|refine zHg ?_|simp(disch:=omega) [go_sem,hlt,aG,aF])
       all_goals refine bO [] [] 10000 _ _ (Fits.mk' (by simp[go_sem,aG,aF]) (by simp[go_sem,aG,aF])) (by simp[go_sem,aG,aF]) (by simp[go_sem,aG,aF]) (hw1) (by simp[go_sem,aG,aF]) (by simp[go_sem,aG,aF]) ?_
       all_goals repeat' (first|(refine aE fun _ _=>?_)|refine zHg ?_|simp(disch:=omega) [go_sem,hlt,aG,aF])
       all_goals refine bO [] [] 10000 _ _ (Fits.mk' (by simp[go_sem,aG,aF]) (by simp[go_sem,aG,aF])) (by simp[go_sem,aG,aF]) (by simp[go_sem,aG,aF]) (hw2) (by simp[go_sem,aG,aF]) (by simp[go_sem,aG,aF]) ?_
       all_goals repeat' (first|(refine aE fun _ _=>?_)|refine zHg ?_|simp(disch:=omega) [go_sem,hlt,aG,aF])
       all_goals refine dN ⟨50,[(4,.ptr 4 0 0)],(4,⟨false,false,false,3,[.agg [.sc (.string H.name),.list false false (H.args.map aP),.list false true []]],0⟩)::(1000,aF s k3):: []⟩ [.agg [.sc (.string H.name),.list false false (H.args.map aP),.list false true []]] (Le.renSub [] [] (by simp[go_sem,aG,aF]) (by simp[go_sem,aG,aF]) (Le.sub4 rfl (by simp[go_sem,aG,aF]))) (by simp[go_sem,aG,aF]) ⟨rfl,rfl⟩
      ·have h0': ¬a= []:=fun h=>h0 (by rw[h];rfl)
       all_goals repeat' (first|(refine aE fun _ _=>?_)|refine zHg ?_|simp(disch:=omega) [go_sem,hlt,h0,h0',aG,aF]|refine zDn 11 15 bA ?_|fail)
       all_goals refine bO [] [] 10000 _ _ (Fits.mk' (by simp[go_sem,aG,aF]) (by simp[go_sem,aG,aF])) (by simp[go_sem,aG,aF]) (by simp[go_sem,aG,aF]) (hsg) (by simp[go_sem,aG,aF]) (by simp[go_sem,aG,aF]) ?_
       all_goals repeat' (first|(refine aE fun _ _=>?_)|refine zHg ?_|simp(disch:=omega) [go_sem,hlt,h0,h0',aG,aF])
       all_goals refine bO [] [] 10000 _ _ (Fits.mk' (by simp[go_sem,aG,aF]) (by simp[go_sem,aG,aF])) (by simp[go_sem,aG,aF]) (by simp[go_sem,aG,aF]) (hw1) (by simp[go_sem,aG,aF]) (by simp[go_sem,aG,aF]) ?_
       all_goals repeat' (first|(refine aE fun _ _=>?_)|refine zHg ?_|simp(disch:=omega) [go_sem,hlt,h0,h0',aG,aF])
       all_goals refine bO [] [] 10000 _ _ (Fits.mk' (by simp[go_sem,aG,aF]) (by simp[go_sem,aG,aF])) (by simp[go_sem,aG,aF]) (by simp[go_sem,aG,aF]) (hw2) (by simp[go_sem,aG,aF]) (by simp[go_sem,aG,aF]) ?_
       all_goals repeat' (first|(refine aE fun _ _=>?_)|refine zHg ?_|simp(disch:=omega) [go_sem,hlt,h0,h0',aG,aF])
       all_goals refine dN ⟨50,[(4,.ptr 4 0 0)],(4,⟨false,false,false,3,[.agg [.sc (.string H.name),.list false false (H.args.map aP),.ref 900 0 a.length]],0⟩)::(1000,aF s k3):: [(900,⟨true,false,false,3,a.map lV,0⟩)]⟩ [.agg [.sc (.string H.name),.list false false (H.args.map aP),.ref 900 0 a.length]] (Le.renSub [] [] (by simp[go_sem,aG,aF]) (by simp[go_sem,aG,aF]) (Le.sub4 rfl (by simp[go_sem,aG,aF]))) (by simp[go_sem,aG,aF]) ⟨rfl,rfl⟩
     ·rw[hgo hz]at hag
      have hgt1:=hgt hz
      have hz': ¬bL s (aZ s (aW s 46 k))=⟨#[]⟩:=fun h=>hz (by rw[h];rfl)
      clear hvoid hgo hgt hz
      generalize cD s (bL s (aZ s (aW s 46 k))) (aZ s (aZ s (aW s 46 k)))=q at*
      generalize hwd:bL s (aZ s (aW s 46 k))=wd at*
      clear hwd
      generalize aZ s (aZ s (aW s 46 k))=k3 at*
      generalize aZ s (aW s 46 k)=k2 at*
      generalize bL s (aW s 46 k)=w1 at*
      generalize aW s 46 k=k1 at*
      obtain⟨tm,k5⟩:=q
      dsimp only at*
      by_cases h0:a.length=0
      ·obtain rfl:=List.eq_nil_of_length_eq_zero h0
       all_goals repeat' (first|(refine aE fun _ _=>?_)|refine zHg ?_|simp(disch:=omega) [go_sem,hlt,hz',hnot,aG,aF]|refine zDn 11 15 bA ?_|fail)
       all_goals refine bO [] [] 10000 _ _ (Fits.mk' (by simp[go_sem,aG,aF]) (by simp[go_sem,aG,aF])) (by simp[go_sem,aG,aF]) (by simp[go_sem,aG,aF]) (hsg) (by simp[go_sem,aG,aF]) (by simp[go_sem,aG,aF]) ?_
       all_goals repeat' (first|(refine aE fun _ _=>?_)|refine zHg ?_|simp(disch:=omega) [go_sem,hlt,hz',hnot,aG,aF])
       all_goals refine bO [] [] 10000 _ _ (Fits.mk' (by simp[go_sem,aG,aF]) (by simp[go_sem,aG,aF])) (by simp[go_sem,aG,aF]) (by simp[go_sem,aG,aF]) (hw1) (by simp[go_sem,aG,aF]) (by simp[go_sem,aG,aF]) ?_
       all_goals repeat' (first|(refine aE fun _ _=>?_)|refine zHg ?_|simp(disch:=omega) [go_sem,hlt,hz',hnot,aG,aF])
       all_goals refine bO [] [] 10000 _ _ (Fits.mk' (by simp[go_sem,aG,aF]) (by simp[go_sem,aG,aF])) (by simp[go_sem,aG,aF]) (by simp[go_sem,aG,aF]) (hw2) (by simp[go_sem,aG,aF]) (by simp[go_sem,aG,aF]) ?_
       all_goals repeat' (first|(refine aE fun _ _=>?_)|refine zHg ?_|(with_reducible refine eO ?_;first|(exact eL)|(refine zSkip ?_)|(refine eM rfl ?_ ?_))|(with_reducible refine eN ?_;first|(refine zDone ?_)|(refine zQu 0 rfl rfl rfl rfl ?_)|(refine zQu 1 rfl rfl rfl rfl ?_)|(refine zQu 2 rfl rfl rfl rfl ?_)|(refine zQu 3 rfl rfl rfl rfl ?_)|(refine zQu 4 rfl rfl rfl rfl ?_)|(refine zQu 6 rfl rfl rfl rfl ?_)|(refine zQu 7 rfl rfl rfl rfl ?_)|(refine zQu 8 rfl rfl rfl rfl ?_)|(refine zQu 9 rfl rfl rfl rfl ?_)|(refine zQu 10 rfl rfl rfl rfl ?_)|(refine zAll ?_;show dR _ _ _ _ _ _ _))|with_reducible refine eJ ?_|simp(disch:=omega) [go_sem,hlt,hz',hnot,aG,aF]|refine zAny bA ?_|fail)
       all_goals refine bO [] [] 10000 _ _ (Fits.mk' (by simp[go_sem,aG,aF]) (by simp[go_sem,aG,aF])) (by simp[go_sem,aG,aF]) (by simp[go_sem,aG,aF]) (ht) (by simp[go_sem,aG,aF]) (by simp[go_sem,aG,aF]) ?_
       all_goals repeat' (first|(refine aE fun _ _=>?_)|refine zHg ?_|(with_reducible refine eO ?_;first|(exact eL)|(refine zSkip ?_)|(refine eM rfl ?_ ?_))|(with_reducible refine eN ?_;first|(refine zDone ?_)|(refine zQu 0 rfl rfl rfl rfl ?_)|(refine zQu 1 rfl rfl rfl rfl ?_)|(refine zQu 2 rfl rfl rfl rfl ?_)|(refine zQu 3 rfl rfl rfl rfl ?_)|(refine zQu 4 rfl rfl rfl rfl ?_)|(refine zQu 6 rfl rfl rfl rfl ?_)|(refine zQu 7 rfl rfl rfl rfl ?_)|(refine zQu 8 rfl rfl rfl rfl ?_)|(refine zQu 9 rfl rfl rfl rfl ?_)|(refine zQu 10 rfl rfl rfl rfl ?_)|(refine zAll ?_;show dR _ _ _ _ _ _ _))|with_reducible refine eJ ?_|(refine(hAA.next (([⟨false,tm⟩],k5)) (Le.renSub [(47,900)] [(900,47)] (by simp[go_sem]) (by simp[go_sem]) (Le.sub4 rfl (by simp[go_sem]))) (by(try dsimp only);omega) ?_))|simp(disch:=omega) [go_sem,hlt,hz',hnot,aG,aF])
       try any_goals omega
       all_goals exact⟨by omega,by(try simp);omega,hag⟩
      ·have h0': ¬a= []:=fun h=>h0 (by rw[h];rfl)
       all_goals repeat' (first|(refine aE fun _ _=>?_)|refine zHg ?_|simp(disch:=omega) [go_sem,hlt,h0,h0',hz',hnot,aG,aF]|refine zDn 11 15 bA ?_|fail)
       all_goals refine bO [] [] 10000 _ _ (Fits.mk' (by simp[go_sem,aG,aF]) (by simp[go_sem,aG,aF])) (by simp[go_sem,aG,aF]) (by simp[go_sem,aG,aF]) (hsg) (by simp[go_sem,aG,aF]) (by simp[go_sem,aG,aF]) ?_
       all_goals repeat' (first|(refine aE fun _ _=>?_)|refine zHg ?_|simp(disch:=omega) [go_sem,hlt,h0,h0',hz',hnot,aG,aF])
       all_goals refine bO [] [] 10000 _ _ (Fits.mk' (by simp[go_sem,aG,aF]) (by simp[go_sem,aG,aF])) (by simp[go_sem,aG,aF]) (by simp[go_sem,aG,aF]) (hw1) (by simp[go_sem,aG,aF]) (by simp[go_sem,aG,aF]) ?_
       all_goals repeat' (first|(refine aE fun _ _=>?_)|refine zHg ?_|simp(disch:=omega) [go_sem,hlt,h0,h0',hz',hnot,aG,aF])
       all_goals refine bO [] [] 10000 _ _ (Fits.mk' (by simp[go_sem,aG,aF]) (by simp[go_sem,aG,aF])) (by simp[go_sem,aG,aF]) (by simp[go_sem,aG,aF]) (hw2) (by simp[go_sem,aG,aF]) (by simp[go_sem,aG,aF]) ?_
       all_goals repeat' (first|(refine aE fun _ _=>?_)|refine zHg ?_|(with_reducible refine eO ?_;first|(exact eL)|(refine zSkip ?_)|(refine eM rfl ?_ ?_))|(with_reducible refine eN ?_;first|(refine zDone ?_)|(refine zQu 0 rfl rfl rfl rfl ?_)|(refine zQu 1 rfl rfl rfl rfl ?_)|(refine zQu 2 rfl rfl rfl rfl ?_)|(refine zQu 3 rfl rfl rfl rfl ?_)|(refine zQu 4 rfl rfl rfl rfl ?_)|(refine zQu 6 rfl rfl rfl rfl ?_)|(refine zQu 7 rfl rfl rfl rfl ?_)|(refine zQu 8 rfl rfl rfl rfl ?_)|(refine zQu 9 rfl rfl rfl rfl ?_)|(refine zQu 10 rfl rfl rfl rfl ?_)|(refine zAll ?_;show dR _ _ _ _ _ _ _))|with_reducible refine eJ ?_|simp(disch:=omega) [go_sem,hlt,h0,h0',hz',hnot,aG,aF]|refine zAny bA ?_|fail)
       all_goals refine bO [] [] 10000 _ _ (Fits.mk' (by simp[go_sem,aG,aF]) (by simp[go_sem,aG,aF])) (by simp[go_sem,aG,aF]) (by simp[go_sem,aG,aF]) (ht) (by simp[go_sem,aG,aF]) (by simp[go_sem,aG,aF]) ?_
       all_goals repeat' (first|(refine aE fun _ _=>?_)|refine zHg ?_|(with_reducible refine eO ?_;first|(exact eL)|(refine zSkip ?_)|(refine eM rfl ?_ ?_))|(with_reducible refine eN ?_;first|(refine zDone ?_)|(refine zQu 0 rfl rfl rfl rfl ?_)|(refine zQu 1 rfl rfl rfl rfl ?_)|(refine zQu 2 rfl rfl rfl rfl ?_)|(refine zQu 3 rfl rfl rfl rfl ?_)|(refine zQu 4 rfl rfl rfl rfl ?_)|(refine zQu 6 rfl rfl rfl rfl ?_)|(refine zQu 7 rfl rfl rfl rfl ?_)|(refine zQu 8 rfl rfl rfl rfl ?_)|(refine zQu 9 rfl rfl rfl rfl ?_)|(refine zQu 10 rfl rfl rfl rfl ?_)|(refine zAll ?_;show dR _ _ _ _ _ _ _))|with_reducible refine eJ ?_|(refine(hAA.next ((a++ [⟨false,tm⟩],k5)) (Le.sub4 rfl (by simp[go_sem])) (by(try dsimp only);omega) ?_))|simp(disch:=omega) [go_sem,hlt,h0,h0',hz',hnot,aG,aF]|refine zAo ?_|fail)
       try any_goals omega
       all_goals exact⟨by omega,by(try simp);omega,hag⟩
   ·rw[wP hlt hb]at hag
    subst hag
    rw[hb]at hsg
    generalize aW s 46 k=k1 at*
    dsimp only at*
    by_cases h0:a.length=0
    ·obtain rfl:=List.eq_nil_of_length_eq_zero h0
     all_goals repeat' (first|(refine aE fun _ _=>?_)|refine zHg ?_|simp(disch:=omega) [go_sem,hlt,aG,aF]|refine zDn 11 15 bA ?_|fail)
     all_goals refine bO [] [] 10000 _ _ (Fits.mk' (by simp[go_sem,aG,aF]) (by simp[go_sem,aG,aF])) (by simp[go_sem,aG,aF]) (by simp[go_sem,aG,aF]) (hsg) (by simp[go_sem,aG,aF]) (by simp[go_sem,aG,aF]) ?_
     all_goals repeat' (first|(refine aE fun _ _=>?_)|refine zHg ?_|simp(disch:=omega) [go_sem,hlt,aG,aF])
     all_goals refine dN ⟨50,[(4,.ptr 4 0 0)],(4,⟨false,false,false,3,[.agg [.sc (.string H.name),.list false false (H.args.map aP),.list false true []]],0⟩)::(1000,aF s k1):: []⟩ [.agg [.sc (.string H.name),.list false false (H.args.map aP),.list false true []]] (Le.renSub [] [] (by simp[go_sem,aG,aF]) (by simp[go_sem,aG,aF]) (Le.sub4 rfl (by simp[go_sem,aG,aF]))) (by simp[go_sem,aG,aF]) ⟨rfl,rfl⟩
    ·have h0': ¬a= []:=fun h=>h0 (by rw[h];rfl)
     all_goals repeat' (first|(refine aE fun _ _=>?_)|refine zHg ?_|simp(disch:=omega) [go_sem,hlt,h0,h0',aG,aF]|refine zDn 11 15 bA ?_|fail)
     all_goals refine bO [] [] 10000 _ _ (Fits.mk' (by simp[go_sem,aG,aF]) (by simp[go_sem,aG,aF])) (by simp[go_sem,aG,aF]) (by simp[go_sem,aG,aF]) (hsg) (by simp[go_sem,aG,aF]) (by simp[go_sem,aG,aF]) ?_
     all_goals repeat' (first|(refine aE fun _ _=>?_)|refine zHg ?_|simp(disch:=omega) [go_sem,hlt,h0,h0',aG,aF])
     all_goals refine dN ⟨50,[(4,.ptr 4 0 0)],(4,⟨false,false,false,3,[.agg [.sc (.string H.name),.list false false (H.args.map aP),.ref 900 0 a.length]],0⟩)::(1000,aF s k1):: [(900,⟨true,false,false,3,a.map lV,0⟩)]⟩ [.agg [.sc (.string H.name),.list false false (H.args.map aP),.ref 900 0 a.length]] (Le.renSub [] [] (by simp[go_sem,aG,aF]) (by simp[go_sem,aG,aF]) (Le.sub4 rfl (by simp[go_sem,aG,aF]))) (by simp[go_sem,aG,aF]) ⟨rfl,rfl⟩
  ·rw[cZz hlt]at hag
   subst hag
   dsimp only at*
   by_cases h0:a.length=0
   ·obtain rfl:=List.eq_nil_of_length_eq_zero h0
    all_goals repeat' (first|(refine aE fun _ _=>?_)|refine zHg ?_|simp(disch:=omega) [go_sem,hlt,aG,aF]|refine zDn 11 15 bA ?_|fail)
    all_goals refine dN ⟨50,[(4,.ptr 4 0 0)],(4,⟨false,false,false,3,[.agg [.sc (.string H.name),.list false false (H.args.map aP),.list false true []]],0⟩)::(1000,aF s k):: []⟩ [.agg [.sc (.string H.name),.list false false (H.args.map aP),.list false true []]] (Le.renSub [] [] (by simp[go_sem,aG,aF]) (by simp[go_sem,aG,aF]) (Le.sub4 rfl (by simp[go_sem,aG,aF]))) (by simp[go_sem,aG,aF]) ⟨rfl,rfl⟩
   ·have h0': ¬a= []:=fun h=>h0 (by rw[h];rfl)
    all_goals repeat' (first|(refine aE fun _ _=>?_)|refine zHg ?_|simp(disch:=omega) [go_sem,hlt,h0,h0',aG,aF]|refine zDn 11 15 bA ?_|fail)
    all_goals refine dN ⟨50,[(4,.ptr 4 0 0)],(4,⟨false,false,false,3,[.agg [.sc (.string H.name),.list false false (H.args.map aP),.ref 900 0 a.length]],0⟩)::(1000,aF s k):: [(900,⟨true,false,false,3,a.map lV,0⟩)]⟩ [.agg [.sc (.string H.name),.list false false (H.args.map aP),.ref 900 0 a.length]] (Le.renSub [] [] (by simp[go_sem,aG,aF]) (by simp[go_sem,aG,aF]) (Le.sub4 rfl (by simp[go_sem,aG,aF]))) (by simp[go_sem,aG,aF]) ⟨rfl,rfl⟩
 by_cases h0:G.1.length=0
 ·have hn:=List.eq_nil_of_length_eq_zero h0
  simp only[hn,List.length_nil,if_true,decide_true,List.map_nil]at key ⊢
  exact key.shared rfl (by simp[go_sem]) (by simp[go_sem]) (by simp[go_sem])
 ·simp only[h0,if_false,decide_false]at key ⊢
  refine key.shared (s':=?_) (y:= .agg [.sc (.string H.name),.list false false (H.args.map aP),.list false false (G.1.map lV)]) (by simp[go_sem,dC];rfl) (by simp[go_sem]) (by simp[go_sem]) (by simp[go_sem])
theorem aOy (s:ByteArray) (hs:s.size<=1000000):ACall prog 30 [.sc (.string s)] (fun r=>r= .own 3 ((lY s [] 0).map fP)):=by
 generalize hG:lY s [] 0=G at*
 refine ACall.own_nil ?_
 refine aX func30 call30 rfl (by simp[ntmps30]) ?_;simp only[ntmps30,results30]
 repeat' (first|(refine aE fun _ _=>?_)|refine zHg ?_|simp(disch:=omega) [go_sem])
 refine bZ [3] [8,900] (fun y:List Rl×Nat=> [(4,.ref 900 0 y.1.length)]) (fun y:List Rl×Nat=> [(8,cO s y.2),(900,⟨true,false,false,3,y.1.map fP,0⟩)]) (fun y:List Rl×Nat=>s.size - y.2) (fun y:List Rl×Nat=>y.2<=s.size/\y.1.length<=y.2/\lY s y.1 y.2=G) (([],0)) (by refine Le.trans ?_ (Le.nil (i:=4) (T:=900) (es:=3) rfl);exact(Le.sub4 rfl (by simp[go_sem,cO,List.map_nil,List.length_nil]))) ⟨?_⟩ ?_
 ·exact⟨Nat.zero_le _,Nat.zero_le _,hG⟩
 intro y ⟨hy2,hy3,hag⟩ AA hAA;simp only[kL,Nat.reduceBEq,Nat.reduceEqDiff]
 obtain⟨a,k⟩:=y
 dsimp only at hy2 hy3 hag ⊢
 clear hG
 have hwd:=B6 s k hs hy2
 have hwl:=nM (s:=s) hy2
 by_cases hz:(bL s k).size=0
 ·rw[aF3 hz]at hag
  subst hag
  have hz':bL s k=⟨#[]⟩:=by
   refine ByteArray.ext ?_
   exact Array.eq_empty_of_size_eq_zero hz
  rw[hz']at hwd
  clear hz hz'
  generalize aZ s k=k1 at*
  try dsimp only at*
  repeat' (first|(refine aE fun _ _=>?_)|refine zHg ?_|simp(disch:=omega) [go_sem,cO])
  refine bO [(1000,8)] [(8,1000)] 10000 _ _ (Fits.mk' (by simp[go_sem,aG,aF,cO]) (by simp[go_sem,aG,aF,cO])) (by simp[go_sem,aG,aF,cO]) (by simp[go_sem,aG,aF,cO]) (hwd) (by simp[go_sem,aG,aF,cO]) (by simp[go_sem,aG,aF,cO]) ?_
  repeat' (first|(refine aE fun _ _=>?_)|refine zHg ?_|(refine aL [] ?_;simp[go_sem,cO])|simp(disch:=omega) [go_sem,cO])
 ·rw[wR hy2 hz]at hag
  have hgt:=L3 hz
  have hru:=cZ3 s hs (aZ s k) (bL s k) hwl
  have hrl:=aF2 (s:=s) (w:=bL s k) hwl
  have hrg:=aF1 (s:=s) (w:=bL s k) (i:=aZ s k)
  have hlim:a.length<=1000000:=by omega
  have hz': ¬bL s k=⟨#[]⟩:=fun h=>hz (by rw[h];rfl)
  clear hz
  generalize iR s (bL s k) (aZ s k)=q at*
  generalize bL s k=wd at*
  generalize aZ s k=k1 at*
  obtain⟨r,k2⟩:=q
  try dsimp only at*
  repeat' (first|(refine aE fun _ _=>?_)|refine zHg ?_|simp(disch:=omega) [go_sem,cO,hz'])
  refine bO [(1000,8)] [(8,1000)] 10000 _ _ (Fits.mk' (by simp[go_sem,aG,aF,cO]) (by simp[go_sem,aG,aF,cO])) (by simp[go_sem,aG,aF,cO]) (by simp[go_sem,aG,aF,cO]) (hwd) (by simp[go_sem,aG,aF,cO]) (by simp[go_sem,aG,aF,cO]) ?_
  repeat' (first|(refine aE fun _ _=>?_)|refine zHg ?_|simp(disch:=omega) [go_sem,cO,hz'])
  refine bO [(1000,8)] [(8,1000)] 10000 _ _ (Fits.mk' (by simp[go_sem,aG,aF,cO]) (by simp[go_sem,aG,aF,cO])) (by simp[go_sem,aG,aF,cO]) (by simp[go_sem,aG,aF,cO]) (hru) (by simp[go_sem,aG,aF,cO]) (by simp[go_sem,aG,aF,cO]) ?_
  repeat' (first|(refine aE fun _ _=>?_)|refine zHg ?_|(refine(hAA.next ((a++ [r],k2)) (Le.sub4 rfl (by simp[go_sem,cO])) (by(try dsimp only);omega) ?_))|simp(disch:=omega) [go_sem,cO,hz']|refine zAo ?_|fail)
  try any_goals omega
  exact⟨by omega,by(try simp);omega,hag⟩
def bK:ByteArray:=⟨#[114,111,108,101,40,120,41,46,32,105,110,105,116,40,111,110,41,46,32,108,101,103,97,108,40,120,44,32,115,116,97,121,41,32,105,102,32,116,114,117,101,40,111,110,41,46,32,110,101,120,116,40,111,110,41,32,105,102,32,100,111,101,115,40,120,44,32,115,116,97,121,41,46]⟩
def qV:Rl:=⟨(.mk ⟨#[114,111,108,101]⟩ [(.mk ⟨#[120]⟩ [])]),[]⟩
def rR:Rl:=⟨(.mk ⟨#[105,110,105,116]⟩ [(.mk ⟨#[111,110]⟩ [])]),[]⟩
def sZ:Rl:=⟨(.mk ⟨#[108,101,103,97,108]⟩ [(.mk ⟨#[120]⟩ []),(.mk ⟨#[115,116,97,121]⟩ [])]),[⟨false,(.mk ⟨#[116,114,117,101]⟩ [(.mk ⟨#[111,110]⟩ [])])⟩]⟩
def uK:Rl:=⟨(.mk ⟨#[110,101,120,116]⟩ [(.mk ⟨#[111,110]⟩ [])]),[⟨false,(.mk ⟨#[100,111,101,115]⟩ [(.mk ⟨#[120]⟩ []),(.mk ⟨#[115,116,97,121]⟩ [])])⟩]⟩
theorem dCp:lY bK [] 0= [qV,rR,sZ,uK]:=by kernel_rfl
def cE:ByteArray:=⟨#[114,111,108,101,40,120,41,46,32,112,40,97,41,46,32,112,40,102,40,88,41,41,32,105,102,32,112,40,88,41,46]⟩
def tA:Rl:=⟨(.mk ⟨#[114,111,108,101]⟩ [(.mk ⟨#[120]⟩ [])]),[]⟩
def uL:Rl:=⟨(.mk ⟨#[112]⟩ [(.mk ⟨#[97]⟩ [])]),[]⟩
def wS:Rl:=⟨(.mk ⟨#[112]⟩ [(.mk ⟨#[102]⟩ [(.mk ⟨#[88]⟩ [])])]),[⟨false,(.mk ⟨#[112]⟩ [(.mk ⟨#[88]⟩ [])])⟩]⟩
theorem dEh:lY cE [] 0= [tA,uL,wS]:=by kernel_rfl
def eF:ByteArray:=⟨#[105,110,105,116,40,111,110,41,44,32,108,101,103,97,108,40,120,44,32,115,116,97,121,41]⟩
def bQ:ByteArray:=⟨#[105,110,105,116,40,111,110,41,44,32,110,101,120,116,40,111,110,41,44,32,114,111,108,101,40,120,41,44,32,116,114,117,101,40,111,110,41,44,32,100,111,101,115,40,120,44,32,115,116,97,121,41,44,32,108,101,103,97,108,40,120,44,32,115,116,97,121,41]⟩
def rS:ByteArray:=⟨#[111,110]⟩
def rT:ByteArray:=⟨#[115,116,97,121]⟩
set_option maxHeartbeats 8000000
def aY (s:ByteArray):AV:= .sc (.string s)
mutual
def nO:Tm->List ByteArray
 | .mk s ts=>if ts.length=0 then[s]else eG ts
def eG:List Tm->List ByteArray
 | []=> []
 |t::r=>nO t++eG r
end
theorem Y7 {s:ByteArray} {ts:List Tm}:nO (.mk s ts)=if ts.length=0 then[s]else eG ts:=rfl
theorem aF4: ∀a b:List Tm,eG (a++b)=eG a++eG b
 | [],b=>by simp[eG]
 |t::r,b=>by simp[eG,aF4 r b]
theorem L5 {ts:List Tm} {i:Nat} (h:i<ts.length):eG (ts.take (i+1))=eG (ts.take i)++nO ts[i]:=by
 rw[hZ h,aF4];simp[eG]
theorem Y8 (ts:List Tm) (i:Nat):(eG (ts.take i)).length<=(eG ts).length:=by
 have:=aF4 (ts.take i) (ts.drop i)
 rw[List.take_append_drop]at this
 simp only[this,List.length_append];omega
theorem dHn: ∀t:Tm,0<(nO t).length:=by
 refine fM fun t ih=>?_
 obtain⟨s,ts⟩:=t
 simp only[cM]at ih
 rw[Y7]
 split
 ·simp
 ·cases ts with
  |nil=>simp at*
  |cons u r=>
   have:=ih u (by simp)
   simp only[eG,List.length_append];omega
theorem Y9: ∀ts:List Tm,ts.length<=(eG ts).length
 | []=>Nat.le_refl _
 |t::r=>by
  have:=Y9 r
  have:=dHn t
  simp only[eG,List.length_append,List.length_cons];omega
theorem dHo: ∀t:Tm,∀xs:List ByteArray,xs.length+(nO t).length<=1000000->MCall prog 145 [.ref 1000 0 xs.length,eT t] [(1000,⟨true,false,true,1,xs.map aY,0⟩)] (fun r o'=>r= .ref 1001 0 (xs++nO t).length/\o'= [(1001,⟨true,false,false,1,(xs++nO t).map aY,0⟩)]):=by
 refine fM fun t ih xs hb=>?_
 obtain⟨s,ts⟩:=t
 simp only[cM,jI]at*
 rw[Y7]at*
 by_cases h0:ts.length=0
 ·rw[if_pos h0]at hb ⊢
  simp only[List.length_cons,List.length_nil]at hb
  refine dM func145 call145 rfl (by simp[ntmps145]) ?_;simp only[ntmps145,results145]
  repeat' (first|(refine aE fun _ _=>?_)|refine zHg ?_|simp(disch:=omega) [go_sem,h0]|refine zAo ?_|fail)
  refine dN ⟨28,[(4,.ref 1001 0 (xs++ [s]).length)],[(1001,⟨true,false,false,1,(xs++ [s]).map aY,0⟩)]⟩ [.ref 1001 0 (xs++ [s]).length] (Le.renSub [(15,1001)] [(1001,15)] (by simp[go_sem,aY]) (by simp[go_sem,aY]) (Le.sub4 rfl (by simp[go_sem,aY]))) (by simp[go_sem,aY]) ⟨by simp[jG],by simp⟩
 ·rw[if_neg h0]at hb ⊢
  have hle:=Y8 ts
  have hge:=Y9 ts
  refine dM func145 call145 rfl (by simp[ntmps145]) ?_;simp only[ntmps145,results145]
  repeat' (first|(refine aE fun _ _=>?_)|refine zHg ?_|simp(disch:=omega) [go_sem,h0])
  refine bZ [17,18] [900,1000] (fun i:Nat=> [(19,nt .i64 i),(0,.ref 900 0 (xs++eG (ts.take i)).length)]) (fun i:Nat=> [(900,⟨true,false,false,1,(xs++eG (ts.take i)).map aY,0⟩)]) (fun i:Nat=>ts.length - i) (fun i:Nat=>i<=ts.length) (0) (by refine Le.trans ?_ (Le.move (i:=0) (T:=1000) (T':=900) rfl (by show(0:Nat)≠1;decide) rfl rfl rfl);exact(Le.sub4 rfl (by simp[go_sem,List.take_zero,eG]))) ⟨?_⟩ ?_
  ·exact Nat.zero_le _
  intro i hi AA hAA;simp only[kL,Nat.reduceBEq,Nat.reduceEqDiff]
  by_cases hlt:i<ts.length
  ·have hn:=L5 hlt
   have hl1:=hle (i+1)
   rw[hn]at hl1
   rw[List.length_append]at hl1
   have hu:=ih ts[i] (List.getElem_mem hlt) (xs++eG (ts.take i)) (by rw[List.length_append];omega)
   rw[List.append_assoc,<-hn]at hu
   generalize xs++eG (ts.take i)=A at*
   repeat' (first|(refine aE fun _ _=>?_)|refine zHg ?_|simp(disch:=omega) [go_sem,hlt])
   refine bO [(1000,900)] [(900,1000)] 10000 _ _ (Fits.mk' (by simp[go_sem]) (by simp[go_sem])) (by simp[go_sem]) (by simp[go_sem]) (hu) (by simp[go_sem]) (by simp[go_sem]) ?_
   repeat' (first|(refine aE fun _ _=>?_)|refine zHg ?_|(refine(hAA.next (i+1) (Le.renSub [(11001,900)] [(900,11001)] (by simp[go_sem]) (by simp[go_sem]) (Le.sub4 rfl (by simp[go_sem]))) (by(try dsimp only);omega) ?_))|simp(disch:=omega) [go_sem,hlt])
   try any_goals omega
   exact⟨hlt⟩
  ·obtain rfl:i=ts.length:=by omega
   rw[List.take_length]
   repeat' (first|(refine aE fun _ _=>?_)|refine zHg ?_|simp(disch:=omega) [go_sem])
   refine dN ⟨28,[(4,.ref 1001 0 (xs++eG ts).length)],[(1001,⟨true,false,false,1,(xs++eG ts).map aY,0⟩)]⟩ [.ref 1001 0 (xs++eG ts).length] (Le.renSub [(900,1001)] [(1001,900)] (by simp[go_sem]) (by simp[go_sem]) (Le.sub4 rfl (by simp[go_sem]))) (by simp[go_sem]) ⟨by simp[jG],by simp⟩
theorem dHp (t:Tm) (hb:(nO t).length<=1000000):ACall prog 145 [.list false true [],eT t] (fun r=>r= .own 1 ((nO t).map aY)):=by
 obtain⟨s,ts⟩:=t
 rw[Y7]at*
 by_cases h0:ts.length=0
 ·rw[if_pos h0]at hb ⊢
  refine aX func145 call145 rfl (by simp[ntmps145]) ?_;simp only[ntmps145,results145]
  repeat' (first|(refine aE fun _ _=>?_)|refine zHg ?_|(refine aL [] ?_;simp[go_sem,h0,aY])|simp(disch:=omega) [go_sem,h0,aY])
 ·rw[if_neg h0]at hb ⊢
  have hle:=Y8 ts
  have hge:=Y9 ts
  refine aX func145 call145 rfl (by simp[ntmps145]) ?_;simp only[ntmps145,results145]
  repeat' (first|(refine aE fun _ _=>?_)|refine zHg ?_|simp(disch:=omega) [go_sem,h0])
  refine bZ [17,18] [900] (fun i:Nat=> [(19,nt .i64 i),(0,.ref 900 0 (eG (ts.take i)).length)]) (fun i:Nat=> [(900,⟨true,false,false,1,(eG (ts.take i)).map aY,0⟩)]) (fun i:Nat=>ts.length - i) (fun i:Nat=>i<=ts.length) (0) (by refine Le.trans ?_ (Le.nil (i:=0) (T:=900) (es:=1) rfl);exact(Le.sub4 rfl (by simp[go_sem,List.take_zero,eG]))) ⟨?_⟩ ?_
  ·exact Nat.zero_le _
  intro i hi AA hAA;simp only[kL,Nat.reduceBEq,Nat.reduceEqDiff]
  by_cases hlt:i<ts.length
  ·have hn:=L5 hlt
   have hl1:=hle (i+1)
   rw[hn]at hl1
   rw[List.length_append]at hl1
   have hu:=dHo ts[i] (eG (ts.take i)) (by omega)
   rw[<-hn]at hu
   generalize eG (ts.take i)=A at*
   repeat' (first|(refine aE fun _ _=>?_)|refine zHg ?_|simp(disch:=omega) [go_sem,hlt])
   refine bO [(1000,900)] [(900,1000)] 10000 _ _ (Fits.mk' (by simp[go_sem]) (by simp[go_sem])) (by simp[go_sem]) (by simp[go_sem]) (hu) (by simp[go_sem]) (by simp[go_sem]) ?_
   repeat' (first|(refine aE fun _ _=>?_)|refine zHg ?_|(refine(hAA.next (i+1) (Le.renSub [(11001,900)] [(900,11001)] (by simp[go_sem]) (by simp[go_sem]) (Le.sub4 rfl (by simp[go_sem]))) (by(try dsimp only);omega) ?_))|simp(disch:=omega) [go_sem,hlt])
   try any_goals omega
   exact⟨hlt⟩
  ·obtain rfl:i=ts.length:=by omega
   rw[List.take_length]
   repeat' (first|(refine aE fun _ _=>?_)|refine zHg ?_|(refine aL [] ?_;simp[go_sem])|simp(disch:=omega) [go_sem])
end Go.Proofs.YtgmibdiofkmmbaaGreatDoor
