import Derived.Test.YtbgckcdddlmiaaaGreatDoorS6
import Derived.Test.YtbgckcdddlmiaaaGreatDoorS5
set_option linter.all false
open Go.Proofs.Tryz
namespace Go.Proofs.YtbgckcdddlmiaaaGreatDoor
open Go.Ab
variable [Glob prog]
set_option maxRecDepth 100000
set_option maxHeartbeats 16000000
theorem bRp (l:List ByteArray) (hb:l.length<=140737488355328):MCall prog 27 [.ref 1000 0 l.length,.clo 28 []] [(1000,bB aI 1 0 l)]
 (fun r o'=> ∃m:List ByteArray,(m.Perm l/\m.Pairwise (fun x y=>jT x y<=0))/\r= .tup []/\o'= [(1000,bB aI 1 0 m)]):=by
 by_cases hl:l= []
 ·subst hl
  exact(bM6 _).mono fun r o' ⟨h1,h2⟩=>⟨[],⟨.refl _,.nil⟩,h1,h2⟩
 ·have h:=bHh (P:=prog) (f:=27) (g:=28) Value.string (fun _=>rfl) (fun _=>rfl) (ltOf jT) 0 (by decide) l hl call27
   (fun blk cap w hH hblk=>by
    have h:=Any.slices_SortFunc Tryz.pdqS Value.string (fun _=>rfl) jT bOq 28 #[] blk 0 cap l.toArray w call28
     (fun m os dk hs x y=>bHf Value.string (fun _=>rfl) jT (fun x y=> @bRl (Glob.none _) x y) x y _) hH hblk (by(try simp);omega)
    exact h)
  refine h.mono fun r o' ⟨m,⟨h1,h2⟩,h3,h4⟩=>⟨m,⟨h1,?_⟩,h3,h4⟩
  refine h2.imp fun {x y} hxy=>?_
  unfold ltOf at hxy
  simp only[decide_eq_false_iff_not,Int.not_lt]at hxy
  have:=R4 x y
  omega
theorem aOc: ∀a b:List Rl,nA (a++b)=nA a++nA b
 | [],b=>rfl
 |r::a,b=>by simp[nA,aOc a b]
theorem aOd {l:List Rl} {i:Nat} (h:i<l.length):nA (l.take (i+1))=nA (l.take i)++fY l[i]:=by
 rw[eZ h,aOc];simp[nA]
theorem aD0 {l:List Rl} (hz: ∀r∈l,SzM r): ∀i,i<=l.length->(nA (l.take i)).length<=i*180
 |0,_=>by simp[nA]
 |i+1,h=>by
  have hi:i<l.length:=by omega
  rw[aOd hi,List.length_append]
  have:=aD0 hz i (by omega)
  have:=wU (hz l[i] (List.getElem_mem hi))
  omega
theorem aOe (l:List Rl) (le fu:Bool) (hz: ∀r∈l,SzM r) (hl:l.length<=99):ACall prog 12 [.list le fu (l.map bH)] (fun r=>r= .own 1 ((fO l).map aI)):=by
 have hzz:nA []= []:=rfl
 have hle:=aD0 hz
 refine aQ func12 call12 rfl (by simp[ntmps12]) ?_;simp only[ntmps12,results12]
 repeat' (first|(refine aA fun _ _=>?_)|refine zHg ?_|simp(disch:=omega) [go_sem])
 refine bL [6,7] [900] (fun y:Nat×List ByteArray=> [(8,nt .i64 y.1),(3,.ref 900 0 y.2.length)]) (fun y:Nat×List ByteArray=> [(900,⟨true,false,false,1,y.2.map aI,0⟩)]) (fun y:Nat×List ByteArray=>l.length - y.1) (fun y:Nat×List ByteArray=>y.1<=l.length/\y.2=nA (l.take y.1)) ((0,[])) (by refine Le.trans ?_ (Le.nil (i:=3) (T:=900) (es:=1) rfl);exact(Le.sub4 rfl (by simp[go_sem,List.map_nil,List.length_nil]))) ⟨?_⟩ ?_
 ·exact⟨Nat.zero_le _,rfl⟩
 intro⟨i,A⟩ ⟨hi,hA⟩ AA hAA;simp only[kL,Nat.reduceBEq,Nat.reduceEqDiff]
 dsimp only at*
 by_cases hlt:i<l.length
 ·have hp:=aOb l[i] (hz _ (List.getElem_mem hlt))
  have hn:=aOd hlt
  have h1:=hle i hi
  have h2:=wU (hz l[i] (List.getElem_mem hlt))
  rw[<-hA]at hn h1
  generalize hri:l[i]=r at*
  generalize fY r=R at*
  repeat' (first|(refine aA fun _ _=>?_)|refine zHg ?_|refine aH rfl (hp) (by simp) ?_|(refine(hAA.next ((i+1,A++R)) (Le.sub4 rfl (by simp[go_sem,aI])) (by(try dsimp only);omega) ?_))|simp(disch:=omega) [go_sem,hlt,hri,aI]|refine zAo ?_|fail)
  try any_goals omega
  all_goals exact⟨hlt,hn.symm⟩
 ·obtain rfl:i=l.length:=by omega
  have h1:=hle l.length (Nat.le_refl _)
  rw[List.take_length]at hA h1
  rw[<-hA]at h1
  have hso:=bRp A (by omega)
  have hfin: ∀m:List ByteArray,m.Perm A->m.Pairwise (fun x y=>jT x y<=0)->wS m=fO l:=fun m hm hs=>by
   unfold fO
   refine bOt ?_ hs
   rw[aDo,<-hA];exact hm
  clear hle hzz
  repeat' (first|(refine aA fun _ _=>?_)|refine zHg ?_|simp(disch:=omega) [go_sem])
  refine vW [(1000,900)] [(900,1000)] 10000 _ _ (Fits.mk' (by simp[go_sem]) (by simp[go_sem])) (by simp[go_sem]) (by simp[go_sem]) (hso) (by simp[go_sem]) (by intros;simp[go_sem]) ?_;intro m hm
  have hml:=hm.1.length_eq
  have hco:=bOr m (by omega)
  rw[hfin m hm.1 hm.2]at hco
  have hcl2:(fO l).length<=m.length:=by rw[<-hfin m hm.1 hm.2];exact aDk _ _
  rw[<-hml]
  generalize fO l=Z at*
  repeat' (first|(refine aA fun _ _=>?_)|refine zHg ?_|simp(disch:=omega) [go_sem])
  refine aX [(1000,900)] [(900,1000)] 20000 _ _ (Fits.mk' (by simp[go_sem]) (by simp[go_sem])) (by simp[go_sem]) (by simp[go_sem]) (hco) (by simp[go_sem]) (by simp[go_sem]) ?_
  repeat' (first|(refine aA fun _ _=>?_)|refine zHg ?_|(refine aM [] ?_;simp[go_sem])|simp(disch:=omega) [go_sem])
theorem aD1 {l:List Rl} (hz: ∀r∈l,SzM r) (hl:l.length<=99):(fO l).length<=17820:=by
 have h1:=aD0 hz l.length (Nat.le_refl _)
 rw[List.take_length]at h1
 unfold fO R5
 rw[List.length_map]
 have h2:(vX ((cD (uT l)).map iC)).length<=((cD (uT l)).map iC).length:=by
  have h1:(vX ((cD (uT l)).map iC)).Nodup:=by
   refine List.Pairwise.imp (fun {a b} h=>?_) (aK3 _)
   rintro rfl
   rw[C2]at h;omega
  exact List.Nodup.length_le_of_subset h1 fun x hx=>(aK4 _ x).1 hx
 have h3:((cD (uT l)).map iC).length=(nA l).length:=by rw[List.length_map,aDo]
 omega
theorem bRq (r:Rl) (hl:r.body.length<=1000000):ACall prog 56 [bH r] (fun v=>v= .own 2 ((mY r).map aO)):=by
 obtain⟨h,bs⟩:=r
 dsimp only at*
 have hnx: ∀i (hi:i<bs.length),h::(bs.take (i+1)).map Lt.atom=(h::(bs.take i).map Lt.atom)++ [bs[i].atom]:=fun i hi=>by
  rw[eZ hi,List.map_append];rfl
 unfold mY
 dsimp only
 generalize hR:h::bs.map Lt.atom=R
 refine aQ func56 call56 rfl (by simp[ntmps56]) ?_;simp only[ntmps56,results56]
 repeat' (first|(refine aA fun _ _=>?_)|refine zHg ?_|simp(disch:=omega) [go_sem])
 refine bL [10,11] [900,8] (fun y:Nat×List Tm=> [(12,nt .i64 y.1),(3,.ref 900 0 y.2.length)]) (fun y:Nat×List Tm=> [(900,⟨true,false,false,2,y.2.map aO,0⟩)]) (fun y:Nat×List Tm=>bs.length - y.1) (fun y:Nat×List Tm=>y.1<=bs.length/\y.2.length=y.1+1/\y.2=h::(bs.take y.1).map Lt.atom) ((0,[h])) (Le.renSub [(8,900)] [(900,8)] (by simp[go_sem]) (by simp[go_sem]) (Le.sub4 rfl (by simp[go_sem]))) ⟨?_⟩ ?_
 ·exact⟨Nat.zero_le _,rfl,rfl⟩
 intro⟨i,A⟩ ⟨hi,hAl,hA⟩ AA hAA;simp only[kL,Nat.reduceBEq,Nat.reduceEqDiff]
 dsimp only at*
 by_cases hlt:i<bs.length
 ·have hn:=hnx i hlt
  rw[<-hA]at hn
  generalize hbi:bs[i]=b at*
  repeat' (first|(refine aA fun _ _=>?_)|refine zHg ?_|(refine(hAA.next ((i+1,A++ [b.atom])) (Le.sub4 rfl (by simp[go_sem,hAl])) (by(try dsimp only);omega) ?_))|simp(disch:=omega) [go_sem,hlt,hbi,hAl]|refine zAo ?_|fail)
  try any_goals omega
  all_goals exact⟨hlt,by rw[List.length_append,hAl];rfl,hn.symm⟩
 ·obtain rfl:i=bs.length:=by omega
  rw[List.take_length]at hA
  obtain rfl:=hA.trans hR
  repeat' (first|(refine aA fun _ _=>?_)|refine zHg ?_|(refine aM [] ?_;simp[go_sem])|simp(disch:=omega) [go_sem])
theorem aD2 (i:Nat): ∀k,(rJ i k).length=2*k
 |0=>rfl
 |k+1=>by rw[rJ,List.length_append,aD2 i k];simp;omega
theorem aD3 (i p:Nat) (C:List ByteArray) (s:ByteArray): ∀k,(mV i p C s k).length<=k
 |0=>by simp[mV]
 |k+1=>by
  rw[mV,List.length_append]
  have:=aD3 i p C s k
  split<;>simp<;>omega
theorem aD4 (i:Nat) (C S:List ByteArray): ∀p,(mW i C S p).length<=p*C.length
 |0=>by simp[mW]
 |p+1=>by
  rw[mW,List.length_append,Nat.add_mul,Nat.one_mul]
  have:=aD4 i C S p
  have:=aD3 i p C (S.getD p zs) C.length
  omega
theorem aD5 (i:Nat) (A:List Tm): ∀k,(mX i A k).length<=k
 |0=>by simp[mX]
 |k+1=>by
  rw[mX,List.length_append]
  have:=aD5 i A k
  split<;>simp<;>omega
theorem aOf {i:Nat} {r:Rl} {C:List ByteArray} (hz:SzM r) (hC:C.length<=17820):(jV i r C).length<=3300000:=by
 unfold jV
 rw[List.length_append,List.length_append,List.length_append,aD2]
 have h1:=aD4 i C (fY r) (fY r).length
 have h2:=aD5 i (mY r) (mY r).length
 have h3:=wU hz
 have h4:=hz.body
 rw[aDr]at h2 ⊢
 have h5:(fY r).length*C.length<=180*17820:=Nat.mul_le_mul h3 hC
 simp only[List.length_singleton]
 omega
theorem aOg (i:Nat) (r:Rl) (C:List ByteArray) (hz:SzM r) (hi:i<=1000) (hC:C.length<=17820):ACall prog 24 [nt .i64 i,bH r,.list false false (C.map aI)] (fun v=>v= .own 3 ((jV i r C).map cR)):=by
 have hp:=(aOb r hz).frz
 have ha:=(bRq r (by have:=hz.body;omega)).frz
 have hsl:=wU hz
 have hbl:=hz.body
 have hal:=aDr r
 unfold jV
 generalize fY r=S at*
 generalize mY r=A at*
 obtain⟨h,bs⟩:=r
 dsimp only at*
 have hbd:=aD2 i
 have hpl:=aD4 i C S
 have hil:=aD3 i
 have hsw:=aD5 i A
 have hpC: ∀p,p<=S.length->p*C.length<=180*17820:=fun p hp=>Nat.mul_le_mul (by omega) hC
 generalize hR: [⟨1,i,0⟩]++rJ i bs.length++mW i C S S.length++mX i A A.length=R
 refine aQ func24 call24 rfl (by simp[ntmps24]) ?_;simp only[ntmps24,results24]
 repeat' (first|(refine aA fun _ _=>?_)|refine zHg ?_|simp(disch:=omega) [go_sem])
 refine bL [0,2,4,20] [900,17] (fun y:Nat×List Mu=> [(21,nt .i64 y.1),(7,.ref 900 0 y.2.length)]) (fun y:Nat×List Mu=> [(900,⟨true,false,false,3,y.2.map cR,0⟩)]) (fun y:Nat×List Mu=>bs.length - y.1) (fun y:Nat×List Mu=>y.1<=bs.length/\y.2= [⟨1,i,0⟩]++rJ i y.1) ((0,[⟨1,i,0⟩])) (Le.renSub [(17,900)] [(900,17)] (by simp[go_sem]) (by simp[go_sem]) (Le.sub4 rfl (by simp[go_sem]))) ⟨?_⟩ ?_
 ·exact⟨Nat.zero_le _,rfl⟩
 intro⟨k,M⟩ ⟨hk,hM⟩ AA hAA;simp only[kL,Nat.reduceBEq,Nat.reduceEqDiff]
 dsimp only at*
 have hMl:M.length=1+2*k:=by rw[hM,List.length_append,hbd];rfl
 by_cases hlt:k<bs.length
 ·repeat' (first|(refine aA fun _ _=>?_)|refine zHg ?_|(refine(hAA.next ((k+1,M++ [⟨2,i,k⟩,⟨3,i,k⟩])) (Le.sub4 rfl (by simp[go_sem])) (by(try dsimp only);omega) ?_))|simp(disch:=omega) [go_sem,hlt]|refine zAo ?_|fail)
  try any_goals omega
  all_goals exact⟨hlt,by rw[hM,rJ,List.append_assoc];first|done|rfl|simp⟩
 ·obtain rfl:k=bs.length:=by omega
  clear hlt hk
  repeat' (first|(refine aA fun _ _=>?_)|refine zHg ?_|refine aH rfl (hp) (by simp) ?_|simp(disch:=omega) [go_sem])
  refine bL [0,2,4,35,36] [900] (fun y:Nat×List Mu=> [(37,nt .i64 y.1),(7,.ref 900 0 y.2.length)]) (fun y:Nat×List Mu=> [(900,⟨true,false,false,3,y.2.map cR,0⟩)]) (fun y:Nat×List Mu=>S.length - y.1) (fun y:Nat×List Mu=>y.1<=S.length/\y.2=M++mW i C S y.1) ((0,M)) (Le.sub4 rfl (by simp[go_sem])) ⟨?_⟩ ?_
  ·exact⟨Nat.zero_le _,by simp[mW]⟩
  intro⟨p,N⟩ ⟨hpi,hN⟩ AA hAA;simp only[kL,Nat.reduceBEq,Nat.reduceEqDiff]
  dsimp only at*
  have hNl:N.length<=1+2*bs.length+p*C.length:=by rw[hN,List.length_append];have:=hpl p;omega
  have hpc:=hpC p hpi
  by_cases hlt:p<S.length
  ·have hpc1:=hpC (p+1) hlt
   rw[Nat.add_mul,Nat.one_mul]at hpc1
   have hAB:=hAA
   have hsp:S.getD p zs=S[p]:=qF hlt
   have hnx:mW i C S (p+1)=mW i C S p++mV i p C S[p] C.length:=by rw[mW,hsp]
   generalize hse:S[p]=s at*
   repeat' (first|(refine aA fun _ _=>?_)|refine zHg ?_|simp(disch:=omega) [go_sem,hlt,hse,aI])
   refine bL [0,2,4,9,10,35,36,37,42,43] [900] (fun y:Nat×List Mu=> [(44,nt .i64 y.1),(7,.ref 900 0 y.2.length)]) (fun y:Nat×List Mu=> [(900,⟨true,false,false,3,y.2.map cR,0⟩)]) (fun y:Nat×List Mu=>C.length - y.1) (fun y:Nat×List Mu=>y.1<=C.length/\y.2=N++mV i p C s y.1) ((0,N)) (Le.sub4 rfl (by simp[go_sem])) ⟨?_⟩ ?_
   ·exact⟨Nat.zero_le _,by simp[mV]⟩
   intro⟨k,O⟩ ⟨hk,hO⟩ AA hAA;simp only[kL,Nat.reduceBEq,Nat.reduceEqDiff]
   dsimp only at*
   have hOl:O.length<=N.length+k:=by rw[hO,List.length_append];have:=hil p C s k;omega
   by_cases hkl:k<C.length
   ·have hck:C.getD k zs=C[k]:=qF hkl
    have hnk:mV i p C s (k+1)=mV i p C s k++(if C[k]=s then[]else[⟨4,i,(p*C.length+k:Nat)⟩]):=by rw[mV,hck]
    have hpz:(0:Int)<=(p:Int)*(C.length:Int):=by rw[<-Int.natCast_mul];omega
    have hpz2:(p:Int)*(C.length:Int)<=3207600:=by rw[<-Int.natCast_mul];omega
    by_cases hq:C[k]=s
    ·rw[if_pos hq,List.append_nil]at hnk
     repeat' (first|(refine aA fun _ _=>?_)|refine zHg ?_|(refine(hAA.next ((k+1,O)) (Le.sub4 rfl (by simp[go_sem])) (by(try dsimp only);omega) ?_))|simp(disch:=omega) [go_sem,hkl,hq,aI])
     try any_goals omega
     all_goals exact⟨hkl,by rw[hO,hnk];first|done|rfl|simp⟩
    ·rw[if_neg hq]at hnk
     repeat' (first|(refine aA fun _ _=>?_)|refine zHg ?_|(refine(hAA.next ((k+1,O++ [⟨4,i,(p*C.length+k:Nat)⟩])) (Le.sub4 rfl (by simp[go_sem])) (by(try dsimp only);omega) ?_))|simp(disch:=omega) [go_sem,hkl,hq,aI]|refine zAo ?_|fail)
     try any_goals omega
     all_goals exact⟨hkl,by rw[hO,hnk,List.append_assoc];first|done|rfl|simp⟩
   ·obtain rfl:k=C.length:=by omega
    repeat' (first|(refine aA fun _ _=>?_)|refine zHg ?_|(refine(hAB.next ((p+1,O)) (Le.sub4 rfl (by simp[go_sem])) (by(try dsimp only);omega) ?_))|simp(disch:=omega) [go_sem])
    try any_goals omega
    all_goals exact⟨hlt,by rw[hO,hN,hnx,List.append_assoc];first|done|rfl|simp⟩
  ·obtain rfl:p=S.length:=by omega
   clear hlt hpi
   repeat' (first|(refine aA fun _ _=>?_)|refine zHg ?_|refine aH rfl (ha) (by simp) ?_|simp(disch:=omega) [go_sem])
   refine bL [0,66,67] [900] (fun y:Nat×List Mu=> [(68,nt .i64 y.1),(7,.ref 900 0 y.2.length)]) (fun y:Nat×List Mu=> [(900,⟨true,false,false,3,y.2.map cR,0⟩)]) (fun y:Nat×List Mu=>A.length - y.1) (fun y:Nat×List Mu=>y.1<=A.length/\y.2=N++mX i A y.1) ((0,N)) (Le.sub4 rfl (by simp[go_sem])) ⟨?_⟩ ?_
   ·exact⟨Nat.zero_le _,by simp[mX]⟩
   intro⟨k,O⟩ ⟨hk,hO⟩ AA hAA;simp only[kL,Nat.reduceBEq,Nat.reduceEqDiff]
   dsimp only at*
   have hOl:O.length<=N.length+k:=by rw[hO,List.length_append];have:=hsw k;omega
   by_cases hkl:k<A.length
   ·have hsb:=bRm A[k]
    have hak:A.getD k zT=A[k]:=qF hkl
    have hnk:mX i A (k+1)=mX i A k++(if sY A[k]=true then[⟨5,i,k⟩]else[]):=by rw[mX,hak]
    generalize hae:A[k]=a at*
    cases hq:sY a
    ·rw[hq]at hsb hnk
     rw[if_neg (by decide),List.append_nil]at hnk
     repeat' (first|(refine aA fun _ _=>?_)|refine zHg ?_|refine aH rfl (hsb) (by simp) ?_|(refine(hAA.next ((k+1,O)) (Le.sub4 rfl (by simp[go_sem])) (by(try dsimp only);omega) ?_))|simp(disch:=omega) [go_sem,hkl,hae])
     try any_goals omega
     all_goals exact⟨hkl,by rw[hO,hnk];first|done|rfl|simp⟩
    ·rw[hq]at hsb hnk
     rw[if_pos rfl]at hnk
     repeat' (first|(refine aA fun _ _=>?_)|refine zHg ?_|refine aH rfl (hsb) (by simp) ?_|(refine(hAA.next ((k+1,O++ [⟨5,i,k⟩])) (Le.sub4 rfl (by simp[go_sem])) (by(try dsimp only);omega) ?_))|simp(disch:=omega) [go_sem,hkl,hae]|refine zAo ?_|fail)
     try any_goals omega
     all_goals exact⟨hkl,by rw[hO,hnk,List.append_assoc];first|done|rfl|simp⟩
   ·obtain rfl:k=A.length:=by omega
    have e:O=R:=by rw[<-hR,hO,hN,hM]
    subst e
    repeat' (first|(refine aA fun _ _=>?_)|refine zHg ?_|(refine aM [] ?_;simp[go_sem])|simp(disch:=omega) [go_sem])
theorem aD6 {l:List Rl} {C:List ByteArray} (hz: ∀r∈l,SzM r) (hC:C.length<=17820): ∀i,i<=l.length->(mZ C l i).length<=i*3300000
 |0,_=>by simp[mZ]
 |i+1,h=>by
  have hi:i<l.length:=by omega
  rw[mZ,List.length_append,qF hi]
  have:=aD6 hz hC i (by omega)
  have:=aOf (i:=i) (hz l[i] (List.getElem_mem hi)) hC
  omega
theorem aD7 (l:List Rl) (le fu:Bool) (hz: ∀r∈l,SzM r) (hl:l.length<=99):ACall prog 9 [.list le fu (l.map bH)] (fun v=>v= .own 3 ((eF l).map cR)):=by
 have hc:=(aOe l le fu hz hl).frz
 have hcl:=aD1 hz hl
 have hal:=aD6 hz hcl
 unfold eF
 generalize fO l=C at*
 generalize hR:mZ C l l.length=R
 refine aQ func9 call9 rfl (by simp[ntmps9]) ?_;simp only[ntmps9,results9]
 repeat' (first|(refine aA fun _ _=>?_)|refine zHg ?_|refine aH rfl (hc) (by simp) ?_|simp(disch:=omega) [go_sem])
 refine bL [3,9,10] [900] (fun y:Nat×List Mu=> [(11,nt .i64 y.1),(4,.ref 900 0 y.2.length)]) (fun y:Nat×List Mu=> [(900,⟨true,false,false,3,y.2.map cR,0⟩)]) (fun y:Nat×List Mu=>l.length - y.1) (fun y:Nat×List Mu=>y.1<=l.length/\y.2=mZ C l y.1) ((0,[])) (by refine Le.trans ?_ (Le.nil (i:=4) (T:=900) (es:=3) rfl);exact(Le.sub4 rfl (by simp[go_sem,List.map_nil,List.length_nil]))) ⟨?_⟩ ?_
 ·exact⟨Nat.zero_le _,rfl⟩
 intro⟨i,M⟩ ⟨hi,hM⟩ AA hAA;simp only[kL,Nat.reduceBEq,Nat.reduceEqDiff]
 dsimp only at*
 have hMl:=hal i hi
 rw[<-hM]at hMl
 by_cases hlt:i<l.length
 ·have ho:=aOg i l[i] C (hz _ (List.getElem_mem hlt)) (by omega) hcl
  have hol:=aOf (i:=i) (hz l[i] (List.getElem_mem hlt)) hcl
  have hn:mZ C l (i+1)=mZ C l i++jV i l[i] C:=by rw[mZ,qF hlt]
  rw[<-hM]at hn
  generalize hri:l[i]=r at*
  generalize jV i r C=X at*
  repeat' (first|(refine aA fun _ _=>?_)|refine zHg ?_|refine aH rfl (ho) (by simp) ?_|(refine(hAA.next ((i+1,M++X)) (Le.sub4 rfl (by simp[go_sem])) (by(try dsimp only);omega) ?_))|simp(disch:=omega) [go_sem,hlt,hri]|refine zAo ?_|fail)
  try any_goals omega
  all_goals exact⟨hlt,hn.symm⟩
 ·obtain rfl:i=l.length:=by omega
  obtain rfl:=hM.trans hR
  repeat' (first|(refine aA fun _ _=>?_)|refine zHg ?_|(refine aM [] ?_;simp[go_sem])|simp(disch:=omega) [go_sem])
theorem bRr (m:Mu) (C:List ByteArray) (p j:Nat) (hKd:m.index.tdiv C.length=(p:Int)) (hpm:(p:Int)<=9223372036854775807) (hJ:m.index.tmod C.length=(j:Int)) (hj:j<C.length) (r:Rl) (hz:SzM r):
 MCall prog 60 [bH r,.clo 71 [.ptr 1000 0 0,.ptr 1001 0 0,.ptr 1002 0 0]] (bN (-1) m C)
  (fun v o'=>v= .agg [.sc (.string r.head.name),.list false false ((dW p C[j] 0 r.head.args).map aO),if r.body.length=0 then .list false true []else .ref 900 0 r.body.length]/\
   o'=(4,⟨false,false,false,3,[.agg [.sc (.string r.head.name),.list false false ((dW p C[j] 0 r.head.args).map aO),if r.body.length=0 then .list false true []else .ref 900 0 r.body.length]],0⟩)::(1000,bC (-1+(fY r).length))::(1001,bF m)::(1002,bG C)::(if r.body.length=0 then[]else[(900,⟨true,false,false,3,(gT p C[j] (cD r.head.args).length r.body).map cF,0⟩)])):=by
 have hsz:=wU hz
 have hle:=R9 (h:=r.head) (bs:=r.body) hz
 obtain⟨h,bs⟩:=r
 obtain⟨hz1,hz2,hz3⟩:=hz
 dsimp only at*
 have hnx:=fun i (hi:i<bs.length)=>aDz (h:=h) hi
 have hn0:=aDx h bs
 have hna:=aDy h bs
 have hv:=aN8 m C p j hKd hpm hJ hj
 have h1:=hv _ h.args false false (-1) 0 (Nat.lt_succ_self _) (by omega) (by decide) (by omega)
 generalize hL:gT p C[j] (cD h.args).length bs=L at*
 have hLl:L.length=bs.length:=by rw[<-hL,F5]
 have ih2: ∀(i:Nat) (hi:i<bs.length),∃us,MCall prog 102 [.list false false (bs[i].atom.args.map aO),.clo 71 [.ptr 1000 0 0,.ptr 1001 0 0,.ptr 1002 0 0]] (bN (-1+(iD h bs i).length) m C) (fun r o'=>r= .list false false (us.map aO)/\o'=bN (-1+(iD h bs i).length+(cD bs[i].atom.args).length) m C)/\L.drop i=⟨bs[i].neg,.mk bs[i].atom.name us⟩::L.drop (i+1):=fun i hi=>⟨_,hv _ _ false false _ (iD h bs i).length (Nat.lt_succ_self _) (Nat.le_trans (hz3 _ (List.getElem_mem hi)) (by decide)) (by omega) (by have:=hz3 _ (List.getElem_mem hi);have:=hle i (by omega);omega),by
  have h':i<L.length:=by omega
  rw[List.drop_eq_getElem_cons h']
  congr 1
  have e:=bOx (K:=p) (c:=C[j]) (k:=(cD h.args).length) hi
  have e2:L[i]?=some ⟨bs[i].neg,.mk bs[i].atom.name (dW p C[j] ((cD h.args).length+(jH (bs.take i)).length) bs[i].atom.args)⟩:=by
   have e3:gT p C[j] (cD h.args).length (bs.take (i+1))++gT p C[j] ((cD h.args).length+(jH (bs.take (i+1))).length) (bs.drop (i+1))=L:=by
    rw[<-hL,<-aDn,List.take_append_drop]
   rw[<-e3,e,List.append_assoc]
   have hl:(gT p C[j] (cD h.args).length (bs.take i)).length=i:=by rw[F5,List.length_take];omega
   rw[List.getElem?_append_right (by omega),hl,Nat.sub_self];rfl
  rw[List.getElem?_eq_getElem h']at e2
  have e4:(iD h bs i).length=(cD h.args).length+(jH (bs.take i)).length:=by unfold iD;rw[List.length_append]
  rw[e4]
  exact Option.some.inj e2⟩
 clear hv hL
 generalize dW p C[j] 0 h.args=H at*
 refine dC func60 call60 rfl (by simp[ntmps60]) ?_;simp only[ntmps60,results60]
 skip
 repeat' (first|((fail_if_success (refine sD ?_));refine jQ (fun K hK=>?_))|refine zHg ?_|simp(disch:=omega) [go_sem,bN,bC,bF,bG])
 refine aIo ⟨44,[(1,.clo 71 [.ptr 1000 0 0,.ptr 1001 0 0,.ptr 1002 0 0]),(2,.ptr 2 0 0),(4,.ptr 4 0 0),(5,.ptr 5 0 0)],(5,⟨false,false,false,3,[.agg [.sc (.string h.name),.list false false (H.map aO),.list false true []]],0⟩)::(4,⟨false,false,false,3,[.agg [.sc (.string ⟨#[]⟩),.list false true [],.list false true []]],0⟩)::(2,⟨false,true,false,3,[bH ⟨h,bs⟩],0⟩)::(1000,bC (-1+(iD h bs 0).length))::(1001,bF m)::(1002,bG C):: []⟩ (fun K hK=>?_) ?_
 ·(try refine jQ (fun K hK=>?_));refine qW (s0:=⟨44,[(1,.clo 71 [.ptr 1000 0 0,.ptr 1001 0 0,.ptr 1002 0 0]),(2,.ptr 2 0 0),(4,.ptr 4 0 0)],(2,⟨false,true,false,3,[bH ⟨h,bs⟩],0⟩)::(4,⟨false,false,false,3,[.agg [.sc (.string ⟨#[]⟩),.list false true [],.list false true []]],0⟩)::bN (-1) m C⟩) (by refine Le.trans ?_ (Le.frzP 2 rfl (by intro h;cases h));exact(Le.sub4 rfl (by simp[go_sem,bN,bC,bF,bG]))) ?_
  repeat' (first|(refine aA fun _ _=>?_)|refine zHg ?_|(with_reducible refine cY ?_;first|(exact cV)|(refine zSkip ?_)|(refine cW rfl ?_ ?_))|(with_reducible refine cX ?_;first|(refine zDone ?_)|(refine zQu 0 rfl rfl rfl rfl ?_)|(refine zQu 1 rfl rfl rfl rfl ?_)|(refine zQu 2 rfl rfl rfl rfl ?_)|(refine zQu 3 rfl rfl rfl rfl ?_)|(refine zQu 4 rfl rfl rfl rfl ?_)|(refine zQu 5 rfl rfl rfl rfl ?_)|(refine zQu 6 rfl rfl rfl rfl ?_)|(refine zQu 7 rfl rfl rfl rfl ?_)|(refine zQu 8 rfl rfl rfl rfl ?_)|(refine zQu 9 rfl rfl rfl rfl ?_)|(refine zQu 10 rfl rfl rfl rfl ?_)|(refine zQu 16 rfl rfl rfl rfl ?_)|(refine zAll ?_;show cH _ _ _ _ _ _ _))|with_reducible refine dB ?_|simp(disch:=omega) [go_sem,bN,bC,bF,bG]|refine zAny aS ?_|fail)
  all_goals refine aX [] [] 10000 _ _ (Fits.mk' (by simp[go_sem,bN,bC,bF,bG]) (by simp[go_sem,bN,bC,bF,bG])) (by simp[go_sem,bN,bC,bF,bG]) (by simp[go_sem,bN,bC,bF,bG]) (h1) (by simp[go_sem,bN,bC,bF,bG]) (by simp[go_sem,bN,bC,bF,bG]) ?_
  all_goals repeat' (first|(refine aA fun _ _=>?_)|refine zHg ?_|(with_reducible refine cY ?_;first|(exact cV)|(refine zSkip ?_)|(refine cW rfl ?_ ?_))|(with_reducible refine cX ?_;first|(refine zDone ?_)|(refine zQu 0 rfl rfl rfl rfl ?_)|(refine zQu 1 rfl rfl rfl rfl ?_)|(refine zQu 2 rfl rfl rfl rfl ?_)|(refine zQu 3 rfl rfl rfl rfl ?_)|(refine zQu 4 rfl rfl rfl rfl ?_)|(refine zQu 5 rfl rfl rfl rfl ?_)|(refine zQu 6 rfl rfl rfl rfl ?_)|(refine zQu 7 rfl rfl rfl rfl ?_)|(refine zQu 8 rfl rfl rfl rfl ?_)|(refine zQu 9 rfl rfl rfl rfl ?_)|(refine zQu 10 rfl rfl rfl rfl ?_)|(refine zQu 16 rfl rfl rfl rfl ?_)|(refine zAll ?_;show cH _ _ _ _ _ _ _))|with_reducible refine dB ?_|refine(hK _ (Le.sub4 rfl (by simp[go_sem,hn0,bC,bF,bG])))|simp(disch:=omega) [go_sem,bN,bC,bF,bG])
 repeat' (first|(refine aA fun _ _=>?_)|refine zHg ?_|simp(disch:=omega) [go_sem,bC,bF,bG])
 refine bL [1,4,5,19,20] [5,900,1000,2] (fun y:Nat×List Lt=> [(21,nt .i64 y.1)]) (fun y:Nat×List Lt=>(5,⟨false,false,false,3,[.agg [.sc (.string h.name),.list false false (H.map aO),if y.2.length=0 then .list false true []else .ref 900 0 y.2.length]],0⟩)::(1000,bC (-1+(iD h bs y.1).length))::(if y.2.length=0 then[]else[(900,⟨true,false,false,3,y.2.map cF,0⟩)])) (fun y:Nat×List Lt=>bs.length - y.1) (fun y:Nat×List Lt=>y.1<=bs.length/\y.2.length=y.1/\y.2++L.drop y.1=L) ((0,[])) (Le.sub4 rfl (by simp[go_sem,bC,bF,bG])) ⟨?_⟩ ?_
 ·exact⟨Nat.zero_le _,rfl,rfl⟩
 intro⟨i,a⟩ ⟨hi,ha,hinv⟩ AA hAA;simp only[kL,Nat.reduceBEq,Nat.reduceEqDiff]
 dsimp only at*
 by_cases hlt:i<bs.length
 ·obtain⟨us,hu,hd⟩:=ih2 i hlt
  have hcn:=hnx i hlt
  rw[hd]at hinv
  clear ih2 hnx hn0 hna hle hsz h1 hd
  generalize iD h bs i=S at*
  generalize hbi:bs[i]=b at*
  obtain⟨q,⟨s,ts⟩⟩:=b
  dsimp only[bX,iT]at*
  generalize cD ts=V at*
  by_cases h0:i=0
  ·subst h0
   obtain rfl:=List.eq_nil_of_length_eq_zero ha
   repeat' (first|((fail_if_success (refine sD ?_));refine jQ (fun K hK=>?_))|refine zHg ?_|simp(disch:=omega) [go_sem,hlt,hbi,bC,bF,bG])
   (try refine jQ (fun K hK=>?_));refine qW (s0:=⟨44,[(1,.clo 71 [.ptr 1000 0 0,.ptr 1001 0 0,.ptr 1002 0 0]),(4,.ptr 4 0 0),(5,.ptr 5 0 0),(7,.ptr 7 0 0),(19,.list false false (bs.map cF)),(20,nt .i64 bs.length),(21,nt .i64 0)],(5,⟨false,false,false,3,[.agg [.sc (.string h.name),.list false false (H.map aO),.list false true []]],0⟩)::(7,⟨false,true,false,3,[cF ⟨q,.mk s ts⟩],0⟩)::(1000,bC (-1+S.length))::(1001,bF m)::(1002,bG C)::(4,⟨false,false,false,3,[.agg [.sc (.string ⟨#[]⟩),.list false true [],.list false true []]],0⟩):: []⟩) (by refine Le.trans ?_ (Le.frzP 7 rfl (by intro h;cases h));exact(Le.sub4 rfl (by simp[go_sem,bC,bF,bG]))) ?_
   repeat' (first|(refine aA fun _ _=>?_)|refine zHg ?_|(with_reducible refine cY ?_;first|(exact cV)|(refine zSkip ?_)|(refine cW rfl ?_ ?_))|(with_reducible refine cX ?_;first|(refine zDone ?_)|(refine zQu 0 rfl rfl rfl rfl ?_)|(refine zQu 1 rfl rfl rfl rfl ?_)|(refine zQu 2 rfl rfl rfl rfl ?_)|(refine zQu 3 rfl rfl rfl rfl ?_)|(refine zQu 4 rfl rfl rfl rfl ?_)|(refine zQu 5 rfl rfl rfl rfl ?_)|(refine zQu 6 rfl rfl rfl rfl ?_)|(refine zQu 7 rfl rfl rfl rfl ?_)|(refine zQu 8 rfl rfl rfl rfl ?_)|(refine zQu 9 rfl rfl rfl rfl ?_)|(refine zQu 10 rfl rfl rfl rfl ?_)|(refine zQu 16 rfl rfl rfl rfl ?_)|(refine zAll ?_;show cH _ _ _ _ _ _ _))|with_reducible refine dB ?_|simp(disch:=omega) [go_sem,hlt,hbi,bC,bF,bG]|refine zAny aS ?_|fail)
   all_goals refine aX [] [] 10000 _ _ (Fits.mk' (by simp[go_sem,bN,bC,bF,bG]) (by simp[go_sem,bN,bC,bF,bG])) (by simp[go_sem,bN,bC,bF,bG]) (by simp[go_sem,bN,bC,bF,bG]) (hu) (by simp[go_sem,bN,bC,bF,bG]) (by simp[go_sem,bN,bC,bF,bG]) ?_
   all_goals repeat' (first|(refine aA fun _ _=>?_)|refine zHg ?_|(with_reducible refine cY ?_;first|(exact cV)|(refine zSkip ?_)|(refine cW rfl ?_ ?_))|(with_reducible refine cX ?_;first|(refine zDone ?_)|(refine zQu 0 rfl rfl rfl rfl ?_)|(refine zQu 1 rfl rfl rfl rfl ?_)|(refine zQu 2 rfl rfl rfl rfl ?_)|(refine zQu 3 rfl rfl rfl rfl ?_)|(refine zQu 4 rfl rfl rfl rfl ?_)|(refine zQu 5 rfl rfl rfl rfl ?_)|(refine zQu 6 rfl rfl rfl rfl ?_)|(refine zQu 7 rfl rfl rfl rfl ?_)|(refine zQu 8 rfl rfl rfl rfl ?_)|(refine zQu 9 rfl rfl rfl rfl ?_)|(refine zQu 10 rfl rfl rfl rfl ?_)|(refine zQu 16 rfl rfl rfl rfl ?_)|(refine zAll ?_;show cH _ _ _ _ _ _ _))|with_reducible refine dB ?_|(refine(hAA.next ((0+1,[⟨q,.mk s us⟩])) (Le.renSub [(40,900)] [(900,40)] (by simp[go_sem,hcn,Int.add_assoc,bC,bF,bG]) (by simp[go_sem,hcn,Int.add_assoc,bC,bF,bG]) (Le.sub4 rfl (by simp[go_sem,hcn,Int.add_assoc,bC,bF,bG]))) (by(try dsimp only);omega) ?_))|simp(disch:=omega) [go_sem,hlt,hbi,bC,bF,bG])
   try any_goals omega
   all_goals exact⟨hlt,rfl,hinv⟩
  ·repeat' (first|((fail_if_success (refine sD ?_));refine jQ (fun K hK=>?_))|refine zHg ?_|simp(disch:=omega) [go_sem,hlt,hbi,h0,ha,bC,bF,bG])
   (try refine jQ (fun K hK=>?_));refine qW (s0:=⟨44,[(1,.clo 71 [.ptr 1000 0 0,.ptr 1001 0 0,.ptr 1002 0 0]),(4,.ptr 4 0 0),(5,.ptr 5 0 0),(7,.ptr 7 0 0),(19,.list false false (bs.map cF)),(20,nt .i64 bs.length),(21,nt .i64 i)],(5,⟨false,false,false,3,[.agg [.sc (.string h.name),.list false false (H.map aO),.ref 900 0 a.length]],0⟩)::(7,⟨false,true,false,3,[cF ⟨q,.mk s ts⟩],0⟩)::(1000,bC (-1+S.length))::(1001,bF m)::(1002,bG C)::(4,⟨false,false,false,3,[.agg [.sc (.string ⟨#[]⟩),.list false true [],.list false true []]],0⟩):: [(900,⟨true,false,false,3,a.map cF,0⟩)]⟩) (by refine Le.trans ?_ (Le.frzP 7 rfl (by intro h;cases h));exact(Le.sub4 rfl (by simp[go_sem,bC,bF,bG,ha]))) ?_
   repeat' (first|(refine aA fun _ _=>?_)|refine zHg ?_|(with_reducible refine cY ?_;first|(exact cV)|(refine zSkip ?_)|(refine cW rfl ?_ ?_))|(with_reducible refine cX ?_;first|(refine zDone ?_)|(refine zQu 0 rfl rfl rfl rfl ?_)|(refine zQu 1 rfl rfl rfl rfl ?_)|(refine zQu 2 rfl rfl rfl rfl ?_)|(refine zQu 3 rfl rfl rfl rfl ?_)|(refine zQu 4 rfl rfl rfl rfl ?_)|(refine zQu 5 rfl rfl rfl rfl ?_)|(refine zQu 6 rfl rfl rfl rfl ?_)|(refine zQu 7 rfl rfl rfl rfl ?_)|(refine zQu 8 rfl rfl rfl rfl ?_)|(refine zQu 9 rfl rfl rfl rfl ?_)|(refine zQu 10 rfl rfl rfl rfl ?_)|(refine zQu 16 rfl rfl rfl rfl ?_)|(refine zAll ?_;show cH _ _ _ _ _ _ _))|with_reducible refine dB ?_|simp(disch:=omega) [go_sem,hlt,hbi,h0,ha,bC,bF,bG]|refine zAny aS ?_|fail)
   all_goals refine aX [] [] 10000 _ _ (Fits.mk' (by simp[go_sem,bN,bC,bF,bG]) (by simp[go_sem,bN,bC,bF,bG])) (by simp[go_sem,bN,bC,bF,bG]) (by simp[go_sem,bN,bC,bF,bG]) (hu) (by simp[go_sem,bN,bC,bF,bG]) (by simp[go_sem,bN,bC,bF,bG]) ?_
   all_goals repeat' (first|(refine aA fun _ _=>?_)|refine zHg ?_|(with_reducible refine cY ?_;first|(exact cV)|(refine zSkip ?_)|(refine cW rfl ?_ ?_))|(with_reducible refine cX ?_;first|(refine zDone ?_)|(refine zQu 0 rfl rfl rfl rfl ?_)|(refine zQu 1 rfl rfl rfl rfl ?_)|(refine zQu 2 rfl rfl rfl rfl ?_)|(refine zQu 3 rfl rfl rfl rfl ?_)|(refine zQu 4 rfl rfl rfl rfl ?_)|(refine zQu 5 rfl rfl rfl rfl ?_)|(refine zQu 6 rfl rfl rfl rfl ?_)|(refine zQu 7 rfl rfl rfl rfl ?_)|(refine zQu 8 rfl rfl rfl rfl ?_)|(refine zQu 9 rfl rfl rfl rfl ?_)|(refine zQu 10 rfl rfl rfl rfl ?_)|(refine zQu 16 rfl rfl rfl rfl ?_)|(refine zAll ?_;show cH _ _ _ _ _ _ _))|with_reducible refine dB ?_|(refine(hAA.next ((i+1,a++ [⟨q,.mk s us⟩])) (Le.sub4 rfl (by simp[go_sem,hcn,ha,Int.add_assoc,bC,bF,bG])) (by(try dsimp only);omega) ?_))|simp(disch:=omega) [go_sem,hlt,hbi,h0,ha,bC,bF,bG]|refine zAo ?_|fail)
   try any_goals omega
   all_goals exact⟨hlt,by simp[ha],by rw[List.append_assoc];exact hinv⟩
 ·obtain rfl:i=bs.length:=by omega
  rw[<-hLl,List.drop_length,List.append_nil]at hinv
  subst hinv
  rw[hna]
  clear ih2 hnx hn0 hna hle h1
  generalize fY ⟨h,bs⟩=S at*
  by_cases h0:bs.length=0
  ·obtain rfl:=List.eq_nil_of_length_eq_zero h0
   obtain rfl:=List.eq_nil_of_length_eq_zero hLl
   repeat' (first|(refine aA fun _ _=>?_)|refine zHg ?_|simp(disch:=omega) [go_sem,bC,bF,bG])
   refine cJ ⟨44,[(4,.ptr 4 0 0)],(4,⟨false,false,false,3,[.agg [.sc (.string h.name),.list false false (H.map aO),.list false true []]],0⟩)::(1000,bC (-1+S.length))::(1001,bF m)::(1002,bG C):: []⟩ [.agg [.sc (.string h.name),.list false false (H.map aO),.list false true []]] (Le.renSub [] [] (by simp[go_sem,bC,bF,bG]) (by simp[go_sem,bC,bF,bG]) (Le.sub4 rfl (by simp[go_sem,bC,bF,bG]))) (by simp[go_sem,bC,bF,bG]) ⟨rfl,rfl⟩
  ·have h0': ¬bs= []:=fun h=>h0 (by rw[h];rfl)
   repeat' (first|(refine aA fun _ _=>?_)|refine zHg ?_|simp(disch:=omega) [go_sem,h0,h0',ha,bC,bF,bG])
   refine cJ ⟨44,[(4,.ptr 4 0 0)],(4,⟨false,false,false,3,[.agg [.sc (.string h.name),.list false false (H.map aO),.ref 900 0 bs.length]],0⟩)::(1000,bC (-1+S.length))::(1001,bF m)::(1002,bG C):: [(900,⟨true,false,false,3,a.map cF,0⟩)]⟩ [.agg [.sc (.string h.name),.list false false (H.map aO),.ref 900 0 bs.length]] (Le.renSub [] [] (by simp[go_sem,bC,bF,bG]) (by simp[go_sem,bC,bF,bG]) (Le.sub4 rfl (by simp[go_sem,bC,bF,bG]))) (by simp[go_sem,bC,bF,bG]) ⟨rfl,rfl⟩
theorem bRs (m:Mu) (C:List ByteArray) (p j:Nat) (hk:m.kind=4) (hKd:m.index.tdiv C.length=(p:Int)) (hpm:(p:Int)<=9223372036854775807) (hJ:m.index.tmod C.length=(j:Int)) (hj:j<C.length) (r:Rl) (hz:SzM r):
 ACall prog 34 [bH r,cR m,.list false false (C.map aI)] (fun v=>v=bH (wT p C[j] r)):=by
 have key:=bRr m C p j hKd hpm hJ hj r hz
 have k2:MCall prog 60 [bH r,.clo 71 [.ptr 1000 0 0,.ptr 1001 0 0,.ptr 1002 0 0]] (bN (-1) m C) (fun v o'=>v=bH (wT p C[j] r)/\o'=bN (-1+(fY r).length) m C):=by
  by_cases h0:r.body.length=0
  ·obtain⟨h,bs⟩:=r
   obtain rfl:=List.eq_nil_of_length_eq_zero h0
   simp only[List.length_nil,if_true]at key
   exact key.loose (o1:=bN (-1+(fY ⟨h,[]⟩).length) m C) (by simp[go_sem]) (by simp[go_sem]) (by simp[go_sem])
  ·simp only[h0,if_false]at key
   have hrl:(gT p C[j] (cD r.head.args).length r.body).length=r.body.length:=F5
   refine key.shared (s':=?_) (y:= .agg [.sc (.string r.head.name),.list false false ((dW p C[j] 0 r.head.args).map aO),.list false false ((gT p C[j] (cD r.head.args).length r.body).map cF)]) (by simp[go_sem,cA,hrl];rfl) (by simp[go_sem]) (by simp[go_sem]) (by simp[go_sem])
 clear key
 generalize wT p C[j] r=R at*
 generalize(fY r).length=N at*
 refine aQ func34 call34 rfl (by simp[ntmps34]) ?_;simp only[ntmps34,results34]
 repeat' (first|(refine aA fun _ _=>?_)|refine zHg ?_|simp(disch:=omega) [go_sem,hk])
 refine aX [(1000,7),(1001,4),(1002,5)] [(7,1000),(4,1001),(5,1002)] 10000 _ _ (Fits.mk' (by simp[go_sem,bN,bC,bF,bG,hk]) (by simp[go_sem,bN,bC,bF,bG,hk])) (by simp[go_sem,bN,bC,bF,bG,hk]) (by simp[go_sem,bN,bC,bF,bG,hk]) (k2) (by simp[go_sem,bN,bC,bF,bG,hk]) (by simp[go_sem,bN,bC,bF,bG,hk]) ?_
 repeat' (first|(refine aA fun _ _=>?_)|refine zHg ?_|(refine aM [] ?_;simp[go_sem,hk,bN,bC,bF,bG])|simp(disch:=omega) [go_sem,hk,bN,bC,bF,bG])
theorem bRt (m:Mu) (C:List ByteArray) (hk:m.kind=5) (hi:m.index=0) (r:Rl) (h2:2<=r.head.args.length) (hl:r.head.args.length<=1000000):
 ACall prog 34 [bH r,cR m,.list false false (C.map aI)] (fun v=>v=bH ⟨lY r.head,r.body⟩):=by
 have h1:=aOa r.head h2 hl
 generalize lY r.head=H at*
 refine aQ func34 call34 rfl (by simp[ntmps34]) ?_;simp only[ntmps34,results34]
 repeat' (first|(refine aA fun _ _=>?_)|refine zHg ?_|(refine aM [] ?_;simp[go_sem,hk,hi])|refine aH rfl (h1) (by simp) ?_|simp(disch:=omega) [go_sem,hk,hi])
abbrev gH (b:List Lt):AObj:=⟨true,false,true,3,b.map cF,0⟩
theorem bRu (m:Mu) (C:List ByteArray) (k:Nat) (hk:m.kind=3) (hi:m.index=(k:Int)) (r:Rl) (hkl:k<r.body.length) (hl:r.body.length<=1000000):
 MCall prog 34 [.agg [.sc (.string r.head.name),.list false false (r.head.args.map aO),.ref 1000 0 r.body.length],cR m,.list false false (C.map aI)] [(1000,gH r.body)] (fun v o'=>v=bH ⟨r.head,gC tA k r.body⟩/\o'= []):=by
 obtain⟨h,bs⟩:=r
 dsimp only at*
 have hset:(bs.map cF).set k (.agg [.sc (.bool (!bs[k].neg)),.sc (.string bs[k].atom.name),.list false false (bs[k].atom.args.map aO)])=(gC tA k bs).map cF:=by
  apply List.ext_getElem?
  intro i
  unfold gC
  rw[List.getElem?_map,List.getElem?_modify,List.getElem?_set]
  by_cases hik:k=i
  ·subst hik
   simp[hkl,tA];rfl
  ·simp[hik]
 have hal:(gC tA k bs).length=bs.length:=F6
 have key:MCall prog 34 [.agg [.sc (.string h.name),.list false false (h.args.map aO),.ref 1000 0 bs.length],cR m,.list false false (C.map aI)] [(1000,gH bs)] (fun v o'=>v= .agg [.sc (.string h.name),.list false false (h.args.map aO),.ref 1000 0 bs.length]/\o'= [(6,⟨false,false,false,3,[.agg [.sc (.string h.name),.list false false (h.args.map aO),.ref 1000 0 bs.length]],0⟩),(1000,⟨true,false,false,3,(gC tA k bs).map cF,0⟩)]):=by
  generalize hbk:bs[k]=b at*
  generalize gC tA k bs=W at*
  have hkz:(k:Int)<bs.length:=by omega
  refine dC func34 call34 rfl (by simp[ntmps34]) ?_;simp only[ntmps34,results34]
  repeat' (first|(refine aA fun _ _=>?_)|refine zHg ?_|simp(disch:=omega) [go_sem,hk,hi,hkl,hbk,hset,hkz]|refine zDr 14 aS ?_|fail)
  try any_goals omega
  refine cJ ⟨68,[(6,.ptr 6 0 0)],[(6,⟨false,false,false,3,[.agg [.sc (.string h.name),.list false false (h.args.map aO),.ref 1000 0 bs.length]],0⟩),(1000,⟨true,false,false,3,W.map cF,0⟩)]⟩ [.agg [.sc (.string h.name),.list false false (h.args.map aO),.ref 1000 0 bs.length]] (by refine Le.trans ?_ (Le.unpin 1000 rfl);exact(Le.sub4 rfl (by simp[go_sem]))) (by simp[go_sem]) ⟨rfl,rfl⟩
 refine key.shared (s':=?_) (y:= .agg [.sc (.string h.name),.list false false (h.args.map aO),.list false false ((gC tA k bs).map cF)]) (by simp[go_sem,cA,gH,hal];rfl) (by simp[go_sem]) (by simp[go_sem]) (by simp[go_sem])
theorem bRv (m:Mu) (C:List ByteArray) (k:Nat) (hk:m.kind=5) (hi:m.index=(k:Int)+1) (r:Rl) (hkl:k<r.body.length) (hl:r.body.length<=1000000) (h2:2<=r.body[k].atom.args.length) (hl2:r.body[k].atom.args.length<=1000000):
 MCall prog 34 [.agg [.sc (.string r.head.name),.list false false (r.head.args.map aO),.ref 1000 0 r.body.length],cR m,.list false false (C.map aI)] [(1000,gH r.body)] (fun v o'=>v=bH ⟨r.head,gC sZ k r.body⟩/\o'= []):=by
 obtain⟨h,bs⟩:=r
 dsimp only at*
 have hkl':k<bs.length:=hkl
 have h1:=aOa bs[k].atom h2 hl2
 have hset:(bs.map cF).set k (.agg [.sc (.bool bs[k].neg),.sc (.string (lY bs[k].atom).name),.list false false ((lY bs[k].atom).args.map aO)])=(gC sZ k bs).map cF:=by
  apply List.ext_getElem?
  intro i
  unfold gC
  rw[List.getElem?_map,List.getElem?_modify,List.getElem?_set]
  by_cases hik:k=i
  ·subst hik
   simp[hkl,sZ];rfl
  ·simp[hik]
 have hal:(gC sZ k bs).length=bs.length:=F6
 have key:MCall prog 34 [.agg [.sc (.string h.name),.list false false (h.args.map aO),.ref 1000 0 bs.length],cR m,.list false false (C.map aI)] [(1000,gH bs)] (fun v o'=>v= .agg [.sc (.string h.name),.list false false (h.args.map aO),.ref 1000 0 bs.length]/\o'= [(6,⟨false,false,false,3,[.agg [.sc (.string h.name),.list false false (h.args.map aO),.ref 1000 0 bs.length]],0⟩),(1000,⟨true,false,false,3,(gC sZ k bs).map cF,0⟩)]):=by
  generalize hbk:bs[k]=b at*
  generalize lY b.atom=Z at*
  generalize gC sZ k bs=W at*
  have hkz:(k:Int)<bs.length:=by omega
  have hk1: ¬(k:Int)+1=0:=by omega
  refine dC func34 call34 rfl (by simp[ntmps34]) ?_;simp only[ntmps34,results34]
  repeat' (first|(refine aA fun _ _=>?_)|refine zHg ?_|refine dP rfl (h1) rfl (by simp) ?_|simp(disch:=omega) [go_sem,hk,hi,hkl',hbk,hset,hkz,hk1]|refine zDr 14 aS ?_|fail)
  try any_goals omega
  refine cJ ⟨68,[(6,.ptr 6 0 0)],[(6,⟨false,false,false,3,[.agg [.sc (.string h.name),.list false false (h.args.map aO),.ref 1000 0 bs.length]],0⟩),(1000,⟨true,false,false,3,W.map cF,0⟩)]⟩ [.agg [.sc (.string h.name),.list false false (h.args.map aO),.ref 1000 0 bs.length]] (by refine Le.trans ?_ (Le.unpin 1000 rfl);exact(Le.sub4 rfl (by simp[go_sem]))) (by simp[go_sem]) ⟨rfl,rfl⟩
 refine key.shared (s':=?_) (y:= .agg [.sc (.string h.name),.list false false (h.args.map aO),.list false false ((gC sZ k bs).map cF)]) (by simp[go_sem,cA,gH,hal];rfl) (by simp[go_sem]) (by simp[go_sem]) (by simp[go_sem])
abbrev zLt:AV:= .agg [.sc (.bool false),.sc (.string ⟨#[]⟩),.list false true []]
theorem bRw (X Y Z W:List AV) (n k m:Nat) (hX:X.length=n) (hk:k+1+m=n) (hn:n<=1000000) (hy:(X.drop (k+1)).take m=Y) (hz:X.take k++(Y++X.drop (k+m))=Z) (hw:Z.take (k+m)++ [zLt]=W) (hc: ∀y∈Y,y.cells.length=3) (hyl:Y.length=m) (hzl:Z.length=n):
 MCall prog 70 [.ref 1000 0 n,nt .i64 k,nt .i64 (k+1)] [(1000,⟨true,false,true,3,X,0⟩)]
  (fun r o'=>r= .ref 1002 0 (k+m)/\o'= [(1002,⟨true,false,false,3,W,0⟩)]):=by
 refine bIy func70 call70 rfl (by simp[ntmps70]) rfl (by omega) fun c hcc=>?_
 simp only[ntmps70,results70]
 have e1: ¬(k:Int)=(k:Int)+1:=by omega
 have e2:n - (k+1)=m:=by omega
 have e3:n - (k+m)=1:=by omega
 have e4:k+1+m<=n:=by omega
 have e5:k+m<=n:=by omega
 have e6:k+m+1<=n:=by omega
 have e7:k+m<=c:=by omega
 have e8:((k:Int)+m).toNat=k+m:=by omega
 have e9: ∀z,clC (k+m+1) z (some ⟨true,false,false,3,Z,0⟩)=z:=fun z=>aIk (by show k+m+1<=Z.length;omega)
 have ea:Z.drop (k+m+1)= []:=List.drop_eq_nil_of_le (by omega)
 have hwl:W.length=k+m+1:=by rw[<-hw,List.length_append,List.length_take,List.length_singleton];omega
 skip
 repeat' (first|(refine aA fun _ _=>?_)|refine zHg ?_|simp(disch:=omega) [go_sem,e1,e2,e3,e4,e5,e6,e7,e8,e9,ea,hX,hy,hz,hw,hyl,hzl,hc]|refine zAo ?_|refine zDr 6 aS ?_|fail)
 refine cJ ⟨33,[(6,.ref 1002 0 (k+m))],[(1002,⟨true,false,false,3,W,0⟩)]⟩ [.ref 1002 0 (k+m)] (by refine Le.trans ?_ (Le.unrc 6 rfl rfl (by(try simp);omega));refine Le.trans ?_ (Le.move (i:=6) (T:=1000) (T':=1002) rfl (by show(0:Nat)≠1;decide) rfl rfl rfl);exact(Le.sub4 rfl (by simp[go_sem,hw]))) (by simp[go_sem,hw]) ⟨rfl,rfl⟩
theorem bRx (bs:List Lt) (k m:Nat) (hk:k+1+m=bs.length) (hn:bs.length<=1000000):
 MCall prog 70 [.ref 1000 0 bs.length,nt .i64 k,nt .i64 (k+1)] [(1000,gH bs)]
  (fun r o'=>r= .ref 1002 0 (k+m)/\o'= [(1002,⟨true,false,false,3,(bs.eraseIdx k).map cF++ [zLt],0⟩)]):=by
 have hw:((bs.map cF).take k++((((bs.map cF).drop (k+1)).take m)++(bs.map cF).drop (k+m))).take (k+m)++ [zLt]=(bs.eraseIdx k).map cF++ [zLt]:=by
  congr 1
  have e1:((bs.map cF).drop (k+1)).take m=(bs.map cF).drop (k+1):=List.take_of_length_le (by(try simp);omega)
  rw[e1,<-List.append_assoc,List.take_append_of_le_length (by(try simp);omega),List.take_of_length_le (by(try simp);omega),<-List.map_take,<-List.map_drop,<-List.map_append,List.eraseIdx_eq_take_drop_succ]
 exact bRw (bs.map cF) _ _ _ bs.length k m (by simp) hk hn rfl rfl hw (fun y hy=>by
  have:=List.mem_of_mem_drop (List.mem_of_mem_take hy)
  obtain⟨b,_,rfl⟩:=List.mem_map.1 this
  rfl) (by(try simp);omega) (by(try simp);omega)
theorem bRy (m:Mu) (C:List ByteArray) (k:Nat) (hk:m.kind=2) (hi:m.index=(k:Int)) (r:Rl) (hkl:k<r.body.length) (hl:r.body.length<=1000000):
 MCall prog 34 [.agg [.sc (.string r.head.name),.list false false (r.head.args.map aO),.ref 1000 0 r.body.length],cR m,.list false false (C.map aI)] [(1000,gH r.body)] (fun v o'=>v=bH ⟨r.head,r.body.eraseIdx k⟩/\o'= []):=by
 obtain⟨h,bs⟩:=r
 have hkl':k<bs.length:=hkl
 obtain⟨j,hj⟩: ∃j,k+1+j=bs.length:=⟨bs.length - (k+1),by omega⟩
 have hd:=bRx bs k j hj hl
 have hel:(bs.eraseIdx k).length=k+j:=by rw[List.length_eraseIdx,if_pos hkl'];omega
 dsimp only at*
 have hsg:(((bs.eraseIdx k).map cF)++ [zLt]).take (k+j)=(bs.eraseIdx k).map cF:=by
  rw[List.take_append_of_le_length (by(try simp);omega),List.take_of_length_le (by(try simp);omega)]
 generalize bs.eraseIdx k=E at*
 have key:MCall prog 34 [.agg [.sc (.string h.name),.list false false (h.args.map aO),.ref 1000 0 bs.length],cR m,.list false false (C.map aI)] [(1000,gH bs)] (fun v o'=>v= .agg [.sc (.string h.name),.list false false (h.args.map aO),.ref 900 0 (k+j)]/\o'= [(6,⟨false,false,false,3,[.agg [.sc (.string h.name),.list false false (h.args.map aO),.ref 900 0 (k+j)]],0⟩),(900,⟨true,false,false,3,E.map cF++ [zLt],0⟩)]):=by
  clear hsg hel
  refine dC func34 call34 rfl (by simp[ntmps34]) ?_;simp only[ntmps34,results34]
  repeat' (first|(refine aA fun _ _=>?_)|refine zHg ?_|simp(disch:=omega) [go_sem,hk,hi,gH])
  try any_goals omega
  refine bGg [1000] [] [] 10000 _ _ (Fits.mk' (by simp[go_sem,gH]) (by simp[go_sem,gH])) (by simp[go_sem,gH]) (by simp[go_sem,gH]) (hd) (by simp[go_sem,gH]) (by simp[go_sem,gH]) ?_
  repeat' (first|(refine aA fun _ _=>?_)|refine zHg ?_|simp(disch:=omega) [go_sem,hk,hi,gH])
  refine cJ ⟨68,[(6,.ptr 6 0 0)],[(6,⟨false,false,false,3,[.agg [.sc (.string h.name),.list false false (h.args.map aO),.ref 900 0 (k+j)]],0⟩),(900,⟨true,false,false,3,E.map cF++ [zLt],0⟩)]⟩ [.agg [.sc (.string h.name),.list false false (h.args.map aO),.ref 900 0 (k+j)]] (Le.renSub [(11002,900)] [(900,11002)] (by simp[go_sem]) (by simp[go_sem]) (Le.sub4 rfl (by simp[go_sem]))) (by simp[go_sem]) ⟨rfl,rfl⟩
 refine key.shared (s':=?_) (y:= .agg [.sc (.string h.name),.list false false (h.args.map aO),.list false false (E.map cF)]) (by simp[go_sem,hel,hsg];rfl) (by simp[go_sem]) (by simp[go_sem]) (by simp[go_sem])
def rL (m:Mu):List Mu->Nat->Int
 | [],_=> -1
 |x::r,i=>if m=x then i else rL m r (i+1)
theorem aOh {m:Mu}: ∀{L:List Mu} {i:Nat},0<=rL m L i↔m∈L
 | [],i=>by simp[rL]
 |x::r,i=>by
  rw[rL]
  by_cases h:m=x
  ·rw[if_pos h];simp[h]
  ·rw[if_neg h,aOh];simp[h]
theorem bRz (m x:Mu):m=x↔(m.kind=x.kind/\m.rule=x.rule/\m.index=x.index):=by
 cases m;cases x;simp
theorem bR0 (L:List Mu) (le fu:Bool) (m:Mu):ACall prog 68 [.list le fu (L.map cR),cR m] (fun r=>r=nt .i64 (rL m L 0)):=by
 refine ACall.bound (i:=0) rfl call68 fun hb=>?_
 rw[List.length_map]at hb
 have hb:L.length<=140737488355328:=hb
 generalize hV:rL m L 0=V
 refine aQ func68 call68 rfl (by simp[ntmps68]) ?_;simp only[ntmps68,results68]
 repeat' (first|(refine aA fun _ _=>?_)|refine zHg ?_|simp(disch:=omega) [go_sem])
 refine bL [0,3,7] [] (fun i:Nat=> [(8,nt .i64 i)]) (fun i:Nat=> []) (fun i:Nat=>L.length - i) (fun i:Nat=>i<=L.length/\rL m (L.drop i) i=V) (0) (Le.sub4 rfl (by simp[go_sem])) ⟨?_⟩ ?_
 ·exact⟨Nat.zero_le _,hV⟩
 intro i ⟨hi,hG⟩ AA hAA;simp only[kL,Nat.reduceBEq,Nat.reduceEqDiff]
 clear hV
 by_cases hlt:i<L.length
 ·rw[List.drop_eq_getElem_cons hlt,rL]at hG
  generalize hx:L[i]=x at*
  have he:=bRz m x
  by_cases hq:m=x
  ·rw[if_pos hq]at hG
   subst hG
   have he:=he.1 hq
   obtain⟨e1,e2,e3⟩:=he
   repeat' (first|(refine aA fun _ _=>?_)|refine zHg ?_|(refine aM [] ?_;simp[go_sem,hlt,hx,e1,e2,e3,cR])|simp(disch:=omega) [go_sem,hlt,hx,e1,e2,e3,cR]|refine zDr 6 aS ?_|fail)
  ·rw[if_neg hq]at hG
   have he: ¬(m.kind=x.kind/\m.rule=x.rule/\m.index=x.index):=fun h=>hq (he.2 h)
   repeat' (first|(refine aA fun _ _=>?_)|refine zHg ?_|(refine(hAA.next (i+1) (Le.sub4 rfl (by simp[go_sem,cR])) (by(try dsimp only);omega) ?_))|simp(disch:=omega) [go_sem,hlt,hx,he,cR]|refine zDr 6 aS ?_|fail)
   try any_goals omega
   all_goals exact⟨hlt,hG⟩
 ·obtain rfl:i=L.length:=by omega
  rw[List.drop_length,rL]at hG
  subst hG
  repeat' (first|(refine aA fun _ _=>?_)|refine zHg ?_|(refine aM [] ?_;simp[go_sem])|simp(disch:=omega) [go_sem])
theorem bR1 (L:List Mu) (le fu:Bool) (m:Mu):ACall prog 32 [.list le fu (L.map cR),cR m] (fun r=>r=bl (decide (m∈L))):=by
 have h:=bR0 L le fu m
 have e:=aOh (m:=m) (L:=L) (i:=0)
 generalize rL m L 0=V at*
 by_cases hm:m∈L
 ·rw[decide_eq_true hm]
  have e:=e.2 hm
  refine aQ func32 call32 rfl (by simp[ntmps32]) ?_;simp only[ntmps32,results32]
  repeat' (first|(refine aA fun _ _=>?_)|refine zHg ?_|(refine aM [] ?_;simp[go_sem,e])|refine aH rfl (h) (by simp) ?_|simp(disch:=omega) [go_sem,e])
 ·rw[decide_eq_false hm]
  have e: ¬0<=V:=fun h=>hm (e.1 h)
  refine aQ func32 call32 rfl (by simp[ntmps32]) ?_;simp only[ntmps32,results32]
  repeat' (first|(refine aA fun _ _=>?_)|refine zHg ?_|(refine aM [] ?_;simp[go_sem,e])|refine aH rfl (h) (by simp) ?_|simp(disch:=omega) [go_sem,e])
def lD (l:List Rl) (m:Mu):Int:=if m.kind<1\/5<m.kind then 20 else if m∈eF l then 0 else 12
def rM (l:List Rl) (m:Mu):AV:=if lD l m=0 then .own 3 ((kK l m).map bH)else .list false true []
theorem aOi {l:List Rl} {m:Mu}:lD l m=0↔m∈eF l:=by
 unfold lD
 have hk:m∈eF l->1<=m.kind/\m.kind<=5:=fun h=>by
  obtain⟨i,_,h⟩:=R7.1 h
  rcases aDp.1 h with rfl|⟨k,h1,rfl|rfl⟩|⟨p,k,h1,h2,h3,rfl⟩|⟨k,h1,h2,rfl⟩<;>simp
 by_cases h1:m.kind<1\/5<m.kind
 ·rw[if_pos h1]
  exact⟨fun h=>absurd h (by decide),fun h=>by have:=hk h;omega⟩
 ·rw[if_neg h1]
  by_cases h2:m∈eF l
  ·rw[if_pos h2];simp[h2]
  ·rw[if_neg h2];simp[h2]
theorem aOj (m:Mu) (C:List ByteArray) (l:List Rl): ∀n,(oD m C l n).length<=n
 |0=>by simp[oD]
 |n+1=>by
  rw[oD,List.length_append]
  have:=aOj m C l n
  split
  ·split<;>simp<;>omega
  ·simp;omega
theorem bR2 (i:Nat) (r:Rl) (C:List ByteArray) (m:Mu) (hz:SzM r) (hC:C.length<=17820) (h:m∈jV i r C) (hk:m.kind≠1):
 ACall prog 34 [bH r,cR m,.list false false (C.map aI)] (fun v=>v=bH (kJ r m C))\/
 (¬r.body.length=0/\MCall prog 34 [.agg [.sc (.string r.head.name),.list false false (r.head.args.map aO),.ref 1000 0 r.body.length],cR m,.list false false (C.map aI)] [(1000,gH r.body)] (fun v o'=>v=bH (kJ r m C)/\o'= [])):=by
 have hbl:=hz.body
 rcases aDp.1 h with rfl|⟨k,h1,rfl|rfl⟩|⟨p,k,h1,h2,h3,rfl⟩|⟨k,h1,h2,rfl⟩
 ·exact absurd rfl hk
 ·refine .inr ⟨by omega,?_⟩
  have e:kJ r ⟨2,i,k⟩ C=⟨r.head,r.body.eraseIdx k⟩:=by unfold kJ;rw[if_pos rfl];rfl
  rw[e]
  exact bRy ⟨2,i,k⟩ C k rfl rfl r h1 (by omega)
 ·refine .inr ⟨by omega,?_⟩
  have e:kJ r ⟨3,i,k⟩ C=⟨r.head,gC tA k r.body⟩:=by unfold kJ;rw[if_neg (by simp),if_pos rfl];rfl
  rw[e]
  exact bRu ⟨3,i,k⟩ C k rfl rfl r h1 (by omega)
 ·refine .inl ?_
  have hc:0<C.length:=by omega
  have hsl:=wU hz
  have e1:(p*C.length+k) / C.length=p:=by
   rw[Nat.mul_comm,Nat.mul_add_div hc,Nat.div_eq_of_lt h2,Nat.add_zero]
  have e2:(p*C.length+k) % C.length=k:=by
   rw[Nat.mul_comm,Nat.mul_add_mod,Nat.mod_eq_of_lt h2]
  have e:kJ r ⟨4,i,(p*C.length+k:Nat)⟩ C=wT p C[k] r:=by
   unfold kJ
   rw[if_neg (by simp),if_neg (by simp),if_pos rfl]
   dsimp only[Int.toNat_natCast]
   rw[e1,e2,qF h2]
  rw[e]
  refine bRs ⟨4,i,(p*C.length+k:Nat)⟩ C p k rfl ?_ (by omega) ?_ h2 r hz
  ·show Int.tdiv ((p*C.length+k:Nat):Int) (C.length:Int)=p
   rw[<-Int.ofNat_tdiv,e1]
  ·show Int.tmod ((p*C.length+k:Nat):Int) (C.length:Int)=k
   rw[<-Int.ofNat_tmod,e2]
 ·rw[aDr]at h1
  cases k with
  |zero=>
   refine .inl ?_
   rw[bOy]at h2
   have e:kJ r ⟨5,i,(0:Nat)⟩ C=⟨lY r.head,r.body⟩:=by
    unfold kJ
    rw[if_neg (by simp),if_neg (by simp),if_neg (by simp),if_pos rfl,if_pos (show((0:Nat):Int)=0 from rfl)]
   rw[e]
   have:=hz.head
   have:=qZ r.head.args
   exact bRt ⟨5,i,(0:Nat)⟩ C rfl rfl r (aNf h2).1 (by omega)
  |succ k=>
   have hkl:k<r.body.length:=by omega
   rw[bOz hkl]at h2
   refine .inr ⟨by omega,?_⟩
   have e:kJ r ⟨5,i,(k+1:Nat)⟩ C=⟨r.head,gC sZ k r.body⟩:=by
    unfold kJ
    rw[if_neg (by simp),if_neg (by simp),if_neg (by simp),if_pos rfl,if_neg (by(try simp);omega)];rfl
   rw[e]
   have:=hz.atom r.body[k] (List.getElem_mem hkl)
   have:=qZ r.body[k].atom.args
   exact bRv ⟨5,i,(k+1:Nat)⟩ C k rfl (by simp) r hkl (by omega) (aNf h2).1 (by omega)
theorem S0 (l:List Rl) (le fu:Bool) (m:Mu) (hz: ∀r∈l,SzM r) (hl:l.length<=99):ACall prog 14 [.list le fu (l.map bH),cR m] (fun v=>v= .tup [rM l m,nt .i64 (lD l m)]):=by
 by_cases hk1:m.kind<1
 ·have e:lD l m=20:=by unfold lD;rw[if_pos (.inl hk1)]
  unfold rM
  rw[e,if_neg (by decide)]
  refine aQ func14 call14 rfl (by simp[ntmps14]) ?_;simp only[ntmps14,results14]
  repeat' (first|(refine aA fun _ _=>?_)|refine zHg ?_|(refine aM [] ?_;simp[go_sem,hk1])|simp(disch:=omega) [go_sem,hk1])
 ·by_cases hk2:5<m.kind
  ·have e:lD l m=20:=by unfold lD;rw[if_pos (.inr hk2)]
   unfold rM
   rw[e,if_neg (by decide)]
   refine aQ func14 call14 rfl (by simp[ntmps14]) ?_;simp only[ntmps14,results14]
   repeat' (first|(refine aA fun _ _=>?_)|refine zHg ?_|(refine aM [] ?_;simp[go_sem,hk1,hk2])|simp(disch:=omega) [go_sem,hk1,hk2])
  ·have hc:=(aOe l le fu hz hl).frz
   have hcl:=aD1 hz hl
   have hE:lD l m=if m∈eF l then 0 else 12:=by unfold lD;rw[if_neg (by omega)]
   by_cases hr1:m.rule<0
   ·have hn: ¬m∈eF l:=fun h=>by
     obtain⟨i,hi,h⟩:=R7.1 h
     have:=aDq h;omega
    rw[if_neg hn]at hE
    unfold rM
    rw[hE,if_neg (by decide)]
    generalize fO l=C at*
    refine aQ func14 call14 rfl (by simp[ntmps14]) ?_;simp only[ntmps14,results14]
    repeat' (first|(refine aA fun _ _=>?_)|refine zHg ?_|(refine aM [] ?_;simp[go_sem,hk1,hk2,hr1])|refine aH rfl (hc) (by simp) ?_|simp(disch:=omega) [go_sem,hk1,hk2,hr1]|refine zDr 24 aS ?_|fail)
   ·by_cases hr2:(l.length:Int)<=m.rule
    ·have hn: ¬m∈eF l:=fun h=>by
      obtain⟨i,hi,h⟩:=R7.1 h
      have:=aDq h;omega
     rw[if_neg hn]at hE
     unfold rM
     rw[hE,if_neg (by decide)]
     generalize fO l=C at*
     refine aQ func14 call14 rfl (by simp[ntmps14]) ?_;simp only[ntmps14,results14]
     repeat' (first|(refine aA fun _ _=>?_)|refine zHg ?_|(refine aM [] ?_;simp[go_sem,hk1,hk2,hr1,hr2])|refine aH rfl (hc) (by simp) ?_|simp(disch:=omega) [go_sem,hk1,hk2,hr1,hr2]|refine zDr 24 aS ?_|fail)
    ·obtain⟨i,hi⟩: ∃i:Nat,m.rule=(i:Int):=⟨m.rule.toNat,by omega⟩
     have hil:i<l.length:=by omega
     have hmem:m∈eF l↔m∈jV i l[i] (fO l):=by
      rw[R7]
      constructor
      ·rintro⟨i',h1,h2⟩
       have:=aDq h2
       obtain rfl:i'=i:=by omega
       rw[qF hil]at h2
       exact h2
      ·intro h
       exact⟨i,hil,by rw[qF hil];exact h⟩
     have hof:=(aOg i l[i] (fO l) (hz _ (List.getElem_mem hil)) (by omega) hcl).frz
     have hco:=bR1 (jV i l[i] (fO l)) false false m
     by_cases hm:m∈jV i l[i] (fO l)
     ·have hE0:lD l m=0:=by rw[hE,if_pos (hmem.2 hm)]
      unfold rM
      rw[hE0,if_pos rfl]
      rw[decide_eq_true hm]at hco
      have hcls:=fun h=>bR2 i l[i] (fO l) m (hz _ (List.getElem_mem hil)) hcl hm h
      have hget:l.getD i yR=l[i]:=qF hil
      unfold kK
      have hdl:=aOj m (fO l) l
      have hnx: ∀n (h:n<l.length),oD m (fO l) l (n+1)=oD m (fO l) l n++(if m.rule=(n:Int)then(if m.kind=1 then[]else[kJ l[n] m (fO l)])else[l[n]]):=fun n h=>by rw[oD,qF h]
      clear hE hmem hE0 hm
      generalize jV i l[i] (fO l)=O at*
      generalize fO l=C at*
      generalize hR:oD m C l l.length=R
      have hk3: ¬(5:Int)<m.kind:=hk2
      refine aQ func14 call14 rfl (by simp[ntmps14]) ?_;simp only[ntmps14,results14]
      repeat' (first|(refine aA fun _ _=>?_)|refine zHg ?_|(refine zdd ?_ ?_<;>(intro h;first|(exfalso;omega)|(simp only[h,zT])))|refine aH rfl (hc) (by simp) ?_|refine dP rfl (hof) rfl (by simp) ?_|refine dP rfl (hco) rfl (by simp) ?_|simp(disch:=omega) [go_sem,hk1,hk2,hr1,hr2,hi,hil]|refine zDr 24 aS ?_|fail)
      clear hc hof hco hcl hr1 hr2 hget hk3
      obtain⟨kd,ru,ix⟩:=m
      dsimp only at hi hk1 hk2 hcls hnx
      subst hi
      refine bL [3,6,44,45] [900,3] (fun y:Nat×List Rl=> [(46,nt .i64 y.1),(7,.ref 900 0 y.2.length)]) (fun y:Nat×List Rl=> [(900,⟨true,false,false,3,y.2.map bH,0⟩),(3,⟨false,true,false,3,[cR ⟨kd,(i:Int),ix⟩],0⟩)]) (fun y:Nat×List Rl=>l.length - y.1) (fun y:Nat×List Rl=>y.1<=l.length/\y.2=oD ⟨kd,(i:Int),ix⟩ C l y.1) ((0,[])) (by refine Le.trans ?_ (Le.frz 3 rfl (by show(0:Nat)≠1;decide));exact(by refine Le.trans ?_ (Le.nil (i:=7) (T:=900) (es:=3) rfl);exact(Le.sub4 rfl (by simp[go_sem,List.map_nil,List.length_nil])))) ⟨?_⟩ ?_
      ·exact⟨Nat.zero_le _,rfl⟩
      intro⟨j,A⟩ ⟨hj,hA⟩ AA hAA;simp only[kL,Nat.reduceBEq,Nat.reduceEqDiff]
      dsimp only at*
      have hAl:A.length<=j:=by rw[hA];exact hdl j
      by_cases hlt:j<l.length
      ·have hn:=hnx j hlt
       rw[<-hA]at hn
       have hzr:=hz _ (List.getElem_mem hlt)
       have hcp:=bRj l[j] hzr
       by_cases hji:j=i
       ·subst hji
        rw[if_pos rfl]at hn
        by_cases hk:kd=1
        ·rw[if_pos hk,List.append_nil]at hn
         repeat' (first|(refine aA fun _ _=>?_)|refine zHg ?_|(refine(hAA.next ((j+1,A)) (Le.sub4 rfl (by simp[go_sem,hk])) (by(try dsimp only);omega) ?_))|simp(disch:=omega) [go_sem,hlt,hk])
         try any_goals omega
         all_goals exact⟨hlt,hn.symm⟩
        ·rw[if_neg hk]at hn
         have hcp1:=bRk l[j] hzr
         have hcl:=hcls hk
         generalize kJ l[j] ⟨kd,(j:Int),ix⟩ C=X at*
         generalize hrj:l[j]=r at*
         clear hcls hnx
         rcases hcl with h1|⟨h0,h2⟩
         ·repeat' (first|(refine aA fun _ _=>?_)|refine zHg ?_|(with_reducible refine cY ?_;first|(exact cV)|(refine zSkip ?_)|(refine cW rfl ?_ ?_))|(with_reducible refine cX ?_;first|(refine zDone ?_)|(refine zQu 0 rfl rfl rfl rfl ?_)|(refine zQu 1 rfl rfl rfl rfl ?_)|(refine zQu 3 rfl rfl rfl rfl ?_)|(refine zQu 4 rfl rfl rfl rfl ?_)|(refine zQu 8 rfl rfl rfl rfl ?_)|(refine zAll ?_;show cH _ _ _ _ _ _ _))|with_reducible refine dB ?_|refine aH rfl (hcp) (by simp) ?_|refine aH rfl (h1) (by simp) ?_|(refine(hAA.next ((j+1,A++ [X])) (Le.sub4 rfl (by simp[go_sem])) (by(try dsimp only);omega) ?_))|simp(disch:=omega) [go_sem,hlt,hrj,hk]|refine zAo ?_|refine zAny aS ?_|fail)
          try any_goals omega
          all_goals exact⟨hlt,hn.symm⟩
         ·have hcp1:=hcp1 h0
          clear hcp
          skip
          repeat' (first|((fail_if_success (refine sD ?_));refine jQ (fun K hK=>?_))|refine zHg ?_|simp(disch:=omega) [go_sem,hlt,hrj,hk])
          (try refine jQ (fun K hK=>?_));refine qW (s0:=⟨75,[(3,.ptr 3 0 0),(6,.list false false (C.map aI)),(7,.ref 900 0 A.length),(9,.ptr 9 0 0),(44,.list le fu (l.map bH)),(45,nt .i64 l.length),(46,nt .i64 j)],(3,⟨false,true,false,3,[cR ⟨kd,(j:Int),ix⟩],0⟩)::(9,⟨false,true,false,3,[bH r],0⟩):: [(900,⟨true,false,false,3,A.map bH,0⟩)]⟩) (by refine Le.trans ?_ (Le.frzP 9 rfl (by intro h;cases h));exact(Le.sub4 rfl (by simp[go_sem]))) ?_
          repeat' (first|(refine aA fun _ _=>?_)|refine zHg ?_|(with_reducible refine cY ?_;first|(exact cV)|(refine zSkip ?_)|(refine cW rfl ?_ ?_))|(with_reducible refine cX ?_;first|(refine zDone ?_)|(refine zQu 0 rfl rfl rfl rfl ?_)|(refine zQu 1 rfl rfl rfl rfl ?_)|(refine zQu 3 rfl rfl rfl rfl ?_)|(refine zQu 4 rfl rfl rfl rfl ?_)|(refine zQu 8 rfl rfl rfl rfl ?_)|(refine zAll ?_;show cH _ _ _ _ _ _ _))|simp(disch:=omega) [go_sem,hlt,hrj,hk]|refine zAny aS ?_|fail)
          all_goals refine aX [] [] 10000 _ _ (Fits.mk' (by simp[go_sem]) (by simp[go_sem])) (by simp[go_sem]) (by simp[go_sem]) (hcp1) (by simp[go_sem]) (by simp[go_sem]) ?_
          all_goals repeat' (first|(refine aA fun _ _=>?_)|refine zHg ?_|(with_reducible refine cY ?_;first|(exact cV)|(refine zSkip ?_)|(refine cW rfl ?_ ?_))|(with_reducible refine cX ?_;first|(refine zDone ?_)|(refine zQu 0 rfl rfl rfl rfl ?_)|(refine zQu 1 rfl rfl rfl rfl ?_)|(refine zQu 3 rfl rfl rfl rfl ?_)|(refine zQu 4 rfl rfl rfl rfl ?_)|(refine zQu 8 rfl rfl rfl rfl ?_)|(refine zAll ?_;show cH _ _ _ _ _ _ _))|with_reducible refine dB ?_|simp(disch:=omega) [go_sem,hlt,hrj,hk])
          all_goals refine aX [(1000,10900)] [(10900,1000)] 20000 _ _ (Fits.mk' (by simp[go_sem,gH]) (by simp[go_sem,gH])) (by simp[go_sem,gH]) (by simp[go_sem,gH]) (h2) (by simp[go_sem,gH]) (by simp[go_sem,gH]) ?_
          all_goals repeat' (first|(refine aA fun _ _=>?_)|refine zHg ?_|(with_reducible refine cY ?_;first|(exact cV)|(refine zSkip ?_)|(refine cW rfl ?_ ?_))|(with_reducible refine cX ?_;first|(refine zDone ?_)|(refine zQu 0 rfl rfl rfl rfl ?_)|(refine zQu 1 rfl rfl rfl rfl ?_)|(refine zQu 3 rfl rfl rfl rfl ?_)|(refine zQu 4 rfl rfl rfl rfl ?_)|(refine zQu 8 rfl rfl rfl rfl ?_)|(refine zAll ?_;show cH _ _ _ _ _ _ _))|with_reducible refine dB ?_|(refine(hAA.next ((j+1,A++ [X])) (Le.sub4 rfl (by simp[go_sem])) (by(try dsimp only);omega) ?_))|simp(disch:=omega) [go_sem,hlt,hrj,hk]|refine zAo ?_|fail)
          try any_goals omega
          all_goals exact⟨hlt,hn.symm⟩
       ·rw[if_neg (by omega)]at hn
        have hji2: ¬(j:Int)=(i:Int):=by omega
        generalize hrj:l[j]=r at*
        clear hcls hnx
        repeat' (first|(refine aA fun _ _=>?_)|refine zHg ?_|refine aH rfl (hcp) (by simp) ?_|(refine(hAA.next ((j+1,A++ [r])) (Le.sub4 rfl (by simp[go_sem])) (by(try dsimp only);omega) ?_))|simp(disch:=omega) [go_sem,hlt,hrj,hji,hji2]|refine zAo ?_|fail)
        try any_goals omega
        all_goals exact⟨hlt,hn.symm⟩
      ·obtain rfl:j=l.length:=by omega
       obtain rfl:=hA.trans hR
       repeat' (first|(refine aA fun _ _=>?_)|refine zHg ?_|(refine aM [] ?_;simp[go_sem])|simp(disch:=omega) [go_sem])
     ·have hE0:lD l m=12:=by rw[hE,if_neg (fun h=>hm (hmem.1 h))]
      unfold rM
      rw[hE0,if_neg (by decide)]
      rw[decide_eq_false hm]at hco
      clear hE hmem hE0 hm
      generalize jV i l[i] (fO l)=O at*
      generalize fO l=C at*
      refine aQ func14 call14 rfl (by simp[ntmps14]) ?_;simp only[ntmps14,results14]
      repeat' (first|(refine aA fun _ _=>?_)|refine zHg ?_|(refine zdd ?_ ?_<;>(intro h;first|(exfalso;omega)|(simp only[h,zT])))|(refine aM [] ?_;simp[go_sem,hk1,hk2,hr1,hr2,hi,hil])|refine aH rfl (hc) (by simp) ?_|refine dP rfl (hof) rfl (by simp) ?_|refine dP rfl (hco) rfl (by simp) ?_|simp(disch:=omega) [go_sem,hk1,hk2,hr1,hr2,hi,hil]|refine zDr 24 aS ?_|fail)
set_option maxHeartbeats 8000000
def wV (n:Nat):ByteArray:=⟨#[UInt8.ofNat (48+n)]⟩
theorem bR3 (n:Nat) (h:n<=1):ACall prog 154 [nt .i64 n] (fun r=>r= .sc (.string (wV n))):=by
 have hc:n=0\/n=1:=by omega
 rcases hc with rfl|rfl
 all_goals refine aQ func154 call154 rfl (by simp[ntmps154]) ?_;simp only[ntmps154,results154]
 all_goals repeat' (first|(refine aA fun _ _=>?_)|refine zHg ?_|(refine aM [] ?_;simp[go_sem])|simp(disch:=omega) [go_sem])
 all_goals kernel_rfl
theorem bR4 (n:Nat) (h:n<=1):ACall prog 123 [nt .i64 n,nt .i64 10] (fun r=>r= .sc (.string (wV n))):=by
 have h1:=bR3 n h
 have a1:(0:Int)<=n:=by omega
 have a2:(n:Int)<100:=by omega
 generalize wV n=q at*
 refine aQ func123 call123 rfl (by simp[ntmps123]) ?_;simp only[ntmps123,results123]
 repeat' (first|(refine aA fun _ _=>?_)|refine zHg ?_|(refine aM [] ?_;simp[go_sem,a1,a2])|refine aH rfl (h1) (by simp) ?_|simp(disch:=omega) [go_sem,a1,a2])
theorem bR5 (n:Nat) (h:n<=1):ACall prog 76 [nt .i64 n] (fun r=>r= .sc (.string (wV n))):=by
 have h1:=bR4 n h
 generalize wV n=q at*
 refine aQ func76 call76 rfl (by simp[ntmps76]) ?_;simp only[ntmps76,results76]
 repeat' (first|(refine aA fun _ _=>?_)|refine zHg ?_|(refine aM [] ?_;simp[go_sem])|refine aH rfl (h1) (by simp) ?_|simp(disch:=omega) [go_sem])
theorem aOk (n:Nat) (h:n<=1):ACall prog 38 [nt .i64 n] (fun r=>r= .sc (.string (wV n))):=by
 have h1:=bR5 n h
 generalize wV n=q at*
 refine aQ func38 call38 rfl (by simp[ntmps38]) ?_;simp only[ntmps38,results38]
 repeat' (first|(refine aA fun _ _=>?_)|refine zHg ?_|(refine aM [] ?_;simp[go_sem])|refine aH rfl (h1) (by simp) ?_|simp(disch:=omega) [go_sem])
def S1:ByteArray:=⟨#[110,101,103,97,116,101,32,108,105,116,101,114,97,108,32,48,32,111,102,32,114,117,108,101,32,49]⟩
def gU:Nat->ByteArray
 |0=>⟨#[]⟩
 |1=>⟨#[110,101,103,97,116,101,32,108,105,116,101,114,97,108,32]⟩
 |2=>⟨#[110,101,103,97,116,101,32,108,105,116,101,114,97,108,32,48]⟩
 |3=>⟨#[110,101,103,97,116,101,32,108,105,116,101,114,97,108,32,48,32,111,102,32,114,117,108,101,32]⟩
 |_=>S1
theorem bR6 [PhG]:ACall prog 17 [cR ⟨3,1,0⟩] (fun r=>r= .sc (.string S1)):=by
 have h0:ACall prog 38 [nt .i64 0] (fun r=>r= .sc (.string ⟨#[48]⟩)):=(aOk 0 (by decide))
 have h1:ACall prog 38 [nt .i64 1] (fun r=>r= .sc (.string ⟨#[49]⟩)):=(aOk 1 (by decide))
 have e0:gU 0++⟨#[110,101,103,97,116,101,32,108,105,116,101,114,97,108,32]⟩=gU 1:=by kernel_rfl
 have e1:gU 1++⟨#[48]⟩=gU 2:=by kernel_rfl
 have e2:gU 2++⟨#[32,111,102,32,114,117,108,101,32]⟩=gU 3:=by kernel_rfl
 have e3:gU 3++⟨#[49]⟩=gU 4:=by kernel_rfl
 have ez:(⟨#[]⟩:ByteArray)=gU 0:=rfl
 have ef:gU 4=S1:=rfl
 have n0R:(⟨#[110,101,103,97,116,101,32,108,105,116,101,114,97,108,32]⟩:ByteArray)≠⟨#[82]⟩:=by decide
 have n1R:(⟨#[73]⟩:ByteArray)≠⟨#[82]⟩:=by decide
 have n2R:(⟨#[32,111,102,32,114,117,108,101,32]⟩:ByteArray)≠⟨#[82]⟩:=by decide
 have n0I:(⟨#[110,101,103,97,116,101,32,108,105,116,101,114,97,108,32]⟩:ByteArray)≠⟨#[73]⟩:=by decide
 have n2I:(⟨#[32,111,102,32,114,117,108,101,32]⟩:ByteArray)≠⟨#[73]⟩:=by decide
 have z0:(gU 0).size<=100:=by decide
 have z1:(gU 1).size<=100:=by decide
 have z2:(gU 2).size<=100:=by decide
 have z3:(gU 3).size<=100:=by decide
 refine aQ func17 call17 rfl (by simp[ntmps17]) ?_;simp only[ntmps17,results17]
 repeat' (first|(refine aA fun _ _=>?_)|refine zHg ?_|simp(disch:=omega) [go_sem,wH])
 refine bL [1,17,18] [] (fun i:Nat=> [(19,nt .i64 i),(3,.sc (.string (gU i)))]) (fun i:Nat=> []) (fun i:Nat=>4 - i) (fun i:Nat=>i<=4) (0) (Le.sub4 rfl (by simp[go_sem,wH,ez])) ⟨?_⟩ ?_
 ·exact Nat.zero_le _
 intro i hi AA hAA;simp only[kL,Nat.reduceBEq,Nat.reduceEqDiff]
 have hc:i=0\/i=1\/i=2\/i=3\/i=4:=by omega
 clear hi
 rcases hc with rfl|rfl|rfl|rfl|rfl
 ·generalize hp0:gU 0=p0 at*
  generalize hq0:gU 1=q0 at*
  repeat' (first|(refine aA fun _ _=>?_)|refine zHg ?_|(refine(hAA.next (1) (Le.sub4 rfl (by simp[go_sem,hq0])) (by(try dsimp only);omega) ?_))|simp(disch:=omega) [go_sem,n0R,n1R,n2R,n0I,n2I,e0]|refine zAo ?_|fail)
  all_goals(first|omega|decide|skip)
  all_goals exact⟨by omega⟩
 ·generalize hp1:gU 1=p1 at*
  generalize hq1:gU 2=q1 at*
  repeat' (first|(refine aA fun _ _=>?_)|refine zHg ?_|refine aH rfl (h0) (by simp) ?_|(refine(hAA.next (2) (Le.sub4 rfl (by simp[go_sem,hq1])) (by(try dsimp only);omega) ?_))|simp(disch:=omega) [go_sem,n0R,n1R,n2R,n0I,n2I,e1]|refine zAo ?_|fail)
  all_goals(first|omega|decide|skip)
  all_goals exact⟨by omega⟩
 ·generalize hp2:gU 2=p2 at*
  generalize hq2:gU 3=q2 at*
  repeat' (first|(refine aA fun _ _=>?_)|refine zHg ?_|(refine(hAA.next (3) (Le.sub4 rfl (by simp[go_sem,hq2])) (by(try dsimp only);omega) ?_))|simp(disch:=omega) [go_sem,n0R,n1R,n2R,n0I,n2I,e2]|refine zAo ?_|fail)
  all_goals(first|omega|decide|skip)
  all_goals exact⟨by omega⟩
 ·generalize hp3:gU 3=p3 at*
  generalize hq3:gU 4=q3 at*
  repeat' (first|(refine aA fun _ _=>?_)|refine zHg ?_|refine aH rfl (h1) (by simp) ?_|(refine(hAA.next (4) (Le.sub4 rfl (by simp[go_sem,hq3])) (by(try dsimp only);omega) ?_))|simp(disch:=omega) [go_sem,n0R,n1R,n2R,n0I,n2I,e3]|refine zAo ?_|fail)
  all_goals(first|omega|decide|skip)
  all_goals exact⟨by omega⟩
 ·rw[ef]
  repeat' (first|(refine aA fun _ _=>?_)|refine zHg ?_|(refine aM [] ?_;simp[go_sem])|simp(disch:=omega) [go_sem])
set_option maxHeartbeats 16000000
theorem aD8: ∀r∈ [lZ,nB],SzM r:=by
 intro r hr
 simp only[List.mem_cons,List.not_mem_nil,or_false]at hr
 rcases hr with rfl|rfl
 ·exact⟨by decide,by decide,by decide⟩
 ·exact⟨by decide,by decide,by decide⟩
theorem bR7 [PhG]:ACall prog 7 [] (fun r=>r=bl true):=by
 have h1:=(aLq cP (by decide))
 have h2:=(aLq cQ (by decide))
 rw[bP6]at h1
 rw[bRd]at h2
 have h3:=(aD7 [lZ,nB] true false aD8 (by decide))
 rw[aDs]at h3
 have h4:=(S0 [lZ,nB] true false ⟨4,1,5⟩ aD8 (by decide))
 have h5:=(S0 [lZ,nB] true false ⟨4,1,0⟩ aD8 (by decide))
 have e4:lD [lZ,nB] ⟨4,1,5⟩=0:=by rw[aOi,aDs];decide
 have e5:lD [lZ,nB] ⟨4,1,0⟩=12:=by
  unfold lD
  rw[aDs,if_neg (by decide),if_neg (by decide)]
 unfold rM at h4 h5
 rw[e4,if_pos rfl,bRe]at h4
 rw[e5,if_neg (by decide)]at h5
 have h6:=(bM9 [rK,tB] [rK,tB] true false true false (by
  intro r hr
  simp only[List.mem_cons,List.not_mem_nil,or_false]at hr
  rcases hr with rfl|rfl<;>decide))
 rw[decide_eq_true rfl]at h6
 have h7:=bR6
 have hds:S1=⟨#[110,101,103,97,116,101,32,108,105,116,101,114,97,108,32,48,32,111,102,32,114,117,108,101,32,49]⟩:=rfl
 clear e4 e5
 unfold cP at h1
 unfold cQ at h2
 simp only[List.map_cons,List.map_nil]at h1 h2 h3 h4 h5 h6
 generalize lZ=x0 at*
 generalize nB=x1 at*
 generalize rK=y0 at*
 generalize tB=y1 at*
 refine aQ func7 call7 rfl (by simp[ntmps7]) ?_;simp only[ntmps7,results7]
 repeat' (first|(refine aA fun _ _=>?_)|refine zHg ?_|(refine aM [] ?_;simp[go_sem,cR,hds])|refine aH rfl (h1) (by simp) ?_|refine aH rfl (h2) (by simp) ?_|refine aH rfl (h3) (by simp) ?_|refine aH rfl (h4) (by simp) ?_|refine aH rfl (h5) (by simp) ?_|refine aH rfl (h6) (by simp) ?_|refine aH rfl (h7) (by simp) ?_|simp(disch:=omega) [go_sem,cR,hds])
open Go.RowKit
theorem bR8 {m:Int} {l:List Rl} (h:sO m l=true):(∀r∈l,SzM r)/\(l.length:Int)<=m:=by
 unfold sO at h
 rw[Bool.and_eq_true,Bool.and_eq_true,List.all_eq_true,decide_eq_true_eq]at h
 refine⟨fun r hr=>?_,h.1⟩
 have h1:=h.2.1 r hr
 unfold rF at h1
 rw[Bool.and_eq_true,Bool.and_eq_true,decide_eq_true_eq,List.all_eq_true]at h1
 obtain⟨a1,a2,a3⟩:=h1
 refine⟨?_,by omega,fun b hb=>?_⟩
 ·have:=N7 (by decide) a1
  rw[eU]at this;omega
 ·have:=N7 (by decide) (a3 b hb)
  rw[eU]at this;omega
theorem bR9 (l:List Rl) (m:Int) (hm:0<=m/\m<=100) (h:(∀r∈l,Q2 r)/\l.length<=dD):ACall prog 6 [.list false false (l.map bH),nt .i64 m] (fun r=>r=bl (sO m l)):=
 (bN6 (M:=reachBytes) (by decide) (by decide+kernel) l false m hm (fun r hr=>(h.1 r hr).1) h.2 (fun r hr=>(h.1 r hr).2))
theorem aOl {l:List Rl} {le fu:Bool} {m:Mu} (h:ACall prog 14 [.list le fu (l.map bH),cR m] (fun v=>v= .tup [rM l m,nt .i64 (lD l m)])) (hm:m∈eF l):
 ACall prog 14 [.list le fu (l.map bH),cR m] (fun v=>v= .tup [.own 3 ((kK l m).map bH),nt .i64 0]):=by
 unfold rM at h
 rw[aOi.2 hm,if_pos rfl]at h
 exact h
theorem aOm (t:Tm):bZ (lY t).args<=bZ t.args:=by
 obtain⟨s,ts⟩:=t
 match ts with
 | []=>simp[lY,bX]
 | [a]=>have:=uL a;simp[lY,bX,bZ,zT,Tm.size];exact this
 |a::b::r=>simp[lY,bX,bZ];omega
theorem aOn {f:Lt->Lt} {k:Nat} {l:List Lt} {b:Lt} (h:b∈gC f k l): ∃b0∈l,b=b0\/b=f b0:=by
 obtain⟨j,hj,rfl⟩:=List.mem_iff_getElem.1 h
 have hl:j<l.length:=by rw[F6]at hj;exact hj
 refine⟨l[j],List.getElem_mem hl,?_⟩
 have e:(gC f k l)[j]?=some (gC f k l)[j]:=List.getElem?_eq_getElem hj
 have e2:(gC f k l)[j]?=(if k=j then f else id)<$>l[j]?:=by
  unfold gC
  rw[List.getElem?_modify]
  split<;>simp
 rw[e2,List.getElem?_eq_getElem hl]at e
 have e:=Option.some.inj e
 rw[<-e]
 split
 ·exact .inr rfl
 ·exact .inl rfl
theorem bSa {K:Nat} {c:ByteArray}: ∀(t:Tm) {k:Nat},(F4 K c k t).size=t.size:=by
 refine fL fun t ih k=>?_
 obtain⟨s,ts⟩:=t
 simp only[bX]at ih
 rw[aM6]
 split
 ·rw[eU,eU,bX,bX]
 ·rw[eU,eU,bX,bX]
  congr 1
  have key: ∀(l:List Tm) (k:Nat),(∀u∈l,u∈ts)->bZ (dW K c k l)=bZ l:=by
   intro l
   induction l with
   |nil=>intro k _;rw[dW]
   |cons u r ihl=>
    intro k hm
    rw[dW,bZ,bZ,ih u (hm u (by simp)),ihl _ (fun v hv=>hm v (by simp[hv]))]
  exact key ts k fun u hu=>hu
theorem aD9 {K:Nat} {c:ByteArray}: ∀{l:List Tm} {k:Nat},bZ (dW K c k l)=bZ l
 | [],k=>by rw[dW]
 |u::r,k=>by rw[dW,bZ,bZ,bSa u,aD9]
structure SzA (r:Rl):Prop where
 head:r.head.size<=100
 body:r.body.length<=1000000
 atom: ∀b∈r.body,b.atom.size<=100
theorem F8 {r:Rl} (hz:SzM r):SzA r:=
 ⟨by rw[eU];have:=hz.head;omega,by have:=hz.body;omega,fun b hb=>by rw[eU];have:=hz.atom b hb;omega⟩
theorem aOo {K:Nat} {c:ByteArray}: ∀{l:List Lt} {k:Nat},(∀b∈l,bZ b.atom.args<=20)-> ∀b∈gT K c k l,b.atom.size<=100
 | [],k,_,b,hb=>by simp[gT]at hb
 |x::m,k,h,b,hb=>by
  rw[gT,List.mem_cons]at hb
  rcases hb with rfl|hb
  ·rw[eU]
   dsimp only[bX]
   rw[aD9]
   have:=h x (by simp)
   omega
  ·exact aOo (fun y hy=>h y (by simp[hy])) b hb
theorem bSb {r:Rl} {m:Mu} {C:List ByteArray} (hz:SzM r):SzA (kJ r m C):=by
 have h0:=F8 hz
 unfold kJ
 split
 ·refine⟨h0.head,?_,fun b hb=>h0.atom b (List.mem_of_mem_eraseIdx hb)⟩
  have:=List.length_eraseIdx_le r.body m.index.toNat
  have:=h0.body
  dsimp only
  omega
 split
 ·refine⟨h0.head,by rw[F6];exact h0.body,fun b hb=>?_⟩
  obtain⟨b0,hb0,rfl|rfl⟩:=aOn hb
  ·exact h0.atom _ hb0
  ·exact h0.atom b0 hb0
 split
 ·refine⟨?_,?_,aOo hz.atom⟩
  ·unfold wT
   rw[eU]
   dsimp only[bX]
   rw[aD9]
   have:=hz.head
   omega
  ·unfold wT
   dsimp only
   rw[F5]
   exact h0.body
 split
 ·split
  ·refine⟨?_,h0.body,h0.atom⟩
   rw[eU]
   have:=aOm r.head
   have:=hz.head
   dsimp only
   omega
  ·refine⟨h0.head,by rw[F6];exact h0.body,fun b hb=>?_⟩
   obtain⟨b0,hb0,rfl|rfl⟩:=aOn hb
   ·exact h0.atom _ hb0
   ·have:=aOm b0.atom
    have:=hz.atom b0 hb0
    show(lY b0.atom).size<=100
    rw[eU]
    omega
 ·exact h0
theorem aOp {l:List Rl} {m:Mu} {C:List ByteArray} (hz: ∀r∈l,SzM r): ∀n,n<=l.length-> ∀r∈oD m C l n,SzA r
 |0,_,r,h=>by simp[oD]at h
 |n+1,hn,r,h=>by
  have hl:n<l.length:=by omega
  have hzn:=hz l[n] (List.getElem_mem hl)
  rw[oD,List.mem_append,qF hl]at h
  rcases h with h|h
  ·exact aOp hz n (by omega) r h
  ·split at h
   ·split at h
    ·simp at h
    ·obtain rfl:=List.mem_singleton.1 h;exact bSb hzn
   ·obtain rfl:=List.mem_singleton.1 h;exact F8 hzn
theorem aOq {l:List Rl} {m:Mu} (hz: ∀r∈l,SzM r): ∀r∈kK l m,SzA r:=aOp hz l.length (Nat.le_refl _)
noncomputable def tC (l:List Rl) (m:Mu):Bool:=decide ((gS (kK l m)).2=0)
noncomputable def eG (cf:Mu->Bool) (A:List Mu) (i:Nat):List Mu:=(A.take i).filter fun m=> !cf m
theorem aEa {cf:Mu->Bool} {A:List Mu} {i:Nat} (h:i<A.length):eG cf A (i+1)=eG cf A i++(if cf A[i]=true then[]else[A[i]]):=by
 unfold eG
 rw[eZ h,List.filter_append]
 congr 1
 by_cases hc:cf A[i]=true<;>simp[hc]
theorem S2 {cf:Mu->Bool} {A:List Mu} {i:Nat}:(eG cf A i).length<=i:=by
 unfold eG
 have:=List.length_filter_le (fun m=> !cf m) (A.take i)
 rw[List.length_take]at this
 omega
theorem bSc {cf:Mu->Bool} {A:List Mu} {i:Nat} (h:i<A.length) (hc:cf A[i]=false):(eG cf A i).length<(eG cf A A.length).length/\(eG cf A A.length)[(eG cf A i).length]?=some A[i]:=by
 have e:eG cf A A.length=eG cf A i++A[i]::(A.drop (i+1)).filter fun m=> !cf m:=by
  unfold eG
  rw[List.take_length]
  conv=>lhs;rw[<-List.take_append_drop i A,List.filter_append,List.drop_eq_getElem_cons h,List.filter_cons,hc]
  rfl
 rw[e]
 constructor
 ·rw[List.length_append,List.length_cons];omega
 ·rw[List.getElem?_append_right (Nat.le_refl _),Nat.sub_self];rfl
set_option maxHeartbeats 8000000
def fG {α:Type} (cf:α->Bool) (l:List α):Int:=if l.findIdx cf<l.length then l.findIdx cf else -1
theorem S3 {α:Type} {cf:α->Bool} {l:List α} {i:Nat} (h:i<l.length) (he:cf l[i]=true) (hn: ∀(k:Nat) (hk:k<l.length),k<i->cf l[k]=false):fG cf l=i:=by
 have e:l.findIdx cf=i:=by
  rw[List.findIdx_eq h]
  exact⟨he,fun j hj=>by simpa using hn j (by omega) hj⟩
 unfold fG
 rw[e,if_pos h]
theorem S4 {α:Type} {cf:α->Bool} {l:List α} (hn: ∀(k:Nat) (hk:k<l.length),k<l.length->cf l[k]=false):fG cf l= -1:=by
 unfold fG
 rw[if_neg]
 intro h
 have:=List.findIdx_getElem (w:=h)
 rw[hn _ h h]at this
 cases this
theorem aEb {α:Type} {cf:α->Bool} {l:List α}:0<=fG cf l↔l.any cf=true:=by
 unfold fG
 rw[List.any_eq_true]
 by_cases h:l.findIdx cf<l.length
 ·rw[if_pos h]
  exact⟨fun _=>List.findIdx_lt_length.1 h,fun _=>by omega⟩
 ·rw[if_neg h]
  exact⟨fun h=>by omega,fun hh=>absurd (List.findIdx_lt_length.2 hh) h⟩
theorem bSd {α:Type} {cf:α->Bool} {l:List α}: -1<=fG cf l/\fG cf l<l.length:=by
 unfold fG
 split<;>omega
end Go.Proofs.YtbgckcdddlmiaaaGreatDoor
