import Derived.Test.YtbgckcdddlmiaaaDoorS10
import Derived.Test.YtbgckcdddlmiaaaDoorS9
set_option linter.unusedSimpArgs false
set_option linter.unusedVariables false
open Go.Proofs.Tryd
namespace Go.Proofs.YtbgckcdddlmiaaaDoor
open Go.Ab
set_option maxRecDepth 100000
set_option maxHeartbeats 16000000
theorem bZk (l:List ByteArray) (hb:l.length≤140737488355328):MCall prog 31 [.ref 1000 0 l.length,.clo 32 []] [(1000,cQ bM 1 0 l)]
 (fun r o'=> ∃m:List ByteArray,(m.Perm l∧m.Pairwise (fun x y=>iD x y≤0))∧r= .tup []∧o'= [(1000,cQ bM 1 0 m)]):=by
 by_cases hl:l= []
 ·subst hl
  exact(bVc _).mono fun r o' ⟨h1,h2⟩=>⟨[],⟨.refl _,.nil⟩,h1,h2⟩
 ·have h:=aY6 (P:=prog) (f:=31) (g:=32) Value.string (fun _=>rfl) (fun _=>rfl) (ltOf iD) 0 (by decide) l hl call31
   (fun blk cap w hH hblk=>by
    have h:=Any.slices_SortFunc Tryd.pdqS Value.string (fun _=>rfl) iD bWi 32 #[] blk 0 cap l.toArray w call32
     (fun m os dk hs x y=>aY4 Value.string (fun _=>rfl) iD bZg x y _) hH hblk (by(try simp);omega)
    exact h)
  refine h.mono fun r o' ⟨m,⟨h1,h2⟩,h3,h4⟩=>⟨m,⟨h1,?_⟩,h3,h4⟩
  refine h2.imp fun {x y} hxy=>?_
  unfold ltOf at hxy
  simp only[decide_eq_false_iff_not,Int.not_lt]at hxy
  have:=zY x y
  omega
theorem aFs: ∀a b:List Rl,kV (a++b)=kV a++kV b
 | [],b=>rfl
 |r::a,b=>by simp[kV,aFs a b]
theorem aFt {l:List Rl} {i:Nat} (h:i<l.length):kV (l.take (i+1))=kV (l.take i)++eC l[i]:=by
 rw[iX h,aFs];simp[kV]
theorem P9 {l:List Rl} (hz: ∀r∈l,SzM r): ∀i,i≤l.length→(kV (l.take i)).length≤i*180
 |0,_=>by simp[kV]
 |i+1,h=>by
  have hi:i<l.length:=by omega
  rw[aFt hi,List.length_append]
  have:=P9 hz i (by omega)
  have:=sB (hz l[i] (List.getElem_mem hi))
  omega
theorem aFu (l:List Rl) (le fu:Bool) (hz: ∀r∈l,SzM r) (hl:l.length≤99):ACall prog 15 [.list le fu (l.map bZ)] (fun r=>r= .own 1 ((eD l).map bM)):=by
 have hzz:kV []= []:=rfl
 have hle:=P9 hz
 refine bF func15 call15 rfl (by simp[ntmps15]) ?_;simp only[ntmps15,results15]
 repeat' (first|(refine aC fun _ _=>?_)|refine zHg ?_|simp(disch:=omega) [go_sem])
 refine cL [6,7] [900] (fun y:Nat×List ByteArray=> [(8,nt .i64 y.1),(3,.ref 900 0 y.2.length)]) (fun y:Nat×List ByteArray=> [(900,⟨true,false,false,1,y.2.map bM,0⟩)]) (fun y:Nat×List ByteArray=>l.length - y.1) (fun y:Nat×List ByteArray=>y.1≤l.length∧y.2=kV (l.take y.1)) ((0,[])) (by refine Le.trans ?_ (Le.nil (i:=3) (T:=900) (es:=1) rfl);exact(Le.sub4 rfl (by simp[go_sem,List.map_nil,List.length_nil]))) ⟨?_⟩ ?_
 ·exact⟨Nat.zero_le _,rfl⟩
 intro⟨i,A⟩ ⟨hi,hA⟩ AA hAA;simp only[kL,Nat.reduceBEq,Nat.reduceEqDiff,if_true,if_false,List.cons_append,List.nil_append,List.append_nil]
 dsimp only at*
 by_cases hlt:i<l.length
 ·have hp:=aFr l[i] (hz _ (List.getElem_mem hlt))
  have hn:=aFt hlt
  have h1:=hle i hi
  have h2:=sB (hz l[i] (List.getElem_mem hlt))
  rw[←hA]at hn h1
  generalize hri:l[i]=r at*
  generalize eC r=R at*
  repeat' (first|(refine aC fun _ _=>?_)|refine zHg ?_|refine aV rfl (hp) (by simp) ?_|(refine(hAA.next ((i+1,A++R)) (Le.sub4 rfl (by simp[go_sem,bM])) (by(try dsimp only);omega) ?_))|simp(disch:=omega) [go_sem,hlt,hri,bM]|refine zAo ?_|fail)
  all_goals(first|omega|skip)
  all_goals exact⟨hlt,hn.symm⟩
 ·obtain rfl:i=l.length:=by omega
  have h1:=hle l.length (Nat.le_refl _)
  rw[List.take_length]at hA h1
  rw[←hA]at h1
  have hso:=bZk A (by omega)
  have hfin: ∀m:List ByteArray,m.Perm A→m.Pairwise (fun x y=>iD x y≤0)→rY m=eD l:=fun m hm hs=>by
   unfold eD
   refine bWl ?_ hs
   rw[O8,←hA];exact hm
  clear hle hzz
  repeat' (first|(refine aC fun _ _=>?_)|refine zHg ?_|simp(disch:=omega) [go_sem])
  refine aYy [(1000,900)] [(900,1000)] 10000 _ _ (Fits.mk' (by simp[go_sem]) (by simp[go_sem])) (by simp[go_sem]) (by simp[go_sem]) (hso) (by simp[go_sem]) (by intros;simp[go_sem]) ?_;intro m hm
  have hml:=hm.1.length_eq
  have hco:=bWj m (by omega)
  rw[hfin m hm.1 hm.2]at hco
  have hcl2:(eD l).length≤m.length:=by rw[←hfin m hm.1 hm.2];exact O4 _ _
  rw[←hml]
  generalize eD l=Z at*
  repeat' (first|(refine aC fun _ _=>?_)|refine zHg ?_|simp(disch:=omega) [go_sem])
  refine bG [(1000,900)] [(900,1000)] 20000 _ _ (Fits.mk' (by simp[go_sem]) (by simp[go_sem])) (by simp[go_sem]) (by simp[go_sem]) (hco) (by simp[go_sem]) (by simp[go_sem]) ?_
  repeat' (first|(refine aC fun _ _=>?_)|refine zHg ?_|(refine aU [] ?_;simp[go_sem])|simp(disch:=omega) [go_sem])
theorem aFv {l:List Rl} (hz: ∀r∈l,SzM r) (hl:l.length≤99):(eD l).length≤17820:=by
 have h1:=P9 hz l.length (Nat.le_refl _)
 rw[List.take_length]at h1
 unfold eD zZ
 rw[List.length_map]
 have h2:(rN ((bL (qP l)).map fL)).length≤((bL (qP l)).map fL).length:=by
  have h1:(rN ((bL (qP l)).map fL)).Nodup:=by
   refine List.Pairwise.imp (fun {a b} h=>?_) (aCv _)
   rintro rfl
   rw[vX]at h;omega
  exact List.Nodup.length_le_of_subset h1 fun x hx=>(aCw _ x).1 hx
 have h3:((bL (qP l)).map fL).length=(kV l).length:=by rw[List.length_map,O8]
 omega
theorem bZl (r:Rl) (hl:r.body.length≤1000000):ACall prog 34 [bZ r] (fun v=>v= .own 2 ((kU r).map aL)):=by
 obtain⟨h,bs⟩:=r
 dsimp only at*
 have hnx: ∀i (hi:i<bs.length),h::(bs.take (i+1)).map Lt.atom=(h::(bs.take i).map Lt.atom)++ [bs[i].atom]:=fun i hi=>by
  rw[iX hi,List.map_append];rfl
 unfold kU
 dsimp only
 generalize hR:h::bs.map Lt.atom=R
 refine bF func34 call34 rfl (by simp[ntmps34]) ?_;simp only[ntmps34,results34]
 repeat' (first|(refine aC fun _ _=>?_)|refine zHg ?_|simp(disch:=omega) [go_sem])
 refine cL [10,11] [900,8] (fun y:Nat×List Tm=> [(12,nt .i64 y.1),(3,.ref 900 0 y.2.length)]) (fun y:Nat×List Tm=> [(900,⟨true,false,false,2,y.2.map aL,0⟩)]) (fun y:Nat×List Tm=>bs.length - y.1) (fun y:Nat×List Tm=>y.1≤bs.length∧y.2.length=y.1+1∧y.2=h::(bs.take y.1).map Lt.atom) ((0,[h])) (Le.renSub [(8,900)] [(900,8)] (by simp[go_sem]) (by simp[go_sem]) (Le.sub4 rfl (by simp[go_sem]))) ⟨?_⟩ ?_
 ·exact⟨Nat.zero_le _,rfl,rfl⟩
 intro⟨i,A⟩ ⟨hi,hAl,hA⟩ AA hAA;simp only[kL,Nat.reduceBEq,Nat.reduceEqDiff,if_true,if_false,List.cons_append,List.nil_append,List.append_nil]
 dsimp only at*
 by_cases hlt:i<bs.length
 ·have hn:=hnx i hlt
  rw[←hA]at hn
  generalize hbi:bs[i]=b at*
  repeat' (first|(refine aC fun _ _=>?_)|refine zHg ?_|(refine(hAA.next ((i+1,A++ [b.atom])) (Le.sub4 rfl (by simp[go_sem,hAl])) (by(try dsimp only);omega) ?_))|simp(disch:=omega) [go_sem,hlt,hbi,hAl]|refine zAo ?_|fail)
  all_goals(first|omega|skip)
  all_goals exact⟨hlt,by rw[List.length_append,hAl];rfl,hn.symm⟩
 ·obtain rfl:i=bs.length:=by omega
  rw[List.take_length]at hA
  obtain rfl:=hA.trans hR
  repeat' (first|(refine aC fun _ _=>?_)|refine zHg ?_|(refine aU [] ?_;simp[go_sem])|simp(disch:=omega) [go_sem])
theorem Q0 (i:Nat): ∀k,(oA i k).length=2*k
 |0=>rfl
 |k+1=>by rw[oA,List.length_append,Q0 i k];simp;omega
theorem Q1 (i p:Nat) (C:List ByteArray) (s:ByteArray): ∀k,(kR i p C s k).length≤k
 |0=>by simp[kR]
 |k+1=>by
  rw[kR,List.length_append]
  have:=Q1 i p C s k
  split<;>simp<;>omega
theorem Q2 (i:Nat) (C S:List ByteArray): ∀p,(kS i C S p).length≤p*C.length
 |0=>by simp[kS]
 |p+1=>by
  rw[kS,List.length_append,Nat.add_mul,Nat.one_mul]
  have:=Q2 i C S p
  have:=Q1 i p C (S.getD p zs) C.length
  omega
theorem Q3 (i:Nat) (A:List Tm): ∀k,(kT i A k).length≤k
 |0=>by simp[kT]
 |k+1=>by
  rw[kT,List.length_append]
  have:=Q3 i A k
  split<;>simp<;>omega
theorem aFw {i:Nat} {r:Rl} {C:List ByteArray} (hz:SzM r) (hC:C.length≤17820):(gS i r C).length≤3300000:=by
 unfold gS
 rw[List.length_append,List.length_append,List.length_append,Q0]
 have h1:=Q2 i C (eC r) (eC r).length
 have h2:=Q3 i (kU r) (kU r).length
 have h3:=sB hz
 have h4:=hz.body
 rw[A3]at h2 ⊢
 have h5:(eC r).length*C.length≤180*17820:=Nat.mul_le_mul h3 hC
 simp only[List.length_singleton]
 omega
theorem aFx (i:Nat) (r:Rl) (C:List ByteArray) (hz:SzM r) (hi:i≤1000) (hC:C.length≤17820):ACall prog 16 [nt .i64 i,bZ r,.list false false (C.map bM)] (fun v=>v= .own 3 ((gS i r C).map dM)):=by
 have hp:=(aFr r hz).frz
 have ha:=(bZl r (by have:=hz.body;omega)).frz
 have hsl:=sB hz
 have hbl:=hz.body
 have hal:=A3 r
 unfold gS
 generalize eC r=S at*
 generalize kU r=A at*
 obtain⟨h,bs⟩:=r
 dsimp only at*
 have hbd:=Q0 i
 have hpl:=Q2 i C S
 have hil:=Q1 i
 have hsw:=Q3 i A
 have hpC: ∀p,p≤S.length→p*C.length≤180*17820:=fun p hp=>Nat.mul_le_mul (by omega) hC
 generalize hR: [⟨1,i,0⟩]++oA i bs.length++kS i C S S.length++kT i A A.length=R
 refine bF func16 call16 rfl (by simp[ntmps16]) ?_;simp only[ntmps16,results16]
 repeat' (first|(refine aC fun _ _=>?_)|refine zHg ?_|simp(disch:=omega) [go_sem])
 refine cL [0,2,4,20] [900,17] (fun y:Nat×List Mu=> [(21,nt .i64 y.1),(7,.ref 900 0 y.2.length)]) (fun y:Nat×List Mu=> [(900,⟨true,false,false,3,y.2.map dM,0⟩)]) (fun y:Nat×List Mu=>bs.length - y.1) (fun y:Nat×List Mu=>y.1≤bs.length∧y.2= [⟨1,i,0⟩]++oA i y.1) ((0,[⟨1,i,0⟩])) (Le.renSub [(17,900)] [(900,17)] (by simp[go_sem]) (by simp[go_sem]) (Le.sub4 rfl (by simp[go_sem]))) ⟨?_⟩ ?_
 ·exact⟨Nat.zero_le _,rfl⟩
 intro⟨k,M⟩ ⟨hk,hM⟩ AA hAA;simp only[kL,Nat.reduceBEq,Nat.reduceEqDiff,if_true,if_false,List.cons_append,List.nil_append,List.append_nil]
 dsimp only at*
 have hMl:M.length=1+2*k:=by rw[hM,List.length_append,hbd];rfl
 by_cases hlt:k<bs.length
 ·repeat' (first|(refine aC fun _ _=>?_)|refine zHg ?_|(refine(hAA.next ((k+1,M++ [⟨2,i,k⟩,⟨3,i,k⟩])) (Le.sub4 rfl (by simp[go_sem])) (by(try dsimp only);omega) ?_))|simp(disch:=omega) [go_sem,hlt]|refine zAo ?_|fail)
  all_goals(first|omega|skip)
  all_goals exact⟨hlt,by rw[hM,oA,List.append_assoc];first|done|rfl|simp⟩
 ·obtain rfl:k=bs.length:=by omega
  clear hlt hk
  repeat' (first|(refine aC fun _ _=>?_)|refine zHg ?_|refine aV rfl (hp) (by simp) ?_|simp(disch:=omega) [go_sem])
  refine cL [0,2,4,35,36] [900] (fun y:Nat×List Mu=> [(37,nt .i64 y.1),(7,.ref 900 0 y.2.length)]) (fun y:Nat×List Mu=> [(900,⟨true,false,false,3,y.2.map dM,0⟩)]) (fun y:Nat×List Mu=>S.length - y.1) (fun y:Nat×List Mu=>y.1≤S.length∧y.2=M++kS i C S y.1) ((0,M)) (Le.sub4 rfl (by simp[go_sem])) ⟨?_⟩ ?_
  ·exact⟨Nat.zero_le _,by simp[kS]⟩
  intro⟨p,N⟩ ⟨hpi,hN⟩ AA hAA;simp only[kL,Nat.reduceBEq,Nat.reduceEqDiff,if_true,if_false,List.cons_append,List.nil_append,List.append_nil]
  dsimp only at*
  have hNl:N.length≤1+2*bs.length+p*C.length:=by rw[hN,List.length_append];have:=hpl p;omega
  have hpc:=hpC p hpi
  by_cases hlt:p<S.length
  ·have hpc1:=hpC (p+1) hlt
   rw[Nat.add_mul,Nat.one_mul]at hpc1
   have hAB:=hAA
   have hsp:S.getD p zs=S[p]:=jU hlt
   have hnx:kS i C S (p+1)=kS i C S p++kR i p C S[p] C.length:=by rw[kS,hsp]
   generalize hse:S[p]=s at*
   repeat' (first|(refine aC fun _ _=>?_)|refine zHg ?_|simp(disch:=omega) [go_sem,hlt,hse,bM])
   refine cL [0,2,4,9,10,35,36,37,42,43] [900] (fun y:Nat×List Mu=> [(44,nt .i64 y.1),(7,.ref 900 0 y.2.length)]) (fun y:Nat×List Mu=> [(900,⟨true,false,false,3,y.2.map dM,0⟩)]) (fun y:Nat×List Mu=>C.length - y.1) (fun y:Nat×List Mu=>y.1≤C.length∧y.2=N++kR i p C s y.1) ((0,N)) (Le.sub4 rfl (by simp[go_sem])) ⟨?_⟩ ?_
   ·exact⟨Nat.zero_le _,by simp[kR]⟩
   intro⟨k,O⟩ ⟨hk,hO⟩ AA hAA;simp only[kL,Nat.reduceBEq,Nat.reduceEqDiff,if_true,if_false,List.cons_append,List.nil_append,List.append_nil]
   dsimp only at*
   have hOl:O.length≤N.length+k:=by rw[hO,List.length_append];have:=hil p C s k;omega
   by_cases hkl:k<C.length
   ·have hck:C.getD k zs=C[k]:=jU hkl
    have hnk:kR i p C s (k+1)=kR i p C s k++(if C[k]=s then[]else[⟨4,i,(p*C.length+k:Nat)⟩]):=by rw[kR,hck]
    have hpz:(0:Int)≤(p:Int)*(C.length:Int):=by rw[←Int.natCast_mul];omega
    have hpz2:(p:Int)*(C.length:Int)≤3207600:=by rw[←Int.natCast_mul];omega
    by_cases hq:C[k]=s
    ·rw[if_pos hq,List.append_nil]at hnk
     repeat' (first|(refine aC fun _ _=>?_)|refine zHg ?_|(refine(hAA.next ((k+1,O)) (Le.sub4 rfl (by simp[go_sem])) (by(try dsimp only);omega) ?_))|simp(disch:=omega) [go_sem,hkl,hq,bM])
     all_goals(first|omega|skip)
     all_goals exact⟨hkl,by rw[hO,hnk];first|done|rfl|simp⟩
    ·rw[if_neg hq]at hnk
     repeat' (first|(refine aC fun _ _=>?_)|refine zHg ?_|(refine(hAA.next ((k+1,O++ [⟨4,i,(p*C.length+k:Nat)⟩])) (Le.sub4 rfl (by simp[go_sem])) (by(try dsimp only);omega) ?_))|simp(disch:=omega) [go_sem,hkl,hq,bM]|refine zAo ?_|fail)
     all_goals(first|omega|skip)
     all_goals exact⟨hkl,by rw[hO,hnk,List.append_assoc];first|done|rfl|simp⟩
   ·obtain rfl:k=C.length:=by omega
    repeat' (first|(refine aC fun _ _=>?_)|refine zHg ?_|(refine(hAB.next ((p+1,O)) (Le.sub4 rfl (by simp[go_sem])) (by(try dsimp only);omega) ?_))|simp(disch:=omega) [go_sem])
    all_goals(first|omega|skip)
    all_goals exact⟨hlt,by rw[hO,hN,hnx,List.append_assoc];first|done|rfl|simp⟩
  ·obtain rfl:p=S.length:=by omega
   clear hlt hpi
   repeat' (first|(refine aC fun _ _=>?_)|refine zHg ?_|refine aV rfl (ha) (by simp) ?_|simp(disch:=omega) [go_sem])
   refine cL [0,66,67] [900] (fun y:Nat×List Mu=> [(68,nt .i64 y.1),(7,.ref 900 0 y.2.length)]) (fun y:Nat×List Mu=> [(900,⟨true,false,false,3,y.2.map dM,0⟩)]) (fun y:Nat×List Mu=>A.length - y.1) (fun y:Nat×List Mu=>y.1≤A.length∧y.2=N++kT i A y.1) ((0,N)) (Le.sub4 rfl (by simp[go_sem])) ⟨?_⟩ ?_
   ·exact⟨Nat.zero_le _,by simp[kT]⟩
   intro⟨k,O⟩ ⟨hk,hO⟩ AA hAA;simp only[kL,Nat.reduceBEq,Nat.reduceEqDiff,if_true,if_false,List.cons_append,List.nil_append,List.append_nil]
   dsimp only at*
   have hOl:O.length≤N.length+k:=by rw[hO,List.length_append];have:=hsw k;omega
   by_cases hkl:k<A.length
   ·have hsb:=bZh A[k]
    have hak:A.getD k zT=A[k]:=jU hkl
    have hnk:kT i A (k+1)=kT i A k++(if oB A[k]=true then[⟨5,i,k⟩]else[]):=by rw[kT,hak]
    generalize hae:A[k]=a at*
    cases hq:oB a
    ·rw[hq]at hsb hnk
     rw[if_neg (by decide),List.append_nil]at hnk
     repeat' (first|(refine aC fun _ _=>?_)|refine zHg ?_|refine aV rfl (hsb) (by simp) ?_|(refine(hAA.next ((k+1,O)) (Le.sub4 rfl (by simp[go_sem])) (by(try dsimp only);omega) ?_))|simp(disch:=omega) [go_sem,hkl,hae])
     all_goals(first|omega|skip)
     all_goals exact⟨hkl,by rw[hO,hnk];first|done|rfl|simp⟩
    ·rw[hq]at hsb hnk
     rw[if_pos rfl]at hnk
     repeat' (first|(refine aC fun _ _=>?_)|refine zHg ?_|refine aV rfl (hsb) (by simp) ?_|(refine(hAA.next ((k+1,O++ [⟨5,i,k⟩])) (Le.sub4 rfl (by simp[go_sem])) (by(try dsimp only);omega) ?_))|simp(disch:=omega) [go_sem,hkl,hae]|refine zAo ?_|fail)
     all_goals(first|omega|skip)
     all_goals exact⟨hkl,by rw[hO,hnk,List.append_assoc];first|done|rfl|simp⟩
   ·obtain rfl:k=A.length:=by omega
    have e:O=R:=by rw[←hR,hO,hN,hM]
    subst e
    repeat' (first|(refine aC fun _ _=>?_)|refine zHg ?_|(refine aU [] ?_;simp[go_sem])|simp(disch:=omega) [go_sem])
theorem aFy {l:List Rl} {C:List ByteArray} (hz: ∀r∈l,SzM r) (hC:C.length≤17820): ∀i,i≤l.length→(lQ C l i).length≤i*3300000
 |0,_=>by simp[lQ]
 |i+1,h=>by
  have hi:i<l.length:=by omega
  rw[lQ,List.length_append,jU hi]
  have:=aFy hz hC i (by omega)
  have:=aFw (i:=i) (hz l[i] (List.getElem_mem hi)) hC
  omega
theorem aFz (l:List Rl) (le fu:Bool) (hz: ∀r∈l,SzM r) (hl:l.length≤99):ACall prog 8 [.list le fu (l.map bZ)] (fun v=>v= .own 3 ((eR l).map dM)):=by
 have hc:=(aFu l le fu hz hl).frz
 have hcl:=aFv hz hl
 have hal:=aFy hz hcl
 unfold eR
 generalize eD l=C at*
 generalize hR:lQ C l l.length=R
 refine bF func8 call8 rfl (by simp[ntmps8]) ?_;simp only[ntmps8,results8]
 repeat' (first|(refine aC fun _ _=>?_)|refine zHg ?_|refine aV rfl (hc) (by simp) ?_|simp(disch:=omega) [go_sem])
 refine cL [3,9,10] [900] (fun y:Nat×List Mu=> [(11,nt .i64 y.1),(4,.ref 900 0 y.2.length)]) (fun y:Nat×List Mu=> [(900,⟨true,false,false,3,y.2.map dM,0⟩)]) (fun y:Nat×List Mu=>l.length - y.1) (fun y:Nat×List Mu=>y.1≤l.length∧y.2=lQ C l y.1) ((0,[])) (by refine Le.trans ?_ (Le.nil (i:=4) (T:=900) (es:=3) rfl);exact(Le.sub4 rfl (by simp[go_sem,List.map_nil,List.length_nil]))) ⟨?_⟩ ?_
 ·exact⟨Nat.zero_le _,rfl⟩
 intro⟨i,M⟩ ⟨hi,hM⟩ AA hAA;simp only[kL,Nat.reduceBEq,Nat.reduceEqDiff,if_true,if_false,List.cons_append,List.nil_append,List.append_nil]
 dsimp only at*
 have hMl:=hal i hi
 rw[←hM]at hMl
 by_cases hlt:i<l.length
 ·have ho:=aFx i l[i] C (hz _ (List.getElem_mem hlt)) (by omega) hcl
  have hol:=aFw (i:=i) (hz l[i] (List.getElem_mem hlt)) hcl
  have hn:lQ C l (i+1)=lQ C l i++gS i l[i] C:=by rw[lQ,jU hlt]
  rw[←hM]at hn
  generalize hri:l[i]=r at*
  generalize gS i r C=X at*
  repeat' (first|(refine aC fun _ _=>?_)|refine zHg ?_|refine aV rfl (ho) (by simp) ?_|(refine(hAA.next ((i+1,M++X)) (Le.sub4 rfl (by simp[go_sem])) (by(try dsimp only);omega) ?_))|simp(disch:=omega) [go_sem,hlt,hri]|refine zAo ?_|fail)
  all_goals(first|omega|skip)
  all_goals exact⟨hlt,hn.symm⟩
 ·obtain rfl:i=l.length:=by omega
  obtain rfl:=hM.trans hR
  repeat' (first|(refine aC fun _ _=>?_)|refine zHg ?_|(refine aU [] ?_;simp[go_sem])|simp(disch:=omega) [go_sem])
theorem bZm (m:Mu) (C:List ByteArray) (p j:Nat) (hKd:m.index.tdiv C.length=(p:Int)) (hpm:(p:Int)≤9223372036854775807) (hJ:m.index.tmod C.length=(j:Int)) (hj:j<C.length) (r:Rl) (hz:SzM r):
 MCall prog 37 [bZ r,.clo 40 [.ptr 1000 0 0,.ptr 1001 0 0,.ptr 1002 0 0]] (bI (-1) m C)
  (fun v o'=>v= .agg [.sc (.string r.head.name),.list false false ((dE p C[j] 0 r.head.args).map aL),if r.body.length=0 then .list false true []else .ref 900 0 r.body.length]∧
   o'=(4,⟨false,false,false,3,[.agg [.sc (.string r.head.name),.list false false ((dE p C[j] 0 r.head.args).map aL),if r.body.length=0 then .list false true []else .ref 900 0 r.body.length]],0⟩)::(1000,aZ (-1+(eC r).length))::(1001,bB m)::(1002,bC C)::(if r.body.length=0 then[]else[(900,⟨true,false,false,3,(fM p C[j] (bL r.head.args).length r.body).map bT,0⟩)])):=by
 have hsz:=sB hz
 have hle:=A6 (h:=r.head) (bs:=r.body) hz
 obtain⟨h,bs⟩:=r
 obtain⟨hz1,hz2,hz3⟩:=hz
 dsimp only at*
 have hnx:=fun i (hi:i<bs.length)=>P8 (h:=h) hi
 have hn0:=P6 h bs
 have hna:=P7 h bs
 have hv:=aFo m C p j hKd hpm hJ hj
 have h1:=hv _ h.args false false (-1) 0 (Nat.lt_succ_self _) (by omega) (by decide) (by omega)
 generalize hL:fM p C[j] (bL h.args).length bs=L at*
 have hLl:L.length=bs.length:=by rw[←hL,wL]
 have ih2: ∀(i:Nat) (hi:i<bs.length),∃us,MCall prog 53 [.list false false (bs[i].atom.args.map aL),.clo 40 [.ptr 1000 0 0,.ptr 1001 0 0,.ptr 1002 0 0]] (bI (-1+(fP h bs i).length) m C) (fun r o'=>r= .list false false (us.map aL)∧o'=bI (-1+(fP h bs i).length+(bL bs[i].atom.args).length) m C)∧L.drop i=⟨bs[i].neg,.mk bs[i].atom.name us⟩::L.drop (i+1):=fun i hi=>⟨_,hv _ _ false false _ (fP h bs i).length (Nat.lt_succ_self _) (Nat.le_trans (hz3 _ (List.getElem_mem hi)) (by decide)) (by omega) (by have:=hz3 _ (List.getElem_mem hi);have:=hle i (by omega);omega),by
  have h':i<L.length:=by omega
  rw[List.drop_eq_getElem_cons h']
  congr 1
  have e:=bWq (K:=p) (c:=C[j]) (k:=(bL h.args).length) hi
  have e2:L[i]?=some ⟨bs[i].neg,.mk bs[i].atom.name (dE p C[j] ((bL h.args).length+(eX (bs.take i)).length) bs[i].atom.args)⟩:=by
   have e3:fM p C[j] (bL h.args).length (bs.take (i+1))++fM p C[j] ((bL h.args).length+(eX (bs.take (i+1))).length) (bs.drop (i+1))=L:=by
    rw[←hL,←O7,List.take_append_drop]
   rw[←e3,e,List.append_assoc]
   have hl:(fM p C[j] (bL h.args).length (bs.take i)).length=i:=by rw[wL,List.length_take];omega
   rw[List.getElem?_append_right (by omega),hl,Nat.sub_self];rfl
  rw[List.getElem?_eq_getElem h']at e2
  have e4:(fP h bs i).length=(bL h.args).length+(eX (bs.take i)).length:=by unfold fP;rw[List.length_append]
  rw[e4]
  exact Option.some.inj e2⟩
 clear hv hL
 generalize dE p C[j] 0 h.args=H at*
 refine eM func37 call37 rfl (by simp[ntmps37]) ?_;simp only[ntmps37,results37]
 skip
 repeat' (first|((fail_if_success (refine qI ?_));refine iJ (fun K hK=>?_))|refine zHg ?_|simp(disch:=omega) [go_sem,bI,aZ,bB,bC])
 refine aBj ⟨44,[(1,.clo 40 [.ptr 1000 0 0,.ptr 1001 0 0,.ptr 1002 0 0]),(2,.ptr 2 0 0),(4,.ptr 4 0 0),(5,.ptr 5 0 0)],(5,⟨false,false,false,3,[.agg [.sc (.string h.name),.list false false (H.map aL),.list false true []]],0⟩)::(4,⟨false,false,false,3,[.agg [.sc (.string ⟨#[]⟩),.list false true [],.list false true []]],0⟩)::(2,⟨false,true,false,3,[bZ ⟨h,bs⟩],0⟩)::(1000,aZ (-1+(fP h bs 0).length))::(1001,bB m)::(1002,bC C):: []⟩ (fun K hK=>?_) ?_
 ·(try refine iJ (fun K hK=>?_));refine qG (s0:=⟨44,[(1,.clo 40 [.ptr 1000 0 0,.ptr 1001 0 0,.ptr 1002 0 0]),(2,.ptr 2 0 0),(4,.ptr 4 0 0)],(2,⟨false,true,false,3,[bZ ⟨h,bs⟩],0⟩)::(4,⟨false,false,false,3,[.agg [.sc (.string ⟨#[]⟩),.list false true [],.list false true []]],0⟩)::bI (-1) m C⟩) (by refine Le.trans ?_ (Le.frzP 2 rfl (by intro h;cases h));exact(Le.sub4 rfl (by simp[go_sem,bI,aZ,bB,bC]))) ?_
  repeat' (first|(refine aC fun _ _=>?_)|refine zHg ?_|(with_reducible refine dA ?_;first|(exact cX)|(refine zSkip ?_)|(refine cY rfl ?_ ?_))|(with_reducible refine cZ ?_;first|(refine zDone ?_)|(refine aD 0 rfl (by decide+kernel) (by decide+kernel) rfl rfl rfl ?_)|(refine aD 1 rfl (by decide+kernel) (by decide+kernel) rfl rfl rfl ?_)|(refine aD 2 rfl (by decide+kernel) (by decide+kernel) rfl rfl rfl ?_)|(refine aD 3 rfl (by decide+kernel) (by decide+kernel) rfl rfl rfl ?_)|(refine aD 4 rfl (by decide+kernel) (by decide+kernel) rfl rfl rfl ?_)|(refine aD 5 rfl (by decide+kernel) (by decide+kernel) rfl rfl rfl ?_)|(refine aD 6 rfl (by decide+kernel) (by decide+kernel) rfl rfl rfl ?_)|(refine aD 7 rfl (by decide+kernel) (by decide+kernel) rfl rfl rfl ?_)|(refine aD 8 rfl (by decide+kernel) (by decide+kernel) rfl rfl rfl ?_)|(refine aD 9 rfl (by decide+kernel) (by decide+kernel) rfl rfl rfl ?_)|(refine aD 10 rfl (by decide+kernel) (by decide+kernel) rfl rfl rfl ?_)|(refine aD 16 rfl (by decide+kernel) (by decide+kernel) rfl rfl rfl ?_)|(refine zAll ?_;show cG _ _ _ _ _ _ _))|with_reducible refine dD ?_|simp(disch:=omega) [go_sem,bI,aZ,bB,bC]|refine zAny aT ?_|fail)
  all_goals refine bG [] [] 10000 _ _ (Fits.mk' (by simp[go_sem,bI,aZ,bB,bC]) (by simp[go_sem,bI,aZ,bB,bC])) (by simp[go_sem,bI,aZ,bB,bC]) (by simp[go_sem,bI,aZ,bB,bC]) (h1) (by simp[go_sem,bI,aZ,bB,bC]) (by simp[go_sem,bI,aZ,bB,bC]) ?_
  all_goals repeat' (first|(refine aC fun _ _=>?_)|refine zHg ?_|(with_reducible refine dA ?_;first|(exact cX)|(refine zSkip ?_)|(refine cY rfl ?_ ?_))|(with_reducible refine cZ ?_;first|(refine zDone ?_)|(refine aD 0 rfl (by decide+kernel) (by decide+kernel) rfl rfl rfl ?_)|(refine aD 1 rfl (by decide+kernel) (by decide+kernel) rfl rfl rfl ?_)|(refine aD 2 rfl (by decide+kernel) (by decide+kernel) rfl rfl rfl ?_)|(refine aD 3 rfl (by decide+kernel) (by decide+kernel) rfl rfl rfl ?_)|(refine aD 4 rfl (by decide+kernel) (by decide+kernel) rfl rfl rfl ?_)|(refine aD 5 rfl (by decide+kernel) (by decide+kernel) rfl rfl rfl ?_)|(refine aD 6 rfl (by decide+kernel) (by decide+kernel) rfl rfl rfl ?_)|(refine aD 7 rfl (by decide+kernel) (by decide+kernel) rfl rfl rfl ?_)|(refine aD 8 rfl (by decide+kernel) (by decide+kernel) rfl rfl rfl ?_)|(refine aD 9 rfl (by decide+kernel) (by decide+kernel) rfl rfl rfl ?_)|(refine aD 10 rfl (by decide+kernel) (by decide+kernel) rfl rfl rfl ?_)|(refine aD 16 rfl (by decide+kernel) (by decide+kernel) rfl rfl rfl ?_)|(refine zAll ?_;show cG _ _ _ _ _ _ _))|with_reducible refine dD ?_|refine(hK _ (Le.sub4 rfl (by simp[go_sem,hn0,aZ,bB,bC])))|simp(disch:=omega) [go_sem,bI,aZ,bB,bC])
 repeat' (first|(refine aC fun _ _=>?_)|refine zHg ?_|simp(disch:=omega) [go_sem,aZ,bB,bC])
 refine cL [1,4,5,19,20] [5,900,1000,2] (fun y:Nat×List Lt=> [(21,nt .i64 y.1)]) (fun y:Nat×List Lt=>(5,⟨false,false,false,3,[.agg [.sc (.string h.name),.list false false (H.map aL),if y.2.length=0 then .list false true []else .ref 900 0 y.2.length]],0⟩)::(1000,aZ (-1+(fP h bs y.1).length))::(if y.2.length=0 then[]else[(900,⟨true,false,false,3,y.2.map bT,0⟩)])) (fun y:Nat×List Lt=>bs.length - y.1) (fun y:Nat×List Lt=>y.1≤bs.length∧y.2.length=y.1∧y.2++L.drop y.1=L) ((0,[])) (Le.sub4 rfl (by simp[go_sem,aZ,bB,bC])) ⟨?_⟩ ?_
 ·exact⟨Nat.zero_le _,rfl,rfl⟩
 intro⟨i,a⟩ ⟨hi,ha,hinv⟩ AA hAA;simp only[kL,Nat.reduceBEq,Nat.reduceEqDiff,if_true,if_false,List.cons_append,List.nil_append,List.append_nil]
 dsimp only at*
 by_cases hlt:i<bs.length
 ·obtain⟨us,hu,hd⟩:=ih2 i hlt
  have hcn:=hnx i hlt
  rw[hd]at hinv
  clear ih2 hnx hn0 hna hle hsz h1 hd
  generalize fP h bs i=S at*
  generalize hbi:bs[i]=b at*
  obtain⟨q,⟨s,ts⟩⟩:=b
  dsimp only[cS,qK]at*
  generalize bL ts=V at*
  by_cases h0:i=0
  ·subst h0
   obtain rfl:=List.eq_nil_of_length_eq_zero ha
   repeat' (first|((fail_if_success (refine qI ?_));refine iJ (fun K hK=>?_))|refine zHg ?_|simp(disch:=omega) [go_sem,hlt,hbi,aZ,bB,bC])
   (try refine iJ (fun K hK=>?_));refine qG (s0:=⟨44,[(1,.clo 40 [.ptr 1000 0 0,.ptr 1001 0 0,.ptr 1002 0 0]),(4,.ptr 4 0 0),(5,.ptr 5 0 0),(7,.ptr 7 0 0),(19,.list false false (bs.map bT)),(20,nt .i64 bs.length),(21,nt .i64 0)],(5,⟨false,false,false,3,[.agg [.sc (.string h.name),.list false false (H.map aL),.list false true []]],0⟩)::(7,⟨false,true,false,3,[bT ⟨q,.mk s ts⟩],0⟩)::(1000,aZ (-1+S.length))::(1001,bB m)::(1002,bC C)::(4,⟨false,false,false,3,[.agg [.sc (.string ⟨#[]⟩),.list false true [],.list false true []]],0⟩):: []⟩) (by refine Le.trans ?_ (Le.frzP 7 rfl (by intro h;cases h));exact(Le.sub4 rfl (by simp[go_sem,aZ,bB,bC]))) ?_
   repeat' (first|(refine aC fun _ _=>?_)|refine zHg ?_|(with_reducible refine dA ?_;first|(exact cX)|(refine zSkip ?_)|(refine cY rfl ?_ ?_))|(with_reducible refine cZ ?_;first|(refine zDone ?_)|(refine aD 0 rfl (by decide+kernel) (by decide+kernel) rfl rfl rfl ?_)|(refine aD 1 rfl (by decide+kernel) (by decide+kernel) rfl rfl rfl ?_)|(refine aD 2 rfl (by decide+kernel) (by decide+kernel) rfl rfl rfl ?_)|(refine aD 3 rfl (by decide+kernel) (by decide+kernel) rfl rfl rfl ?_)|(refine aD 4 rfl (by decide+kernel) (by decide+kernel) rfl rfl rfl ?_)|(refine aD 5 rfl (by decide+kernel) (by decide+kernel) rfl rfl rfl ?_)|(refine aD 6 rfl (by decide+kernel) (by decide+kernel) rfl rfl rfl ?_)|(refine aD 7 rfl (by decide+kernel) (by decide+kernel) rfl rfl rfl ?_)|(refine aD 8 rfl (by decide+kernel) (by decide+kernel) rfl rfl rfl ?_)|(refine aD 9 rfl (by decide+kernel) (by decide+kernel) rfl rfl rfl ?_)|(refine aD 10 rfl (by decide+kernel) (by decide+kernel) rfl rfl rfl ?_)|(refine aD 16 rfl (by decide+kernel) (by decide+kernel) rfl rfl rfl ?_)|(refine zAll ?_;show cG _ _ _ _ _ _ _))|with_reducible refine dD ?_|simp(disch:=omega) [go_sem,hlt,hbi,aZ,bB,bC]|refine zAny aT ?_|fail)
   all_goals refine bG [] [] 10000 _ _ (Fits.mk' (by simp[go_sem,bI,aZ,bB,bC]) (by simp[go_sem,bI,aZ,bB,bC])) (by simp[go_sem,bI,aZ,bB,bC]) (by simp[go_sem,bI,aZ,bB,bC]) (hu) (by simp[go_sem,bI,aZ,bB,bC]) (by simp[go_sem,bI,aZ,bB,bC]) ?_
   all_goals repeat' (first|(refine aC fun _ _=>?_)|refine zHg ?_|(with_reducible refine dA ?_;first|(exact cX)|(refine zSkip ?_)|(refine cY rfl ?_ ?_))|(with_reducible refine cZ ?_;first|(refine zDone ?_)|(refine aD 0 rfl (by decide+kernel) (by decide+kernel) rfl rfl rfl ?_)|(refine aD 1 rfl (by decide+kernel) (by decide+kernel) rfl rfl rfl ?_)|(refine aD 2 rfl (by decide+kernel) (by decide+kernel) rfl rfl rfl ?_)|(refine aD 3 rfl (by decide+kernel) (by decide+kernel) rfl rfl rfl ?_)|(refine aD 4 rfl (by decide+kernel) (by decide+kernel) rfl rfl rfl ?_)|(refine aD 5 rfl (by decide+kernel) (by decide+kernel) rfl rfl rfl ?_)|(refine aD 6 rfl (by decide+kernel) (by decide+kernel) rfl rfl rfl ?_)|(refine aD 7 rfl (by decide+kernel) (by decide+kernel) rfl rfl rfl ?_)|(refine aD 8 rfl (by decide+kernel) (by decide+kernel) rfl rfl rfl ?_)|(refine aD 9 rfl (by decide+kernel) (by decide+kernel) rfl rfl rfl ?_)|(refine aD 10 rfl (by decide+kernel) (by decide+kernel) rfl rfl rfl ?_)|(refine aD 16 rfl (by decide+kernel) (by decide+kernel) rfl rfl rfl ?_)|(refine zAll ?_;show cG _ _ _ _ _ _ _))|with_reducible refine dD ?_|(refine(hAA.next ((0+1,[⟨q,.mk s us⟩])) (Le.renSub [(40,900)] [(900,40)] (by simp[go_sem,hcn,Int.add_assoc,aZ,bB,bC]) (by simp[go_sem,hcn,Int.add_assoc,aZ,bB,bC]) (Le.sub4 rfl (by simp[go_sem,hcn,Int.add_assoc,aZ,bB,bC]))) (by(try dsimp only);omega) ?_))|simp(disch:=omega) [go_sem,hlt,hbi,aZ,bB,bC])
   all_goals(first|omega|skip)
   all_goals exact⟨hlt,rfl,hinv⟩
  ·repeat' (first|((fail_if_success (refine qI ?_));refine iJ (fun K hK=>?_))|refine zHg ?_|simp(disch:=omega) [go_sem,hlt,hbi,h0,ha,aZ,bB,bC])
   (try refine iJ (fun K hK=>?_));refine qG (s0:=⟨44,[(1,.clo 40 [.ptr 1000 0 0,.ptr 1001 0 0,.ptr 1002 0 0]),(4,.ptr 4 0 0),(5,.ptr 5 0 0),(7,.ptr 7 0 0),(19,.list false false (bs.map bT)),(20,nt .i64 bs.length),(21,nt .i64 i)],(5,⟨false,false,false,3,[.agg [.sc (.string h.name),.list false false (H.map aL),.ref 900 0 a.length]],0⟩)::(7,⟨false,true,false,3,[bT ⟨q,.mk s ts⟩],0⟩)::(1000,aZ (-1+S.length))::(1001,bB m)::(1002,bC C)::(4,⟨false,false,false,3,[.agg [.sc (.string ⟨#[]⟩),.list false true [],.list false true []]],0⟩):: [(900,⟨true,false,false,3,a.map bT,0⟩)]⟩) (by refine Le.trans ?_ (Le.frzP 7 rfl (by intro h;cases h));exact(Le.sub4 rfl (by simp[go_sem,aZ,bB,bC,ha]))) ?_
   repeat' (first|(refine aC fun _ _=>?_)|refine zHg ?_|(with_reducible refine dA ?_;first|(exact cX)|(refine zSkip ?_)|(refine cY rfl ?_ ?_))|(with_reducible refine cZ ?_;first|(refine zDone ?_)|(refine aD 0 rfl (by decide+kernel) (by decide+kernel) rfl rfl rfl ?_)|(refine aD 1 rfl (by decide+kernel) (by decide+kernel) rfl rfl rfl ?_)|(refine aD 2 rfl (by decide+kernel) (by decide+kernel) rfl rfl rfl ?_)|(refine aD 3 rfl (by decide+kernel) (by decide+kernel) rfl rfl rfl ?_)|(refine aD 4 rfl (by decide+kernel) (by decide+kernel) rfl rfl rfl ?_)|(refine aD 5 rfl (by decide+kernel) (by decide+kernel) rfl rfl rfl ?_)|(refine aD 6 rfl (by decide+kernel) (by decide+kernel) rfl rfl rfl ?_)|(refine aD 7 rfl (by decide+kernel) (by decide+kernel) rfl rfl rfl ?_)|(refine aD 8 rfl (by decide+kernel) (by decide+kernel) rfl rfl rfl ?_)|(refine aD 9 rfl (by decide+kernel) (by decide+kernel) rfl rfl rfl ?_)|(refine aD 10 rfl (by decide+kernel) (by decide+kernel) rfl rfl rfl ?_)|(refine aD 16 rfl (by decide+kernel) (by decide+kernel) rfl rfl rfl ?_)|(refine zAll ?_;show cG _ _ _ _ _ _ _))|with_reducible refine dD ?_|simp(disch:=omega) [go_sem,hlt,hbi,h0,ha,aZ,bB,bC]|refine zAny aT ?_|fail)
   all_goals refine bG [] [] 10000 _ _ (Fits.mk' (by simp[go_sem,bI,aZ,bB,bC]) (by simp[go_sem,bI,aZ,bB,bC])) (by simp[go_sem,bI,aZ,bB,bC]) (by simp[go_sem,bI,aZ,bB,bC]) (hu) (by simp[go_sem,bI,aZ,bB,bC]) (by simp[go_sem,bI,aZ,bB,bC]) ?_
   all_goals repeat' (first|(refine aC fun _ _=>?_)|refine zHg ?_|(with_reducible refine dA ?_;first|(exact cX)|(refine zSkip ?_)|(refine cY rfl ?_ ?_))|(with_reducible refine cZ ?_;first|(refine zDone ?_)|(refine aD 0 rfl (by decide+kernel) (by decide+kernel) rfl rfl rfl ?_)|(refine aD 1 rfl (by decide+kernel) (by decide+kernel) rfl rfl rfl ?_)|(refine aD 2 rfl (by decide+kernel) (by decide+kernel) rfl rfl rfl ?_)|(refine aD 3 rfl (by decide+kernel) (by decide+kernel) rfl rfl rfl ?_)|(refine aD 4 rfl (by decide+kernel) (by decide+kernel) rfl rfl rfl ?_)|(refine aD 5 rfl (by decide+kernel) (by decide+kernel) rfl rfl rfl ?_)|(refine aD 6 rfl (by decide+kernel) (by decide+kernel) rfl rfl rfl ?_)|(refine aD 7 rfl (by decide+kernel) (by decide+kernel) rfl rfl rfl ?_)|(refine aD 8 rfl (by decide+kernel) (by decide+kernel) rfl rfl rfl ?_)|(refine aD 9 rfl (by decide+kernel) (by decide+kernel) rfl rfl rfl ?_)|(refine aD 10 rfl (by decide+kernel) (by decide+kernel) rfl rfl rfl ?_)|(refine aD 16 rfl (by decide+kernel) (by decide+kernel) rfl rfl rfl ?_)|(refine zAll ?_;show cG _ _ _ _ _ _ _))|with_reducible refine dD ?_|(refine(hAA.next ((i+1,a++ [⟨q,.mk s us⟩])) (Le.sub4 rfl (by simp[go_sem,hcn,ha,Int.add_assoc,aZ,bB,bC])) (by(try dsimp only);omega) ?_))|simp(disch:=omega) [go_sem,hlt,hbi,h0,ha,aZ,bB,bC]|refine zAo ?_|fail)
   all_goals(first|omega|skip)
   all_goals exact⟨hlt,by simp[ha],by rw[List.append_assoc];exact hinv⟩
 ·obtain rfl:i=bs.length:=by omega
  rw[←hLl,List.drop_length,List.append_nil]at hinv
  subst hinv
  rw[hna]
  clear ih2 hnx hn0 hna hle h1
  generalize eC ⟨h,bs⟩=S at*
  by_cases h0:bs.length=0
  ·obtain rfl:=List.eq_nil_of_length_eq_zero h0
   obtain rfl:=List.eq_nil_of_length_eq_zero hLl
   repeat' (first|(refine aC fun _ _=>?_)|refine zHg ?_|simp(disch:=omega) [go_sem,aZ,bB,bC])
   refine cV ⟨44,[(4,.ptr 4 0 0)],(4,⟨false,false,false,3,[.agg [.sc (.string h.name),.list false false (H.map aL),.list false true []]],0⟩)::(1000,aZ (-1+S.length))::(1001,bB m)::(1002,bC C):: []⟩ [.agg [.sc (.string h.name),.list false false (H.map aL),.list false true []]] (Le.renSub [] [] (by simp[go_sem,aZ,bB,bC]) (by simp[go_sem,aZ,bB,bC]) (Le.sub4 rfl (by simp[go_sem,aZ,bB,bC]))) (by simp[go_sem,aZ,bB,bC]) ⟨rfl,rfl⟩
  ·have h0': ¬bs= []:=fun h=>h0 (by rw[h];rfl)
   repeat' (first|(refine aC fun _ _=>?_)|refine zHg ?_|simp(disch:=omega) [go_sem,h0,h0',ha,aZ,bB,bC])
   refine cV ⟨44,[(4,.ptr 4 0 0)],(4,⟨false,false,false,3,[.agg [.sc (.string h.name),.list false false (H.map aL),.ref 900 0 bs.length]],0⟩)::(1000,aZ (-1+S.length))::(1001,bB m)::(1002,bC C):: [(900,⟨true,false,false,3,a.map bT,0⟩)]⟩ [.agg [.sc (.string h.name),.list false false (H.map aL),.ref 900 0 bs.length]] (Le.renSub [] [] (by simp[go_sem,aZ,bB,bC]) (by simp[go_sem,aZ,bB,bC]) (Le.sub4 rfl (by simp[go_sem,aZ,bB,bC]))) (by simp[go_sem,aZ,bB,bC]) ⟨rfl,rfl⟩
theorem bZn (m:Mu) (C:List ByteArray) (p j:Nat) (hk:m.kind=4) (hKd:m.index.tdiv C.length=(p:Int)) (hpm:(p:Int)≤9223372036854775807) (hJ:m.index.tmod C.length=(j:Int)) (hj:j<C.length) (r:Rl) (hz:SzM r):
 ACall prog 19 [bZ r,dM m,.list false false (C.map bM)] (fun v=>v=bZ (sA p C[j] r)):=by
 have key:=bZm m C p j hKd hpm hJ hj r hz
 have k2:MCall prog 37 [bZ r,.clo 40 [.ptr 1000 0 0,.ptr 1001 0 0,.ptr 1002 0 0]] (bI (-1) m C) (fun v o'=>v=bZ (sA p C[j] r)∧o'=bI (-1+(eC r).length) m C):=by
  by_cases h0:r.body.length=0
  ·obtain⟨h,bs⟩:=r
   obtain rfl:=List.eq_nil_of_length_eq_zero h0
   simp only[List.length_nil,if_true]at key
   exact key.loose (o1:=bI (-1+(eC ⟨h,[]⟩).length) m C) (by simp[go_sem]) (by simp[go_sem]) (by simp[go_sem])
  ·simp only[h0,if_false]at key
   have hrl:(fM p C[j] (bL r.head.args).length r.body).length=r.body.length:=wL
   refine key.shared (s':=?_) (y:= .agg [.sc (.string r.head.name),.list false false ((dE p C[j] 0 r.head.args).map aL),.list false false ((fM p C[j] (bL r.head.args).length r.body).map bT)]) (by simp[go_sem,bS,hrl];rfl) (by simp[go_sem]) (by simp[go_sem]) (by simp[go_sem])
 clear key
 generalize sA p C[j] r=R at*
 generalize(eC r).length=N at*
 refine bF func19 call19 rfl (by simp[ntmps19]) ?_;simp only[ntmps19,results19]
 repeat' (first|(refine aC fun _ _=>?_)|refine zHg ?_|simp(disch:=omega) [go_sem,hk])
 refine bG [(1000,7),(1001,4),(1002,5)] [(7,1000),(4,1001),(5,1002)] 10000 _ _ (Fits.mk' (by simp[go_sem,bI,aZ,bB,bC,hk]) (by simp[go_sem,bI,aZ,bB,bC,hk])) (by simp[go_sem,bI,aZ,bB,bC,hk]) (by simp[go_sem,bI,aZ,bB,bC,hk]) (k2) (by simp[go_sem,bI,aZ,bB,bC,hk]) (by simp[go_sem,bI,aZ,bB,bC,hk]) ?_
 repeat' (first|(refine aC fun _ _=>?_)|refine zHg ?_|(refine aU [] ?_;simp[go_sem,hk,bI,aZ,bB,bC])|simp(disch:=omega) [go_sem,hk,bI,aZ,bB,bC])
theorem bZo (m:Mu) (C:List ByteArray) (hk:m.kind=5) (hi:m.index=0) (r:Rl) (h2:2≤r.head.args.length) (hl:r.head.args.length≤1000000):
 ACall prog 19 [bZ r,dM m,.list false false (C.map bM)] (fun v=>v=bZ ⟨jT r.head,r.body⟩):=by
 have h1:=aFq r.head h2 hl
 generalize jT r.head=H at*
 refine bF func19 call19 rfl (by simp[ntmps19]) ?_;simp only[ntmps19,results19]
 repeat' (first|(refine aC fun _ _=>?_)|refine zHg ?_|(refine aU [] ?_;simp[go_sem,hk,hi])|refine aV rfl (h1) (by simp) ?_|simp(disch:=omega) [go_sem,hk,hi])
abbrev eY (b:List Lt):AObj:=⟨true,false,true,3,b.map bT,0⟩
theorem bZp (m:Mu) (C:List ByteArray) (k:Nat) (hk:m.kind=3) (hi:m.index=(k:Int)) (r:Rl) (hkl:k<r.body.length) (hl:r.body.length≤1000000):
 MCall prog 19 [.agg [.sc (.string r.head.name),.list false false (r.head.args.map aL),.ref 1000 0 r.body.length],dM m,.list false false (C.map bM)] [(1000,eY r.body)] (fun v o'=>v=bZ ⟨r.head,fO oC k r.body⟩∧o'= []):=by
 obtain⟨h,bs⟩:=r
 dsimp only at*
 have hset:(bs.map bT).set k (.agg [.sc (.bool (!bs[k].neg)),.sc (.string bs[k].atom.name),.list false false (bs[k].atom.args.map aL)])=(fO oC k bs).map bT:=by
  apply List.ext_getElem?
  intro i
  unfold fO
  rw[List.getElem?_map,List.getElem?_modify,List.getElem?_set]
  by_cases hik:k=i
  ·subst hik
   simp[hkl,oC];rfl
  ·simp[hik]
 have hal:(fO oC k bs).length=bs.length:=A4
 have key:MCall prog 19 [.agg [.sc (.string h.name),.list false false (h.args.map aL),.ref 1000 0 bs.length],dM m,.list false false (C.map bM)] [(1000,eY bs)] (fun v o'=>v= .agg [.sc (.string h.name),.list false false (h.args.map aL),.ref 1000 0 bs.length]∧o'= [(6,⟨false,false,false,3,[.agg [.sc (.string h.name),.list false false (h.args.map aL),.ref 1000 0 bs.length]],0⟩),(1000,⟨true,false,false,3,(fO oC k bs).map bT,0⟩)]):=by
  generalize hbk:bs[k]=b at*
  generalize fO oC k bs=W at*
  have hkz:(k:Int)<bs.length:=by omega
  refine eM func19 call19 rfl (by simp[ntmps19]) ?_;simp only[ntmps19,results19]
  repeat' (first|(refine aC fun _ _=>?_)|refine zHg ?_|simp(disch:=omega) [go_sem,hk,hi,hkl,hbk,hset,hkz]|refine zDr 14 aT ?_|fail)
  all_goals(first|omega|skip)
  refine cV ⟨68,[(6,.ptr 6 0 0)],[(6,⟨false,false,false,3,[.agg [.sc (.string h.name),.list false false (h.args.map aL),.ref 1000 0 bs.length]],0⟩),(1000,⟨true,false,false,3,W.map bT,0⟩)]⟩ [.agg [.sc (.string h.name),.list false false (h.args.map aL),.ref 1000 0 bs.length]] (by refine Le.trans ?_ (Le.unpin 1000 rfl);exact(Le.sub4 rfl (by simp[go_sem]))) (by simp[go_sem]) ⟨rfl,rfl⟩
 refine key.shared (s':=?_) (y:= .agg [.sc (.string h.name),.list false false (h.args.map aL),.list false false ((fO oC k bs).map bT)]) (by simp[go_sem,bS,eY,hal];rfl) (by simp[go_sem]) (by simp[go_sem]) (by simp[go_sem])
theorem bZq (m:Mu) (C:List ByteArray) (k:Nat) (hk:m.kind=5) (hi:m.index=(k:Int)+1) (r:Rl) (hkl:k<r.body.length) (hl:r.body.length≤1000000) (h2:2≤r.body[k].atom.args.length) (hl2:r.body[k].atom.args.length≤1000000):
 MCall prog 19 [.agg [.sc (.string r.head.name),.list false false (r.head.args.map aL),.ref 1000 0 r.body.length],dM m,.list false false (C.map bM)] [(1000,eY r.body)] (fun v o'=>v=bZ ⟨r.head,fO pP k r.body⟩∧o'= []):=by
 obtain⟨h,bs⟩:=r
 dsimp only at*
 have hkl':k<bs.length:=hkl
 have h1:=aFq bs[k].atom h2 hl2
 have hset:(bs.map bT).set k (.agg [.sc (.bool bs[k].neg),.sc (.string (jT bs[k].atom).name),.list false false ((jT bs[k].atom).args.map aL)])=(fO pP k bs).map bT:=by
  apply List.ext_getElem?
  intro i
  unfold fO
  rw[List.getElem?_map,List.getElem?_modify,List.getElem?_set]
  by_cases hik:k=i
  ·subst hik
   simp[hkl,pP];rfl
  ·simp[hik]
 have hal:(fO pP k bs).length=bs.length:=A4
 have key:MCall prog 19 [.agg [.sc (.string h.name),.list false false (h.args.map aL),.ref 1000 0 bs.length],dM m,.list false false (C.map bM)] [(1000,eY bs)] (fun v o'=>v= .agg [.sc (.string h.name),.list false false (h.args.map aL),.ref 1000 0 bs.length]∧o'= [(6,⟨false,false,false,3,[.agg [.sc (.string h.name),.list false false (h.args.map aL),.ref 1000 0 bs.length]],0⟩),(1000,⟨true,false,false,3,(fO pP k bs).map bT,0⟩)]):=by
  generalize hbk:bs[k]=b at*
  generalize jT b.atom=Z at*
  generalize fO pP k bs=W at*
  have hkz:(k:Int)<bs.length:=by omega
  have hk1: ¬(k:Int)+1=0:=by omega
  refine eM func19 call19 rfl (by simp[ntmps19]) ?_;simp only[ntmps19,results19]
  repeat' (first|(refine aC fun _ _=>?_)|refine zHg ?_|refine cU rfl (h1) rfl (by simp) ?_|simp(disch:=omega) [go_sem,hk,hi,hkl',hbk,hset,hkz,hk1]|refine zDr 14 aT ?_|fail)
  all_goals(first|omega|skip)
  refine cV ⟨68,[(6,.ptr 6 0 0)],[(6,⟨false,false,false,3,[.agg [.sc (.string h.name),.list false false (h.args.map aL),.ref 1000 0 bs.length]],0⟩),(1000,⟨true,false,false,3,W.map bT,0⟩)]⟩ [.agg [.sc (.string h.name),.list false false (h.args.map aL),.ref 1000 0 bs.length]] (by refine Le.trans ?_ (Le.unpin 1000 rfl);exact(Le.sub4 rfl (by simp[go_sem]))) (by simp[go_sem]) ⟨rfl,rfl⟩
 refine key.shared (s':=?_) (y:= .agg [.sc (.string h.name),.list false false (h.args.map aL),.list false false ((fO pP k bs).map bT)]) (by simp[go_sem,bS,eY,hal];rfl) (by simp[go_sem]) (by simp[go_sem]) (by simp[go_sem])
abbrev zLt:AV:= .agg [.sc (.bool false),.sc (.string ⟨#[]⟩),.list false true []]
theorem bZr (X Y Z W:List AV) (n k m:Nat) (hX:X.length=n) (hk:k+1+m=n) (hn:n≤1000000) (hy:(X.drop (k+1)).take m=Y) (hz:X.take k++(Y++X.drop (k+m))=Z) (hw:Z.take (k+m)++ [zLt]=W) (hc: ∀y∈Y,y.cells.length=3) (hyl:Y.length=m) (hzl:Z.length=n):
 MCall prog 39 [.ref 1000 0 n,nt .i64 k,nt .i64 (k+1)] [(1000,⟨true,false,true,3,X,0⟩)]
  (fun r o'=>r= .ref 1002 0 (k+m)∧o'= [(1002,⟨true,false,false,3,W,0⟩)]):=by
 refine bA3 func39 call39 rfl (by simp[ntmps39]) rfl (by omega) fun c hcc=>?_
 simp only[ntmps39,results39]
 have e1: ¬(k:Int)=(k:Int)+1:=by omega
 have e2:n - (k+1)=m:=by omega
 have e3:n - (k+m)=1:=by omega
 have e4:k+1+m≤n:=by omega
 have e5:k+m≤n:=by omega
 have e6:k+m+1≤n:=by omega
 have e7:k+m≤c:=by omega
 have e8:((k:Int)+m).toNat=k+m:=by omega
 have e9: ∀z,I9 (k+m+1) z (some ⟨true,false,false,3,Z,0⟩)=z:=fun z=>aA8 (by show k+m+1≤Z.length;omega)
 have ea:Z.drop (k+m+1)= []:=List.drop_eq_nil_of_le (by omega)
 have hwl:W.length=k+m+1:=by rw[←hw,List.length_append,List.length_take,List.length_singleton];omega
 skip
 repeat' (first|(refine aC fun _ _=>?_)|refine zHg ?_|simp(disch:=omega) [go_sem,e1,e2,e3,e4,e5,e6,e7,e8,e9,ea,hX,hy,hz,hw,hyl,hzl,hc]|refine zAo ?_|refine zDr 6 aT ?_|fail)
 refine cV ⟨33,[(6,.ref 1002 0 (k+m))],[(1002,⟨true,false,false,3,W,0⟩)]⟩ [.ref 1002 0 (k+m)] (by refine Le.trans ?_ (Le.unrc 6 rfl rfl (by(try simp);omega));refine Le.trans ?_ (Le.move (i:=6) (T:=1000) (T':=1002) rfl (by show(0:Nat)≠1;decide) rfl rfl rfl);exact(Le.sub4 rfl (by simp[go_sem,hw]))) (by simp[go_sem,hw]) ⟨rfl,rfl⟩
theorem bZs (bs:List Lt) (k m:Nat) (hk:k+1+m=bs.length) (hn:bs.length≤1000000):
 MCall prog 39 [.ref 1000 0 bs.length,nt .i64 k,nt .i64 (k+1)] [(1000,eY bs)]
  (fun r o'=>r= .ref 1002 0 (k+m)∧o'= [(1002,⟨true,false,false,3,(bs.eraseIdx k).map bT++ [zLt],0⟩)]):=by
 have hw:((bs.map bT).take k++((((bs.map bT).drop (k+1)).take m)++(bs.map bT).drop (k+m))).take (k+m)++ [zLt]=(bs.eraseIdx k).map bT++ [zLt]:=by
  congr 1
  have e1:((bs.map bT).drop (k+1)).take m=(bs.map bT).drop (k+1):=List.take_of_length_le (by(try simp);omega)
  rw[e1,←List.append_assoc,List.take_append_of_le_length (by(try simp);omega),List.take_of_length_le (by(try simp);omega),←List.map_take,←List.map_drop,←List.map_append,List.eraseIdx_eq_take_drop_succ]
 exact bZr (bs.map bT) _ _ _ bs.length k m (by simp) hk hn rfl rfl hw (fun y hy=>by
  have:=List.mem_of_mem_drop (List.mem_of_mem_take hy)
  obtain⟨b,_,rfl⟩:=List.mem_map.1 this
  rfl) (by(try simp);omega) (by(try simp);omega)
theorem bZt (m:Mu) (C:List ByteArray) (k:Nat) (hk:m.kind=2) (hi:m.index=(k:Int)) (r:Rl) (hkl:k<r.body.length) (hl:r.body.length≤1000000):
 MCall prog 19 [.agg [.sc (.string r.head.name),.list false false (r.head.args.map aL),.ref 1000 0 r.body.length],dM m,.list false false (C.map bM)] [(1000,eY r.body)] (fun v o'=>v=bZ ⟨r.head,r.body.eraseIdx k⟩∧o'= []):=by
 obtain⟨h,bs⟩:=r
 have hkl':k<bs.length:=hkl
 obtain⟨j,hj⟩: ∃j,k+1+j=bs.length:=⟨bs.length - (k+1),by omega⟩
 have hd:=bZs bs k j hj hl
 have hel:(bs.eraseIdx k).length=k+j:=by rw[List.length_eraseIdx,if_pos hkl'];omega
 dsimp only at*
 have hsg:(((bs.eraseIdx k).map bT)++ [zLt]).take (k+j)=(bs.eraseIdx k).map bT:=by
  rw[List.take_append_of_le_length (by(try simp);omega),List.take_of_length_le (by(try simp);omega)]
 generalize bs.eraseIdx k=E at*
 have key:MCall prog 19 [.agg [.sc (.string h.name),.list false false (h.args.map aL),.ref 1000 0 bs.length],dM m,.list false false (C.map bM)] [(1000,eY bs)] (fun v o'=>v= .agg [.sc (.string h.name),.list false false (h.args.map aL),.ref 900 0 (k+j)]∧o'= [(6,⟨false,false,false,3,[.agg [.sc (.string h.name),.list false false (h.args.map aL),.ref 900 0 (k+j)]],0⟩),(900,⟨true,false,false,3,E.map bT++ [zLt],0⟩)]):=by
  clear hsg hel
  refine eM func19 call19 rfl (by simp[ntmps19]) ?_;simp only[ntmps19,results19]
  repeat' (first|(refine aC fun _ _=>?_)|refine zHg ?_|simp(disch:=omega) [go_sem,hk,hi,eY])
  all_goals(first|omega|skip)
  refine aXn [1000] [] [] 10000 _ _ (Fits.mk' (by simp[go_sem,eY]) (by simp[go_sem,eY])) (by simp[go_sem,eY]) (by simp[go_sem,eY]) (hd) (by simp[go_sem,eY]) (by simp[go_sem,eY]) ?_
  repeat' (first|(refine aC fun _ _=>?_)|refine zHg ?_|simp(disch:=omega) [go_sem,hk,hi,eY])
  refine cV ⟨68,[(6,.ptr 6 0 0)],[(6,⟨false,false,false,3,[.agg [.sc (.string h.name),.list false false (h.args.map aL),.ref 900 0 (k+j)]],0⟩),(900,⟨true,false,false,3,E.map bT++ [zLt],0⟩)]⟩ [.agg [.sc (.string h.name),.list false false (h.args.map aL),.ref 900 0 (k+j)]] (Le.renSub [(11002,900)] [(900,11002)] (by simp[go_sem]) (by simp[go_sem]) (Le.sub4 rfl (by simp[go_sem]))) (by simp[go_sem]) ⟨rfl,rfl⟩
 refine key.shared (s':=?_) (y:= .agg [.sc (.string h.name),.list false false (h.args.map aL),.list false false (E.map bT)]) (by simp[go_sem,hel,hsg];rfl) (by simp[go_sem]) (by simp[go_sem]) (by simp[go_sem])
end Go.Proofs.YtbgckcdddlmiaaaDoor
