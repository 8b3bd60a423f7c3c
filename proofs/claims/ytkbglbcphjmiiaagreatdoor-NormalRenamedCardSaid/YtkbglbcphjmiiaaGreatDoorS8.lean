import Derived.Test.YtkbglbcphjmiiaaGreatDoorS6
import Derived.Test.YtkbglbcphjmiiaaGreatDoorS7
set_option linter.unusedSimpArgs false
set_option linter.unusedVariables false
open Go.Proofs.Tryz
namespace Go.Proofs.YtkbglbcphjmiiaaGreatDoor
open Go.Ab
set_option maxRecDepth 100000
set_option maxHeartbeats 16000000
def aN:Option Rl→Rl
 |none=>⟨.mk ⟨#[]⟩ [],[]⟩
 |some b=>b
abbrev aL (B:Option Rl):AV:= .agg [.sc (.string (aN B).head.name),.list false B.isNone ((aN B).head.args.map bO),.list false B.isNone ((aN B).body.map bW)]
abbrev aJ (es:Nat) (x:AV):AObj:=⟨false,false,true,es,[x],0⟩
abbrev aK (l:List ByteArray):AObj:=⟨true,false,true,1,l.map aI,0⟩
abbrev aH (r:Rl) (vs l:List ByteArray) (B:Option Rl):aF:= [(1101,aK l),(1102,aJ 1 (.ref 1106 0 vs.length)),(1103,aJ 3 (bN r)),(1104,aJ 1 (bl B.isNone)),(1105,aJ 3 (aL B)),(1106,aK vs)]
def aHi (x:Rl):Option Rl→Rl
 |none=>x
 |some b=>if dJ x b<0 then x else b
theorem sN {vs l:List ByteArray} (h:vs.length=l.length):(aW vs l).length=l.length:=by
 unfold aW;rw[List.length_zipWith];omega
theorem uK {vs l:List ByteArray} {i:Nat} (h:i<vs.length) (h':i<l.length):(aW vs l).take (i+1)=(aW vs l).take i++ [⟨vs[i],.mk l[i] []⟩]:=by
 have hl:i<(aW vs l).length:=by unfold aW;rw[List.length_zipWith];omega
 rw[iT hl]
 congr 2
 simp[aW]
theorem mZ: ∀{vs l:List ByteArray},gA cD vs→rG (aW vs l)
 | [],_,_=>List.Pairwise.nil
 |_::_,[],_=>List.Pairwise.nil
 |v::vs,n::l,h=>by
  obtain⟨h1,h2⟩:=List.pairwise_cons.1 h
  rw[aGt]
  refine List.pairwise_cons.2 ⟨fun b hb=>?_,mZ h2⟩
  obtain⟨i,hi,rfl⟩:=List.mem_iff_getElem.1 hb
  unfold aW at hi ⊢
  rw[List.getElem_zipWith]
  exact h1 _ (List.getElem_mem _)
theorem oD {vs l:List ByteArray}: ∀b∈aW vs l,b.t.size≤1000000:=by
 intro b hb
 have:=zI b hb
 rw[iA,this]
 decide
theorem wE {α:Type} {A B:List α} {n:Nat} (h:A.length=n):bY (A++B) 0 n=A:=by
 subst h
 unfold bY
 split
 ·rename_i h
  have:B= []:=List.eq_nil_of_length_eq_zero (by have:=h.2;rw[List.length_append]at this;omega)
  rw[this,List.append_nil]
 ·rw[List.drop_zero,List.take_append_of_le_length (Nat.le_refl _),List.take_length]
theorem nA {L:List Bd}:(L.map bK).map loose=L.map bK:=by
 rw[List.map_map];rfl
theorem cHo (r:Rl) (vs l:List ByteArray) (hvl:vs.length=l.length) (hlen:l.length≤5) (hvs:gA cD vs) (hh:r.head.size≤1000000) (hb: ∀b∈r.body,b.atom.size≤1000000) (hl:r.body.length≤12) (hn:l.length=0) (hb0:r.body.length=0):
 MCall prog 38 [.ref 1101 0 l.length,.ptr 1102 0 0,.ptr 1103 0 0,.ptr 1104 0 0,.ptr 1105 0 0] (aH r vs l none) (fun v o'=>v= .tup []∧o'=aH r vs l (some (dF r vs l))):=by
 have hS:=mZ (l:=l) hvs
 have hZ:=oD (vs:=vs) (l:=l)
 obtain rfl:=List.eq_nil_of_length_eq_zero hn
 obtain rfl:=List.eq_nil_of_length_eq_zero hvl
 have hSn:aW [] []= []:=rfl
 rw[hSn]at hS hZ
 unfold dF at*
 rw[hSn]
 obtain⟨hT,bs⟩:=r
 dsimp only at hh hb hl hb0
 obtain rfl:=List.eq_nil_of_length_eq_zero hb0
 have h1:=wA [] true hS hZ hT hh
 have hx:iV (iC [] ⟨hT,[]⟩)=⟨cF [] hT,[]⟩:=rfl
 rw[hx]
 have h2:=wC (cF [] hT)
 generalize cF [] hT=H at*
 clear hS hZ hx hb hh hSn hvs hn hlen hvl
 refine cL func38 call38 rfl (by simp[ntmps38]) ?_;simp only[ntmps38,results38]
 repeat' (first|(refine aC fun _ _=>?_)|refine zHg ?_|simp(disch:=omega) [go_sem,aH,aK,aJ,aL,aN,aI])
 refine bR [0,2,3,4,10,11] [] (fun i:Nat=> [(12,nt .i64 (0:Nat)),(6,.list false true [])]) (fun i:Nat=> []) (fun i:Nat=>0) (fun i:Nat=>i=0) (0) (Le.sub4 rfl (by simp[go_sem,aH,aK,aJ,aL,aN,aI])) ⟨?_⟩ ?_
 ·rfl
 intro i hi AA hAA;simp only[kL,Nat.reduceBEq,Nat.reduceEqDiff,if_true,if_false,List.cons_append,List.nil_append,List.append_nil]
 repeat' (first|(refine aC fun _ _=>?_)|refine zHg ?_|refine aP rfl (h1) (by simp) ?_|refine aP rfl (h2) (by simp) ?_|simp(disch:=omega) [go_sem,aH,aK,aJ,aL,aN,aI])
 refine eR ⟨40,[],aH ⟨hT,[]⟩ [] [] (some ⟨H,[]⟩)⟩ [] (Le.renSub [] [] (by simp[go_sem,aH,aK,aJ,aL,aN,aI]) (by simp[go_sem,aH,aK,aJ,aL,aN,aI]) (Le.sub4 rfl (by simp[go_sem,aH,aK,aJ,aL,aN,aI]))) (by simp[go_sem,aH,aK,aJ,aL,aN,aI]) ⟨rfl,rfl⟩
theorem cHp (r:Rl) (vs l:List ByteArray) (hvl:vs.length=l.length) (hlen:l.length≤5) (hvs:gA cD vs) (hh:r.head.size≤1000000) (hb: ∀b∈r.body,b.atom.size≤1000000) (hl:r.body.length≤12) (hn:l.length=0) (hb0:r.body.length=0) (b:Rl) (hq:dJ (dF r vs l) b<0):
 MCall prog 38 [.ref 1101 0 l.length,.ptr 1102 0 0,.ptr 1103 0 0,.ptr 1104 0 0,.ptr 1105 0 0] (aH r vs l (some b)) (fun v o'=>v= .tup []∧o'=aH r vs l (some (dF r vs l))):=by
 have hS:=mZ (l:=l) hvs
 have hZ:=oD (vs:=vs) (l:=l)
 obtain rfl:=List.eq_nil_of_length_eq_zero hn
 obtain rfl:=List.eq_nil_of_length_eq_zero hvl
 have hSn:aW [] []= []:=rfl
 rw[hSn]at hS hZ
 unfold dF at*
 rw[hSn]at hq
 rw[hSn]
 obtain⟨hT,bs⟩:=r
 dsimp only at hh hb hl hb0
 obtain rfl:=List.eq_nil_of_length_eq_zero hb0
 have h1:=wA [] true hS hZ hT hh
 have hx:iV (iC [] ⟨hT,[]⟩)=⟨cF [] hT,[]⟩:=rfl
 rw[hx]at hq ⊢
 have h2:=wC (cF [] hT)
 generalize cF [] hT=H at*
 have h3:ACall prog 12 [bN ⟨H,[]⟩,bN b] (fun r=>r=nt .i64 (dJ ⟨H,[]⟩ b)):=qA _ b false false false false
 generalize dJ ⟨H,[]⟩ b=c at*
 clear hS hZ hx hb hh hSn hvs hn hlen hvl
 refine cL func38 call38 rfl (by simp[ntmps38]) ?_;simp only[ntmps38,results38]
 repeat' (first|(refine aC fun _ _=>?_)|refine zHg ?_|simp(disch:=omega) [go_sem,aH,aK,aJ,aL,aN,aI])
 refine bR [0,2,3,4,10,11] [] (fun i:Nat=> [(12,nt .i64 (0:Nat)),(6,.list false true [])]) (fun i:Nat=> []) (fun i:Nat=>0) (fun i:Nat=>i=0) (0) (Le.sub4 rfl (by simp[go_sem,aH,aK,aJ,aL,aN,aI])) ⟨?_⟩ ?_
 ·rfl
 intro i hi AA hAA;simp only[kL,Nat.reduceBEq,Nat.reduceEqDiff,if_true,if_false,List.cons_append,List.nil_append,List.append_nil]
 repeat' (first|(refine aC fun _ _=>?_)|refine zHg ?_|refine aP rfl (h1) (by simp) ?_|refine aP rfl (h2) (by simp) ?_|refine aP rfl (h3) (by simp) ?_|simp(disch:=omega) [go_sem,aH,aK,aJ,aL,aN,aI,hq])
 refine eR ⟨40,[],aH ⟨hT,[]⟩ [] [] (some ⟨H,[]⟩)⟩ [] (Le.renSub [] [] (by simp[go_sem,aH,aK,aJ,aL,aN,aI]) (by simp[go_sem,aH,aK,aJ,aL,aN,aI]) (Le.sub4 rfl (by simp[go_sem,aH,aK,aJ,aL,aN,aI]))) (by simp[go_sem,aH,aK,aJ,aL,aN,aI]) ⟨rfl,rfl⟩
theorem cHq (r:Rl) (vs l:List ByteArray) (hvl:vs.length=l.length) (hlen:l.length≤5) (hvs:gA cD vs) (hh:r.head.size≤1000000) (hb: ∀b∈r.body,b.atom.size≤1000000) (hl:r.body.length≤12) (hn:l.length=0) (hb0:r.body.length=0) (b:Rl) (hq: ¬dJ (dF r vs l) b<0):
 MCall prog 38 [.ref 1101 0 l.length,.ptr 1102 0 0,.ptr 1103 0 0,.ptr 1104 0 0,.ptr 1105 0 0] (aH r vs l (some b)) (fun v o'=>v= .tup []∧o'=aH r vs l (some b)):=by
 have hS:=mZ (l:=l) hvs
 have hZ:=oD (vs:=vs) (l:=l)
 obtain rfl:=List.eq_nil_of_length_eq_zero hn
 obtain rfl:=List.eq_nil_of_length_eq_zero hvl
 have hSn:aW [] []= []:=rfl
 rw[hSn]at hS hZ
 unfold dF at*
 rw[hSn]at hq
 obtain⟨hT,bs⟩:=r
 dsimp only at hh hb hl hb0
 obtain rfl:=List.eq_nil_of_length_eq_zero hb0
 have h1:=wA [] true hS hZ hT hh
 have hx:iV (iC [] ⟨hT,[]⟩)=⟨cF [] hT,[]⟩:=rfl
 rw[hx]at hq
 have h2:=wC (cF [] hT)
 generalize cF [] hT=H at*
 have h3:ACall prog 12 [bN ⟨H,[]⟩,bN b] (fun r=>r=nt .i64 (dJ ⟨H,[]⟩ b)):=qA _ b false false false false
 generalize dJ ⟨H,[]⟩ b=c at*
 clear hS hZ hx hb hh hSn hvs hn hlen hvl
 refine cL func38 call38 rfl (by simp[ntmps38]) ?_;simp only[ntmps38,results38]
 repeat' (first|(refine aC fun _ _=>?_)|refine zHg ?_|simp(disch:=omega) [go_sem,aH,aK,aJ,aL,aN,aI])
 refine bR [0,2,3,4,10,11] [] (fun i:Nat=> [(12,nt .i64 (0:Nat)),(6,.list false true [])]) (fun i:Nat=> []) (fun i:Nat=>0) (fun i:Nat=>i=0) (0) (Le.sub4 rfl (by simp[go_sem,aH,aK,aJ,aL,aN,aI])) ⟨?_⟩ ?_
 ·rfl
 intro i hi AA hAA;simp only[kL,Nat.reduceBEq,Nat.reduceEqDiff,if_true,if_false,List.cons_append,List.nil_append,List.append_nil]
 repeat' (first|(refine aC fun _ _=>?_)|refine zHg ?_|refine aP rfl (h1) (by simp) ?_|refine aP rfl (h2) (by simp) ?_|refine aP rfl (h3) (by simp) ?_|simp(disch:=omega) [go_sem,aH,aK,aJ,aL,aN,aI,hq])
 refine eR ⟨40,[],aH ⟨hT,[]⟩ [] [] (some b)⟩ [] (Le.renSub [] [] (by simp[go_sem,aH,aK,aJ,aL,aN,aI]) (by simp[go_sem,aH,aK,aJ,aL,aN,aI]) (Le.sub4 rfl (by simp[go_sem,aH,aK,aJ,aL,aN,aI]))) (by simp[go_sem,aH,aK,aJ,aL,aN,aI]) ⟨rfl,rfl⟩
theorem cHr (r:Rl) (vs l:List ByteArray) (hvl:vs.length=l.length) (hlen:l.length≤5) (hvs:gA cD vs) (hh:r.head.size≤1000000) (hb: ∀b∈r.body,b.atom.size≤1000000) (hl:r.body.length≤12) (hn:l.length=0) (hb0: ¬r.body.length=0):
 MCall prog 38 [.ref 1101 0 l.length,.ptr 1102 0 0,.ptr 1103 0 0,.ptr 1104 0 0,.ptr 1105 0 0] (aH r vs l none) (fun v o'=>v= .tup []∧o'=aH r vs l (some (dF r vs l))):=by
 have hS:=mZ (l:=l) hvs
 have hZ:=oD (vs:=vs) (l:=l)
 obtain rfl:=List.eq_nil_of_length_eq_zero hn
 obtain rfl:=List.eq_nil_of_length_eq_zero hvl
 have hSn:aW [] []= []:=rfl
 rw[hSn]at hS hZ
 unfold dF at*
 rw[hSn]
 obtain⟨hT,bs⟩:=r
 dsimp only at hh hb hl hb0
 have h1:=wB [] true hS hZ ⟨hT,bs⟩ hh hb (by(try dsimp only);omega) hb0
 dsimp only at h1
 have hx:iV (iC [] ⟨hT,bs⟩)=⟨cF [] hT,eH bU (bs.map (dA []))⟩:=rfl
 rw[hx]
 have h2:=wD (cF [] hT) (bs.map (dA [])) (by rw[List.length_map];exact hl)
 rw[List.length_map]at h2
 have hsl:=sL (c:=bU) (bs.map (dA []))
 rw[List.length_map]at hsl
 have hml:(bs.map (dA [])).length=bs.length:=List.length_map _
 generalize cF [] hT=H at*
 generalize eH bU (bs.map (dA []))=D at*
 generalize bs.map (dA [])=m at*
 have hlenS:bY (D.map bW++List.replicate (bs.length - D.length) zL) 0 D.length=D.map bW:=wE (by simp)
 dsimp only[zL,bl]at hlenS
 clear hS hZ hx hb hh hSn hvs hn hlen hvl
 refine cL func38 call38 rfl (by simp[ntmps38]) ?_;simp only[ntmps38,results38]
 repeat' (first|(refine aC fun _ _=>?_)|refine zHg ?_|simp(disch:=omega) [go_sem,aH,aK,aJ,aL,aN,aI])
 refine bR [0,2,3,4,10,11] [] (fun i:Nat=> [(12,nt .i64 (0:Nat)),(6,.list false true [])]) (fun i:Nat=> []) (fun i:Nat=>0) (fun i:Nat=>i=0) (0) (Le.sub4 rfl (by simp[go_sem,aH,aK,aJ,aL,aN,aI])) ⟨?_⟩ ?_
 ·rfl
 intro i hi AA hAA;simp only[kL,Nat.reduceBEq,Nat.reduceEqDiff,if_true,if_false,List.cons_append,List.nil_append,List.append_nil]
 repeat' (first|(refine aC fun _ _=>?_)|refine zHg ?_|simp(disch:=omega) [go_sem,aH,aK,aJ,aL,aN,aI])
 refine bC [] [] 10000 _ _ (Fits.mk' (by simp[go_sem,aH,aK,aJ,aL,aN,aI]) (by simp[go_sem,aH,aK,aJ,aL,aN,aI])) (by simp[go_sem,aH,aK,aJ,aL,aN,aI]) (by simp[go_sem,aH,aK,aJ,aL,aN,aI]) (h1) (by simp[go_sem,aH,aK,aJ,aL,aN,aI]) (by simp[go_sem,aH,aK,aJ,aL,aN,aI]) ?_
 repeat' (first|simp(disch:=omega) [go_sem,aH,aK,aJ,aL,aN,aI])
 refine bC [(1000,10900)] [(10900,1000)] 20000 _ _ (Fits.mk' (by simp[go_sem,aH,aK,aJ,aL,aN,aI,hml]) (by simp[go_sem,aH,aK,aJ,aL,aN,aI,hml])) (by simp[go_sem,aH,aK,aJ,aL,aN,aI,hml]) (by simp[go_sem,aH,aK,aJ,aL,aN,aI,hml]) (h2) (by simp[go_sem,aH,aK,aJ,aL,aN,aI,hml]) (by simp[go_sem,aH,aK,aJ,aL,aN,aI,hml]) ?_
 repeat' (first|(refine aC fun _ _=>?_)|refine zHg ?_|simp(disch:=omega) [go_sem,aH,aK,aJ,aL,aN,aI,hlenS,kT])
 refine eR ⟨40,[],aH ⟨hT,bs⟩ [] [] (some ⟨H,D⟩)⟩ [] (by refine Le.trans ?_ (Le.shareBox 1105 rfl (by decide) rfl rfl);exact(Le.sub4 rfl (by simp[go_sem,aH,aK,aJ,aL,aN,hlenS]))) (by simp[go_sem]) ⟨rfl,rfl⟩
theorem cHs (r:Rl) (vs l:List ByteArray) (hvl:vs.length=l.length) (hlen:l.length≤5) (hvs:gA cD vs) (hh:r.head.size≤1000000) (hb: ∀b∈r.body,b.atom.size≤1000000) (hl:r.body.length≤12) (hn:l.length=0) (hb0: ¬r.body.length=0) (b:Rl) (hq:dJ (dF r vs l) b<0):
 MCall prog 38 [.ref 1101 0 l.length,.ptr 1102 0 0,.ptr 1103 0 0,.ptr 1104 0 0,.ptr 1105 0 0] (aH r vs l (some b)) (fun v o'=>v= .tup []∧o'=aH r vs l (some (dF r vs l))):=by
 have hS:=mZ (l:=l) hvs
 have hZ:=oD (vs:=vs) (l:=l)
 obtain rfl:=List.eq_nil_of_length_eq_zero hn
 obtain rfl:=List.eq_nil_of_length_eq_zero hvl
 have hSn:aW [] []= []:=rfl
 rw[hSn]at hS hZ
 unfold dF at*
 rw[hSn]at hq
 rw[hSn]
 obtain⟨hT,bs⟩:=r
 dsimp only at hh hb hl hb0
 have h1:=wB [] true hS hZ ⟨hT,bs⟩ hh hb (by(try dsimp only);omega) hb0
 dsimp only at h1
 have hx:iV (iC [] ⟨hT,bs⟩)=⟨cF [] hT,eH bU (bs.map (dA []))⟩:=rfl
 rw[hx]at hq ⊢
 have h2:=wD (cF [] hT) (bs.map (dA [])) (by rw[List.length_map];exact hl)
 rw[List.length_map]at h2
 have hsl:=sL (c:=bU) (bs.map (dA []))
 rw[List.length_map]at hsl
 have hml:(bs.map (dA [])).length=bs.length:=List.length_map _
 generalize cF [] hT=H at*
 generalize eH bU (bs.map (dA []))=D at*
 generalize bs.map (dA [])=m at*
 have h3:ACall prog 12 [kT true false ⟨H,D⟩,bN b] (fun r=>r=nt .i64 (dJ ⟨H,D⟩ b)):=qA _ b true false false false
 generalize dJ ⟨H,D⟩ b=c at*
 have hlenS:bY (D.map bW++List.replicate (bs.length - D.length) zL) 0 D.length=D.map bW:=wE (by simp)
 dsimp only[zL,bl]at hlenS
 clear hS hZ hx hb hh hSn hvs hn hlen hvl
 refine cL func38 call38 rfl (by simp[ntmps38]) ?_;simp only[ntmps38,results38]
 repeat' (first|(refine aC fun _ _=>?_)|refine zHg ?_|simp(disch:=omega) [go_sem,aH,aK,aJ,aL,aN,aI])
 refine bR [0,2,3,4,10,11] [] (fun i:Nat=> [(12,nt .i64 (0:Nat)),(6,.list false true [])]) (fun i:Nat=> []) (fun i:Nat=>0) (fun i:Nat=>i=0) (0) (Le.sub4 rfl (by simp[go_sem,aH,aK,aJ,aL,aN,aI])) ⟨?_⟩ ?_
 ·rfl
 intro i hi AA hAA;simp only[kL,Nat.reduceBEq,Nat.reduceEqDiff,if_true,if_false,List.cons_append,List.nil_append,List.append_nil]
 repeat' (first|(refine aC fun _ _=>?_)|refine zHg ?_|simp(disch:=omega) [go_sem,aH,aK,aJ,aL,aN,aI])
 refine bC [] [] 10000 _ _ (Fits.mk' (by simp[go_sem,aH,aK,aJ,aL,aN,aI]) (by simp[go_sem,aH,aK,aJ,aL,aN,aI])) (by simp[go_sem,aH,aK,aJ,aL,aN,aI]) (by simp[go_sem,aH,aK,aJ,aL,aN,aI]) (h1) (by simp[go_sem,aH,aK,aJ,aL,aN,aI]) (by simp[go_sem,aH,aK,aJ,aL,aN,aI]) ?_
 repeat' (first|simp(disch:=omega) [go_sem,aH,aK,aJ,aL,aN,aI])
 refine bC [(1000,10900)] [(10900,1000)] 20000 _ _ (Fits.mk' (by simp[go_sem,aH,aK,aJ,aL,aN,aI,hml]) (by simp[go_sem,aH,aK,aJ,aL,aN,aI,hml])) (by simp[go_sem,aH,aK,aJ,aL,aN,aI,hml]) (by simp[go_sem,aH,aK,aJ,aL,aN,aI,hml]) (h2) (by simp[go_sem,aH,aK,aJ,aL,aN,aI,hml]) (by simp[go_sem,aH,aK,aJ,aL,aN,aI,hml]) ?_
 repeat' (first|(refine aC fun _ _=>?_)|refine zHg ?_|(refine aP ?hl (h3) (by simp) ?_;(case hl=>(simp[go_sem,aH,aK,aJ,aL,aN,aI,hlenS,hq,kT];done)))|simp(disch:=omega) [go_sem,aH,aK,aJ,aL,aN,aI,hlenS,hq,kT])
 refine eR ⟨40,[],aH ⟨hT,bs⟩ [] [] (some ⟨H,D⟩)⟩ [] (by refine Le.trans ?_ (Le.shareBox 1105 rfl (by decide) rfl rfl);exact(Le.sub4 rfl (by simp[go_sem,aH,aK,aJ,aL,aN,hlenS]))) (by simp[go_sem]) ⟨rfl,rfl⟩
theorem cHt (r:Rl) (vs l:List ByteArray) (hvl:vs.length=l.length) (hlen:l.length≤5) (hvs:gA cD vs) (hh:r.head.size≤1000000) (hb: ∀b∈r.body,b.atom.size≤1000000) (hl:r.body.length≤12) (hn:l.length=0) (hb0: ¬r.body.length=0) (b:Rl) (hq: ¬dJ (dF r vs l) b<0):
 MCall prog 38 [.ref 1101 0 l.length,.ptr 1102 0 0,.ptr 1103 0 0,.ptr 1104 0 0,.ptr 1105 0 0] (aH r vs l (some b)) (fun v o'=>v= .tup []∧o'=aH r vs l (some b)):=by
 have hS:=mZ (l:=l) hvs
 have hZ:=oD (vs:=vs) (l:=l)
 obtain rfl:=List.eq_nil_of_length_eq_zero hn
 obtain rfl:=List.eq_nil_of_length_eq_zero hvl
 have hSn:aW [] []= []:=rfl
 rw[hSn]at hS hZ
 unfold dF at*
 rw[hSn]at hq
 obtain⟨hT,bs⟩:=r
 dsimp only at hh hb hl hb0
 have h1:=wB [] true hS hZ ⟨hT,bs⟩ hh hb (by(try dsimp only);omega) hb0
 dsimp only at h1
 have hx:iV (iC [] ⟨hT,bs⟩)=⟨cF [] hT,eH bU (bs.map (dA []))⟩:=rfl
 rw[hx]at hq
 have h2:=wD (cF [] hT) (bs.map (dA [])) (by rw[List.length_map];exact hl)
 rw[List.length_map]at h2
 have hsl:=sL (c:=bU) (bs.map (dA []))
 rw[List.length_map]at hsl
 have hml:(bs.map (dA [])).length=bs.length:=List.length_map _
 generalize cF [] hT=H at*
 generalize eH bU (bs.map (dA []))=D at*
 generalize bs.map (dA [])=m at*
 have h3:ACall prog 12 [kT true false ⟨H,D⟩,bN b] (fun r=>r=nt .i64 (dJ ⟨H,D⟩ b)):=qA _ b true false false false
 generalize dJ ⟨H,D⟩ b=c at*
 have hlenS:bY (D.map bW++List.replicate (bs.length - D.length) zL) 0 D.length=D.map bW:=wE (by simp)
 dsimp only[zL,bl]at hlenS
 clear hS hZ hx hb hh hSn hvs hn hlen hvl
 refine cL func38 call38 rfl (by simp[ntmps38]) ?_;simp only[ntmps38,results38]
 repeat' (first|(refine aC fun _ _=>?_)|refine zHg ?_|simp(disch:=omega) [go_sem,aH,aK,aJ,aL,aN,aI])
 refine bR [0,2,3,4,10,11] [] (fun i:Nat=> [(12,nt .i64 (0:Nat)),(6,.list false true [])]) (fun i:Nat=> []) (fun i:Nat=>0) (fun i:Nat=>i=0) (0) (Le.sub4 rfl (by simp[go_sem,aH,aK,aJ,aL,aN,aI])) ⟨?_⟩ ?_
 ·rfl
 intro i hi AA hAA;simp only[kL,Nat.reduceBEq,Nat.reduceEqDiff,if_true,if_false,List.cons_append,List.nil_append,List.append_nil]
 repeat' (first|(refine aC fun _ _=>?_)|refine zHg ?_|simp(disch:=omega) [go_sem,aH,aK,aJ,aL,aN,aI])
 refine bC [] [] 10000 _ _ (Fits.mk' (by simp[go_sem,aH,aK,aJ,aL,aN,aI]) (by simp[go_sem,aH,aK,aJ,aL,aN,aI])) (by simp[go_sem,aH,aK,aJ,aL,aN,aI]) (by simp[go_sem,aH,aK,aJ,aL,aN,aI]) (h1) (by simp[go_sem,aH,aK,aJ,aL,aN,aI]) (by simp[go_sem,aH,aK,aJ,aL,aN,aI]) ?_
 repeat' (first|simp(disch:=omega) [go_sem,aH,aK,aJ,aL,aN,aI])
 refine bC [(1000,10900)] [(10900,1000)] 20000 _ _ (Fits.mk' (by simp[go_sem,aH,aK,aJ,aL,aN,aI,hml]) (by simp[go_sem,aH,aK,aJ,aL,aN,aI,hml])) (by simp[go_sem,aH,aK,aJ,aL,aN,aI,hml]) (by simp[go_sem,aH,aK,aJ,aL,aN,aI,hml]) (h2) (by simp[go_sem,aH,aK,aJ,aL,aN,aI,hml]) (by simp[go_sem,aH,aK,aJ,aL,aN,aI,hml]) ?_
 repeat' (first|(refine aC fun _ _=>?_)|refine zHg ?_|(refine aP ?hl (h3) (by simp) ?_;(case hl=>(simp[go_sem,aH,aK,aJ,aL,aN,aI,hlenS,hq,kT];done)))|simp(disch:=omega) [go_sem,aH,aK,aJ,aL,aN,aI,hlenS,hq,kT])
 refine eR ⟨40,[],aH ⟨hT,bs⟩ [] [] (some b)⟩ [] (Le.renSub [] [] (by simp[go_sem,aH,aK,aJ,aL,aN,aI]) (by simp[go_sem,aH,aK,aJ,aL,aN,aI]) (Le.sub4 rfl (by simp[go_sem,aH,aK,aJ,aL,aN,aI]))) (by simp[go_sem,aH,aK,aJ,aL,aN,aI]) ⟨rfl,rfl⟩
theorem cHu (r:Rl) (vs l:List ByteArray) (hvl:vs.length=l.length) (hlen:l.length≤5) (hvs:gA cD vs) (hh:r.head.size≤1000000) (hb: ∀b∈r.body,b.atom.size≤1000000) (hl:r.body.length≤12) (hn: ¬l.length=0) (hb0:r.body.length=0):
 MCall prog 38 [.ref 1101 0 l.length,.ptr 1102 0 0,.ptr 1103 0 0,.ptr 1104 0 0,.ptr 1105 0 0] (aH r vs l none) (fun v o'=>v= .tup []∧o'=aH r vs l (some (dF r vs l))):=by
 have hS:=mZ (l:=l) hvs
 have hZ:=oD (vs:=vs) (l:=l)
 unfold dF at*
 obtain⟨hT,bs⟩:=r
 dsimp only at hh hb hl hb0
 obtain rfl:=List.eq_nil_of_length_eq_zero hb0
 have h1:=wA (aW vs l) false hS hZ hT hh
 have hx:iV (iC (aW vs l) ⟨hT,[]⟩)=⟨cF (aW vs l) hT,[]⟩:=rfl
 rw[hx]
 have h2:=wC (cF (aW vs l) hT)
 generalize cF (aW vs l) hT=H at*
 clear hS hZ hx hb hh
 refine cL func38 call38 rfl (by simp[ntmps38]) ?_;simp only[ntmps38,results38]
 repeat' (first|(refine aC fun _ _=>?_)|refine zHg ?_|simp(disch:=omega) [go_sem,aH,aK,aJ,aL,aN,aI])
 have hpos:0<vs.length:=by omega
 refine bR [0,2,3,4,10,11] [900] (fun i:Nat=> [(12,nt .i64 i),(6,if i<vs.length then .ref 900 0 i else .list false false ((aW vs l).map bK))]) (fun i:Nat=>(if i<vs.length then[(900,⟨true,false,false,3,((aW vs l).take i).map bK,0⟩)]else[])) (fun i:Nat=>vs.length - i) (fun i:Nat=>i≤vs.length) (0) (by refine Le.trans ?_ (Le.nil (i:=6) (T:=900) (es:=3) rfl);exact(Le.sub4 rfl (by simp[go_sem,aH,aK,aJ,aL,aN,aI,hpos,List.take_zero,List.map_nil]))) ⟨?_⟩ ?_
 ·exact Nat.zero_le _
 intro i hi AA hAA;simp only[kL,Nat.reduceBEq,Nat.reduceEqDiff,if_true,if_false,List.cons_append,List.nil_append,List.append_nil]
 by_cases hlt:i<vs.length
 ·have hvt:i<l.length:=by omega
  have hnx:=uK hlt hvt
  have hSl:=sN hvl
  have htl:((aW vs l).take i).length=i:=by rw[List.length_take];omega
  by_cases hla:i+1<vs.length
  ·generalize(aW vs l).take i=X at*
   simp only[if_pos hlt]
   repeat' (first|(refine aC fun _ _=>?_)|refine zHg ?_|(refine(hAA.next (i+1) (by refine Le.trans ?_ (Le.looseRow 900 rfl (by show(0:Nat)≠1;decide));exact(Le.sub4 rfl (by simp[go_sem,hla,hnx,nA,htl]))) (by omega) ?_))|simp(disch:=omega) [go_sem,aH,aK,aJ,aL,aN,aI,hlt,hvt,htl]|refine zAo ?_|fail)
   all_goals(first|omega|skip)
   all_goals exact⟨by omega⟩
  ·have hlast:i+1=vs.length:=by omega
   have hall:(aW vs l).take (i+1)=aW vs l:=List.take_of_length_le (by omega)
   rw[hall]at hnx
   have hsgw:bY ((aW vs l).map bK) 0 (i+1)=(aW vs l).map bK:=by
    have e:i+1=((aW vs l).map bK).length:=by rw[List.length_map];omega
    rw[e];exact tK
   have hmap:((aW vs l).map bK)=((aW vs l).take i).map bK++ [bK ⟨vs[i],.mk l[i] []⟩]:=by
    conv=>lhs;rw[hnx,List.map_append]
    rfl
   rw[hmap]at hsgw
   generalize(aW vs l).take i=X at*
   simp only[if_pos hlt]
   repeat' (first|(refine aC fun _ _=>?_)|refine zHg ?_|(refine(hAA.next (i+1) (by refine Le.trans ?_ (Le.looseRow 900 rfl (by show(0:Nat)≠1;decide));refine Le.trans ?_ (Le.shareSlot 6 rfl rfl);exact(Le.sub4 rfl (by simp[go_sem,hla,hmap,hsgw,nA,htl]))) (by omega) ?_))|simp(disch:=omega) [go_sem,aH,aK,aJ,aL,aN,aI,hlt,hvt,htl]|refine zAo ?_|fail)
   all_goals(first|omega|skip)
   all_goals exact⟨by omega⟩
 ·obtain rfl:i=vs.length:=by omega
  simp only[Nat.lt_irrefl,if_false]
  repeat' (first|(refine aC fun _ _=>?_)|refine zHg ?_|refine aP rfl (h1) (by simp) ?_|refine aP rfl (h2) (by simp) ?_|simp(disch:=omega) [go_sem,aH,aK,aJ,aL,aN,aI])
  refine eR ⟨40,[],aH ⟨hT,[]⟩ vs l (some ⟨H,[]⟩)⟩ [] (Le.renSub [] [] (by simp[go_sem,aH,aK,aJ,aL,aN,aI]) (by simp[go_sem,aH,aK,aJ,aL,aN,aI]) (Le.sub4 rfl (by simp[go_sem,aH,aK,aJ,aL,aN,aI]))) (by simp[go_sem,aH,aK,aJ,aL,aN,aI]) ⟨rfl,rfl⟩
theorem cHv (r:Rl) (vs l:List ByteArray) (hvl:vs.length=l.length) (hlen:l.length≤5) (hvs:gA cD vs) (hh:r.head.size≤1000000) (hb: ∀b∈r.body,b.atom.size≤1000000) (hl:r.body.length≤12) (hn: ¬l.length=0) (hb0:r.body.length=0) (b:Rl) (hq:dJ (dF r vs l) b<0):
 MCall prog 38 [.ref 1101 0 l.length,.ptr 1102 0 0,.ptr 1103 0 0,.ptr 1104 0 0,.ptr 1105 0 0] (aH r vs l (some b)) (fun v o'=>v= .tup []∧o'=aH r vs l (some (dF r vs l))):=by
 have hS:=mZ (l:=l) hvs
 have hZ:=oD (vs:=vs) (l:=l)
 unfold dF at*
 obtain⟨hT,bs⟩:=r
 dsimp only at hh hb hl hb0
 obtain rfl:=List.eq_nil_of_length_eq_zero hb0
 have h1:=wA (aW vs l) false hS hZ hT hh
 have hx:iV (iC (aW vs l) ⟨hT,[]⟩)=⟨cF (aW vs l) hT,[]⟩:=rfl
 rw[hx]at hq ⊢
 have h2:=wC (cF (aW vs l) hT)
 generalize cF (aW vs l) hT=H at*
 have h3:ACall prog 12 [bN ⟨H,[]⟩,bN b] (fun r=>r=nt .i64 (dJ ⟨H,[]⟩ b)):=qA _ b false false false false
 generalize dJ ⟨H,[]⟩ b=c at*
 clear hS hZ hx hb hh
 refine cL func38 call38 rfl (by simp[ntmps38]) ?_;simp only[ntmps38,results38]
 repeat' (first|(refine aC fun _ _=>?_)|refine zHg ?_|simp(disch:=omega) [go_sem,aH,aK,aJ,aL,aN,aI])
 have hpos:0<vs.length:=by omega
 refine bR [0,2,3,4,10,11] [900] (fun i:Nat=> [(12,nt .i64 i),(6,if i<vs.length then .ref 900 0 i else .list false false ((aW vs l).map bK))]) (fun i:Nat=>(if i<vs.length then[(900,⟨true,false,false,3,((aW vs l).take i).map bK,0⟩)]else[])) (fun i:Nat=>vs.length - i) (fun i:Nat=>i≤vs.length) (0) (by refine Le.trans ?_ (Le.nil (i:=6) (T:=900) (es:=3) rfl);exact(Le.sub4 rfl (by simp[go_sem,aH,aK,aJ,aL,aN,aI,hpos,List.take_zero,List.map_nil]))) ⟨?_⟩ ?_
 ·exact Nat.zero_le _
 intro i hi AA hAA;simp only[kL,Nat.reduceBEq,Nat.reduceEqDiff,if_true,if_false,List.cons_append,List.nil_append,List.append_nil]
 by_cases hlt:i<vs.length
 ·have hvt:i<l.length:=by omega
  have hnx:=uK hlt hvt
  have hSl:=sN hvl
  have htl:((aW vs l).take i).length=i:=by rw[List.length_take];omega
  by_cases hla:i+1<vs.length
  ·generalize(aW vs l).take i=X at*
   simp only[if_pos hlt]
   repeat' (first|(refine aC fun _ _=>?_)|refine zHg ?_|(refine(hAA.next (i+1) (by refine Le.trans ?_ (Le.looseRow 900 rfl (by show(0:Nat)≠1;decide));exact(Le.sub4 rfl (by simp[go_sem,hla,hnx,nA,htl]))) (by omega) ?_))|simp(disch:=omega) [go_sem,aH,aK,aJ,aL,aN,aI,hlt,hvt,htl]|refine zAo ?_|fail)
   all_goals(first|omega|skip)
   all_goals exact⟨by omega⟩
  ·have hlast:i+1=vs.length:=by omega
   have hall:(aW vs l).take (i+1)=aW vs l:=List.take_of_length_le (by omega)
   rw[hall]at hnx
   have hsgw:bY ((aW vs l).map bK) 0 (i+1)=(aW vs l).map bK:=by
    have e:i+1=((aW vs l).map bK).length:=by rw[List.length_map];omega
    rw[e];exact tK
   have hmap:((aW vs l).map bK)=((aW vs l).take i).map bK++ [bK ⟨vs[i],.mk l[i] []⟩]:=by
    conv=>lhs;rw[hnx,List.map_append]
    rfl
   rw[hmap]at hsgw
   generalize(aW vs l).take i=X at*
   simp only[if_pos hlt]
   repeat' (first|(refine aC fun _ _=>?_)|refine zHg ?_|(refine(hAA.next (i+1) (by refine Le.trans ?_ (Le.looseRow 900 rfl (by show(0:Nat)≠1;decide));refine Le.trans ?_ (Le.shareSlot 6 rfl rfl);exact(Le.sub4 rfl (by simp[go_sem,hla,hmap,hsgw,nA,htl]))) (by omega) ?_))|simp(disch:=omega) [go_sem,aH,aK,aJ,aL,aN,aI,hlt,hvt,htl]|refine zAo ?_|fail)
   all_goals(first|omega|skip)
   all_goals exact⟨by omega⟩
 ·obtain rfl:i=vs.length:=by omega
  simp only[Nat.lt_irrefl,if_false]
  repeat' (first|(refine aC fun _ _=>?_)|refine zHg ?_|refine aP rfl (h1) (by simp) ?_|refine aP rfl (h2) (by simp) ?_|refine aP rfl (h3) (by simp) ?_|simp(disch:=omega) [go_sem,aH,aK,aJ,aL,aN,aI,hq])
  refine eR ⟨40,[],aH ⟨hT,[]⟩ vs l (some ⟨H,[]⟩)⟩ [] (Le.renSub [] [] (by simp[go_sem,aH,aK,aJ,aL,aN,aI]) (by simp[go_sem,aH,aK,aJ,aL,aN,aI]) (Le.sub4 rfl (by simp[go_sem,aH,aK,aJ,aL,aN,aI]))) (by simp[go_sem,aH,aK,aJ,aL,aN,aI]) ⟨rfl,rfl⟩
theorem cHw (r:Rl) (vs l:List ByteArray) (hvl:vs.length=l.length) (hlen:l.length≤5) (hvs:gA cD vs) (hh:r.head.size≤1000000) (hb: ∀b∈r.body,b.atom.size≤1000000) (hl:r.body.length≤12) (hn: ¬l.length=0) (hb0:r.body.length=0) (b:Rl) (hq: ¬dJ (dF r vs l) b<0):
 MCall prog 38 [.ref 1101 0 l.length,.ptr 1102 0 0,.ptr 1103 0 0,.ptr 1104 0 0,.ptr 1105 0 0] (aH r vs l (some b)) (fun v o'=>v= .tup []∧o'=aH r vs l (some b)):=by
 have hS:=mZ (l:=l) hvs
 have hZ:=oD (vs:=vs) (l:=l)
 unfold dF at*
 obtain⟨hT,bs⟩:=r
 dsimp only at hh hb hl hb0
 obtain rfl:=List.eq_nil_of_length_eq_zero hb0
 have h1:=wA (aW vs l) false hS hZ hT hh
 have hx:iV (iC (aW vs l) ⟨hT,[]⟩)=⟨cF (aW vs l) hT,[]⟩:=rfl
 rw[hx]at hq
 have h2:=wC (cF (aW vs l) hT)
 generalize cF (aW vs l) hT=H at*
 have h3:ACall prog 12 [bN ⟨H,[]⟩,bN b] (fun r=>r=nt .i64 (dJ ⟨H,[]⟩ b)):=qA _ b false false false false
 generalize dJ ⟨H,[]⟩ b=c at*
 clear hS hZ hx hb hh
 refine cL func38 call38 rfl (by simp[ntmps38]) ?_;simp only[ntmps38,results38]
 repeat' (first|(refine aC fun _ _=>?_)|refine zHg ?_|simp(disch:=omega) [go_sem,aH,aK,aJ,aL,aN,aI])
 have hpos:0<vs.length:=by omega
 refine bR [0,2,3,4,10,11] [900] (fun i:Nat=> [(12,nt .i64 i),(6,if i<vs.length then .ref 900 0 i else .list false false ((aW vs l).map bK))]) (fun i:Nat=>(if i<vs.length then[(900,⟨true,false,false,3,((aW vs l).take i).map bK,0⟩)]else[])) (fun i:Nat=>vs.length - i) (fun i:Nat=>i≤vs.length) (0) (by refine Le.trans ?_ (Le.nil (i:=6) (T:=900) (es:=3) rfl);exact(Le.sub4 rfl (by simp[go_sem,aH,aK,aJ,aL,aN,aI,hpos,List.take_zero,List.map_nil]))) ⟨?_⟩ ?_
 ·exact Nat.zero_le _
 intro i hi AA hAA;simp only[kL,Nat.reduceBEq,Nat.reduceEqDiff,if_true,if_false,List.cons_append,List.nil_append,List.append_nil]
 by_cases hlt:i<vs.length
 ·have hvt:i<l.length:=by omega
  have hnx:=uK hlt hvt
  have hSl:=sN hvl
  have htl:((aW vs l).take i).length=i:=by rw[List.length_take];omega
  by_cases hla:i+1<vs.length
  ·generalize(aW vs l).take i=X at*
   simp only[if_pos hlt]
   repeat' (first|(refine aC fun _ _=>?_)|refine zHg ?_|(refine(hAA.next (i+1) (by refine Le.trans ?_ (Le.looseRow 900 rfl (by show(0:Nat)≠1;decide));exact(Le.sub4 rfl (by simp[go_sem,hla,hnx,nA,htl]))) (by omega) ?_))|simp(disch:=omega) [go_sem,aH,aK,aJ,aL,aN,aI,hlt,hvt,htl]|refine zAo ?_|fail)
   all_goals(first|omega|skip)
   all_goals exact⟨by omega⟩
  ·have hlast:i+1=vs.length:=by omega
   have hall:(aW vs l).take (i+1)=aW vs l:=List.take_of_length_le (by omega)
   rw[hall]at hnx
   have hsgw:bY ((aW vs l).map bK) 0 (i+1)=(aW vs l).map bK:=by
    have e:i+1=((aW vs l).map bK).length:=by rw[List.length_map];omega
    rw[e];exact tK
   have hmap:((aW vs l).map bK)=((aW vs l).take i).map bK++ [bK ⟨vs[i],.mk l[i] []⟩]:=by
    conv=>lhs;rw[hnx,List.map_append]
    rfl
   rw[hmap]at hsgw
   generalize(aW vs l).take i=X at*
   simp only[if_pos hlt]
   repeat' (first|(refine aC fun _ _=>?_)|refine zHg ?_|(refine(hAA.next (i+1) (by refine Le.trans ?_ (Le.looseRow 900 rfl (by show(0:Nat)≠1;decide));refine Le.trans ?_ (Le.shareSlot 6 rfl rfl);exact(Le.sub4 rfl (by simp[go_sem,hla,hmap,hsgw,nA,htl]))) (by omega) ?_))|simp(disch:=omega) [go_sem,aH,aK,aJ,aL,aN,aI,hlt,hvt,htl]|refine zAo ?_|fail)
   all_goals(first|omega|skip)
   all_goals exact⟨by omega⟩
 ·obtain rfl:i=vs.length:=by omega
  simp only[Nat.lt_irrefl,if_false]
  repeat' (first|(refine aC fun _ _=>?_)|refine zHg ?_|refine aP rfl (h1) (by simp) ?_|refine aP rfl (h2) (by simp) ?_|refine aP rfl (h3) (by simp) ?_|simp(disch:=omega) [go_sem,aH,aK,aJ,aL,aN,aI,hq])
  refine eR ⟨40,[],aH ⟨hT,[]⟩ vs l (some b)⟩ [] (Le.renSub [] [] (by simp[go_sem,aH,aK,aJ,aL,aN,aI]) (by simp[go_sem,aH,aK,aJ,aL,aN,aI]) (Le.sub4 rfl (by simp[go_sem,aH,aK,aJ,aL,aN,aI]))) (by simp[go_sem,aH,aK,aJ,aL,aN,aI]) ⟨rfl,rfl⟩
theorem cHx (r:Rl) (vs l:List ByteArray) (hvl:vs.length=l.length) (hlen:l.length≤5) (hvs:gA cD vs) (hh:r.head.size≤1000000) (hb: ∀b∈r.body,b.atom.size≤1000000) (hl:r.body.length≤12) (hn: ¬l.length=0) (hb0: ¬r.body.length=0):
 MCall prog 38 [.ref 1101 0 l.length,.ptr 1102 0 0,.ptr 1103 0 0,.ptr 1104 0 0,.ptr 1105 0 0] (aH r vs l none) (fun v o'=>v= .tup []∧o'=aH r vs l (some (dF r vs l))):=by
 have hS:=mZ (l:=l) hvs
 have hZ:=oD (vs:=vs) (l:=l)
 unfold dF at*
 obtain⟨hT,bs⟩:=r
 dsimp only at hh hb hl hb0
 have h1:=wB (aW vs l) false hS hZ ⟨hT,bs⟩ hh hb (by(try dsimp only);omega) hb0
 dsimp only at h1
 have hx:iV (iC (aW vs l) ⟨hT,bs⟩)=⟨cF (aW vs l) hT,eH bU (bs.map (dA (aW vs l)))⟩:=rfl
 rw[hx]
 have h2:=wD (cF (aW vs l) hT) (bs.map (dA (aW vs l))) (by rw[List.length_map];exact hl)
 rw[List.length_map]at h2
 have hsl:=sL (c:=bU) (bs.map (dA (aW vs l)))
 rw[List.length_map]at hsl
 have hml:(bs.map (dA (aW vs l))).length=bs.length:=List.length_map _
 generalize cF (aW vs l) hT=H at*
 generalize eH bU (bs.map (dA (aW vs l)))=D at*
 generalize bs.map (dA (aW vs l))=m at*
 have hlenS:bY (D.map bW++List.replicate (bs.length - D.length) zL) 0 D.length=D.map bW:=wE (by simp)
 dsimp only[zL,bl]at hlenS
 clear hS hZ hx hb hh
 refine cL func38 call38 rfl (by simp[ntmps38]) ?_;simp only[ntmps38,results38]
 repeat' (first|(refine aC fun _ _=>?_)|refine zHg ?_|simp(disch:=omega) [go_sem,aH,aK,aJ,aL,aN,aI])
 have hpos:0<vs.length:=by omega
 refine bR [0,2,3,4,10,11] [900] (fun i:Nat=> [(12,nt .i64 i),(6,if i<vs.length then .ref 900 0 i else .list false false ((aW vs l).map bK))]) (fun i:Nat=>(if i<vs.length then[(900,⟨true,false,false,3,((aW vs l).take i).map bK,0⟩)]else[])) (fun i:Nat=>vs.length - i) (fun i:Nat=>i≤vs.length) (0) (by refine Le.trans ?_ (Le.nil (i:=6) (T:=900) (es:=3) rfl);exact(Le.sub4 rfl (by simp[go_sem,aH,aK,aJ,aL,aN,aI,hpos,List.take_zero,List.map_nil]))) ⟨?_⟩ ?_
 ·exact Nat.zero_le _
 intro i hi AA hAA;simp only[kL,Nat.reduceBEq,Nat.reduceEqDiff,if_true,if_false,List.cons_append,List.nil_append,List.append_nil]
 by_cases hlt:i<vs.length
 ·have hvt:i<l.length:=by omega
  have hnx:=uK hlt hvt
  have hSl:=sN hvl
  have htl:((aW vs l).take i).length=i:=by rw[List.length_take];omega
  by_cases hla:i+1<vs.length
  ·generalize(aW vs l).take i=X at*
   simp only[if_pos hlt]
   repeat' (first|(refine aC fun _ _=>?_)|refine zHg ?_|(refine(hAA.next (i+1) (by refine Le.trans ?_ (Le.looseRow 900 rfl (by show(0:Nat)≠1;decide));exact(Le.sub4 rfl (by simp[go_sem,hla,hnx,nA,htl]))) (by omega) ?_))|simp(disch:=omega) [go_sem,aH,aK,aJ,aL,aN,aI,hlt,hvt,htl]|refine zAo ?_|fail)
   all_goals(first|omega|skip)
   all_goals exact⟨by omega⟩
  ·have hlast:i+1=vs.length:=by omega
   have hall:(aW vs l).take (i+1)=aW vs l:=List.take_of_length_le (by omega)
   rw[hall]at hnx
   have hsgw:bY ((aW vs l).map bK) 0 (i+1)=(aW vs l).map bK:=by
    have e:i+1=((aW vs l).map bK).length:=by rw[List.length_map];omega
    rw[e];exact tK
   have hmap:((aW vs l).map bK)=((aW vs l).take i).map bK++ [bK ⟨vs[i],.mk l[i] []⟩]:=by
    conv=>lhs;rw[hnx,List.map_append]
    rfl
   rw[hmap]at hsgw
   generalize(aW vs l).take i=X at*
   simp only[if_pos hlt]
   repeat' (first|(refine aC fun _ _=>?_)|refine zHg ?_|(refine(hAA.next (i+1) (by refine Le.trans ?_ (Le.looseRow 900 rfl (by show(0:Nat)≠1;decide));refine Le.trans ?_ (Le.shareSlot 6 rfl rfl);exact(Le.sub4 rfl (by simp[go_sem,hla,hmap,hsgw,nA,htl]))) (by omega) ?_))|simp(disch:=omega) [go_sem,aH,aK,aJ,aL,aN,aI,hlt,hvt,htl]|refine zAo ?_|fail)
   all_goals(first|omega|skip)
   all_goals exact⟨by omega⟩
 ·obtain rfl:i=vs.length:=by omega
  simp only[Nat.lt_irrefl,if_false]
  repeat' (first|(refine aC fun _ _=>?_)|refine zHg ?_|simp(disch:=omega) [go_sem,aH,aK,aJ,aL,aN,aI])
  refine bC [] [] 10000 _ _ (Fits.mk' (by simp[go_sem,aH,aK,aJ,aL,aN,aI]) (by simp[go_sem,aH,aK,aJ,aL,aN,aI])) (by simp[go_sem,aH,aK,aJ,aL,aN,aI]) (by simp[go_sem,aH,aK,aJ,aL,aN,aI]) (h1) (by simp[go_sem,aH,aK,aJ,aL,aN,aI]) (by simp[go_sem,aH,aK,aJ,aL,aN,aI]) ?_
  repeat' (first|simp(disch:=omega) [go_sem,aH,aK,aJ,aL,aN,aI])
  refine bC [(1000,10900)] [(10900,1000)] 20000 _ _ (Fits.mk' (by simp[go_sem,aH,aK,aJ,aL,aN,aI,hml]) (by simp[go_sem,aH,aK,aJ,aL,aN,aI,hml])) (by simp[go_sem,aH,aK,aJ,aL,aN,aI,hml]) (by simp[go_sem,aH,aK,aJ,aL,aN,aI,hml]) (h2) (by simp[go_sem,aH,aK,aJ,aL,aN,aI,hml]) (by simp[go_sem,aH,aK,aJ,aL,aN,aI,hml]) ?_
  repeat' (first|(refine aC fun _ _=>?_)|refine zHg ?_|simp(disch:=omega) [go_sem,aH,aK,aJ,aL,aN,aI,hlenS,kT])
  refine eR ⟨40,[],aH ⟨hT,bs⟩ vs l (some ⟨H,D⟩)⟩ [] (by refine Le.trans ?_ (Le.shareBox 1105 rfl (by decide) rfl rfl);exact(Le.sub4 rfl (by simp[go_sem,aH,aK,aJ,aL,aN,hlenS]))) (by simp[go_sem]) ⟨rfl,rfl⟩
theorem cHy (r:Rl) (vs l:List ByteArray) (hvl:vs.length=l.length) (hlen:l.length≤5) (hvs:gA cD vs) (hh:r.head.size≤1000000) (hb: ∀b∈r.body,b.atom.size≤1000000) (hl:r.body.length≤12) (hn: ¬l.length=0) (hb0: ¬r.body.length=0) (b:Rl) (hq:dJ (dF r vs l) b<0):
 MCall prog 38 [.ref 1101 0 l.length,.ptr 1102 0 0,.ptr 1103 0 0,.ptr 1104 0 0,.ptr 1105 0 0] (aH r vs l (some b)) (fun v o'=>v= .tup []∧o'=aH r vs l (some (dF r vs l))):=by
 have hS:=mZ (l:=l) hvs
 have hZ:=oD (vs:=vs) (l:=l)
 unfold dF at*
 obtain⟨hT,bs⟩:=r
 dsimp only at hh hb hl hb0
 have h1:=wB (aW vs l) false hS hZ ⟨hT,bs⟩ hh hb (by(try dsimp only);omega) hb0
 dsimp only at h1
 have hx:iV (iC (aW vs l) ⟨hT,bs⟩)=⟨cF (aW vs l) hT,eH bU (bs.map (dA (aW vs l)))⟩:=rfl
 rw[hx]at hq ⊢
 have h2:=wD (cF (aW vs l) hT) (bs.map (dA (aW vs l))) (by rw[List.length_map];exact hl)
 rw[List.length_map]at h2
 have hsl:=sL (c:=bU) (bs.map (dA (aW vs l)))
 rw[List.length_map]at hsl
 have hml:(bs.map (dA (aW vs l))).length=bs.length:=List.length_map _
 generalize cF (aW vs l) hT=H at*
 generalize eH bU (bs.map (dA (aW vs l)))=D at*
 generalize bs.map (dA (aW vs l))=m at*
 have h3:ACall prog 12 [kT true false ⟨H,D⟩,bN b] (fun r=>r=nt .i64 (dJ ⟨H,D⟩ b)):=qA _ b true false false false
 generalize dJ ⟨H,D⟩ b=c at*
 have hlenS:bY (D.map bW++List.replicate (bs.length - D.length) zL) 0 D.length=D.map bW:=wE (by simp)
 dsimp only[zL,bl]at hlenS
 clear hS hZ hx hb hh
 refine cL func38 call38 rfl (by simp[ntmps38]) ?_;simp only[ntmps38,results38]
 repeat' (first|(refine aC fun _ _=>?_)|refine zHg ?_|simp(disch:=omega) [go_sem,aH,aK,aJ,aL,aN,aI])
 have hpos:0<vs.length:=by omega
 refine bR [0,2,3,4,10,11] [900] (fun i:Nat=> [(12,nt .i64 i),(6,if i<vs.length then .ref 900 0 i else .list false false ((aW vs l).map bK))]) (fun i:Nat=>(if i<vs.length then[(900,⟨true,false,false,3,((aW vs l).take i).map bK,0⟩)]else[])) (fun i:Nat=>vs.length - i) (fun i:Nat=>i≤vs.length) (0) (by refine Le.trans ?_ (Le.nil (i:=6) (T:=900) (es:=3) rfl);exact(Le.sub4 rfl (by simp[go_sem,aH,aK,aJ,aL,aN,aI,hpos,List.take_zero,List.map_nil]))) ⟨?_⟩ ?_
 ·exact Nat.zero_le _
 intro i hi AA hAA;simp only[kL,Nat.reduceBEq,Nat.reduceEqDiff,if_true,if_false,List.cons_append,List.nil_append,List.append_nil]
 by_cases hlt:i<vs.length
 ·have hvt:i<l.length:=by omega
  have hnx:=uK hlt hvt
  have hSl:=sN hvl
  have htl:((aW vs l).take i).length=i:=by rw[List.length_take];omega
  by_cases hla:i+1<vs.length
  ·generalize(aW vs l).take i=X at*
   simp only[if_pos hlt]
   repeat' (first|(refine aC fun _ _=>?_)|refine zHg ?_|(refine(hAA.next (i+1) (by refine Le.trans ?_ (Le.looseRow 900 rfl (by show(0:Nat)≠1;decide));exact(Le.sub4 rfl (by simp[go_sem,hla,hnx,nA,htl]))) (by omega) ?_))|simp(disch:=omega) [go_sem,aH,aK,aJ,aL,aN,aI,hlt,hvt,htl]|refine zAo ?_|fail)
   all_goals(first|omega|skip)
   all_goals exact⟨by omega⟩
  ·have hlast:i+1=vs.length:=by omega
   have hall:(aW vs l).take (i+1)=aW vs l:=List.take_of_length_le (by omega)
   rw[hall]at hnx
   have hsgw:bY ((aW vs l).map bK) 0 (i+1)=(aW vs l).map bK:=by
    have e:i+1=((aW vs l).map bK).length:=by rw[List.length_map];omega
    rw[e];exact tK
   have hmap:((aW vs l).map bK)=((aW vs l).take i).map bK++ [bK ⟨vs[i],.mk l[i] []⟩]:=by
    conv=>lhs;rw[hnx,List.map_append]
    rfl
   rw[hmap]at hsgw
   generalize(aW vs l).take i=X at*
   simp only[if_pos hlt]
   repeat' (first|(refine aC fun _ _=>?_)|refine zHg ?_|(refine(hAA.next (i+1) (by refine Le.trans ?_ (Le.looseRow 900 rfl (by show(0:Nat)≠1;decide));refine Le.trans ?_ (Le.shareSlot 6 rfl rfl);exact(Le.sub4 rfl (by simp[go_sem,hla,hmap,hsgw,nA,htl]))) (by omega) ?_))|simp(disch:=omega) [go_sem,aH,aK,aJ,aL,aN,aI,hlt,hvt,htl]|refine zAo ?_|fail)
   all_goals(first|omega|skip)
   all_goals exact⟨by omega⟩
 ·obtain rfl:i=vs.length:=by omega
  simp only[Nat.lt_irrefl,if_false]
  repeat' (first|(refine aC fun _ _=>?_)|refine zHg ?_|simp(disch:=omega) [go_sem,aH,aK,aJ,aL,aN,aI])
  refine bC [] [] 10000 _ _ (Fits.mk' (by simp[go_sem,aH,aK,aJ,aL,aN,aI]) (by simp[go_sem,aH,aK,aJ,aL,aN,aI])) (by simp[go_sem,aH,aK,aJ,aL,aN,aI]) (by simp[go_sem,aH,aK,aJ,aL,aN,aI]) (h1) (by simp[go_sem,aH,aK,aJ,aL,aN,aI]) (by simp[go_sem,aH,aK,aJ,aL,aN,aI]) ?_
  repeat' (first|simp(disch:=omega) [go_sem,aH,aK,aJ,aL,aN,aI])
  refine bC [(1000,10900)] [(10900,1000)] 20000 _ _ (Fits.mk' (by simp[go_sem,aH,aK,aJ,aL,aN,aI,hml]) (by simp[go_sem,aH,aK,aJ,aL,aN,aI,hml])) (by simp[go_sem,aH,aK,aJ,aL,aN,aI,hml]) (by simp[go_sem,aH,aK,aJ,aL,aN,aI,hml]) (h2) (by simp[go_sem,aH,aK,aJ,aL,aN,aI,hml]) (by simp[go_sem,aH,aK,aJ,aL,aN,aI,hml]) ?_
  repeat' (first|(refine aC fun _ _=>?_)|refine zHg ?_|(refine aP ?hl (h3) (by simp) ?_;(case hl=>(simp[go_sem,aH,aK,aJ,aL,aN,aI,hlenS,hq,kT];done)))|simp(disch:=omega) [go_sem,aH,aK,aJ,aL,aN,aI,hlenS,hq,kT])
  refine eR ⟨40,[],aH ⟨hT,bs⟩ vs l (some ⟨H,D⟩)⟩ [] (by refine Le.trans ?_ (Le.shareBox 1105 rfl (by decide) rfl rfl);exact(Le.sub4 rfl (by simp[go_sem,aH,aK,aJ,aL,aN,hlenS]))) (by simp[go_sem]) ⟨rfl,rfl⟩
theorem cHz (r:Rl) (vs l:List ByteArray) (hvl:vs.length=l.length) (hlen:l.length≤5) (hvs:gA cD vs) (hh:r.head.size≤1000000) (hb: ∀b∈r.body,b.atom.size≤1000000) (hl:r.body.length≤12) (hn: ¬l.length=0) (hb0: ¬r.body.length=0) (b:Rl) (hq: ¬dJ (dF r vs l) b<0):
 MCall prog 38 [.ref 1101 0 l.length,.ptr 1102 0 0,.ptr 1103 0 0,.ptr 1104 0 0,.ptr 1105 0 0] (aH r vs l (some b)) (fun v o'=>v= .tup []∧o'=aH r vs l (some b)):=by
 have hS:=mZ (l:=l) hvs
 have hZ:=oD (vs:=vs) (l:=l)
 unfold dF at*
 obtain⟨hT,bs⟩:=r
 dsimp only at hh hb hl hb0
 have h1:=wB (aW vs l) false hS hZ ⟨hT,bs⟩ hh hb (by(try dsimp only);omega) hb0
 dsimp only at h1
 have hx:iV (iC (aW vs l) ⟨hT,bs⟩)=⟨cF (aW vs l) hT,eH bU (bs.map (dA (aW vs l)))⟩:=rfl
 rw[hx]at hq
 have h2:=wD (cF (aW vs l) hT) (bs.map (dA (aW vs l))) (by rw[List.length_map];exact hl)
 rw[List.length_map]at h2
 have hsl:=sL (c:=bU) (bs.map (dA (aW vs l)))
 rw[List.length_map]at hsl
 have hml:(bs.map (dA (aW vs l))).length=bs.length:=List.length_map _
 generalize cF (aW vs l) hT=H at*
 generalize eH bU (bs.map (dA (aW vs l)))=D at*
 generalize bs.map (dA (aW vs l))=m at*
 have h3:ACall prog 12 [kT true false ⟨H,D⟩,bN b] (fun r=>r=nt .i64 (dJ ⟨H,D⟩ b)):=qA _ b true false false false
 generalize dJ ⟨H,D⟩ b=c at*
 have hlenS:bY (D.map bW++List.replicate (bs.length - D.length) zL) 0 D.length=D.map bW:=wE (by simp)
 dsimp only[zL,bl]at hlenS
 clear hS hZ hx hb hh
 refine cL func38 call38 rfl (by simp[ntmps38]) ?_;simp only[ntmps38,results38]
 repeat' (first|(refine aC fun _ _=>?_)|refine zHg ?_|simp(disch:=omega) [go_sem,aH,aK,aJ,aL,aN,aI])
 have hpos:0<vs.length:=by omega
 refine bR [0,2,3,4,10,11] [900] (fun i:Nat=> [(12,nt .i64 i),(6,if i<vs.length then .ref 900 0 i else .list false false ((aW vs l).map bK))]) (fun i:Nat=>(if i<vs.length then[(900,⟨true,false,false,3,((aW vs l).take i).map bK,0⟩)]else[])) (fun i:Nat=>vs.length - i) (fun i:Nat=>i≤vs.length) (0) (by refine Le.trans ?_ (Le.nil (i:=6) (T:=900) (es:=3) rfl);exact(Le.sub4 rfl (by simp[go_sem,aH,aK,aJ,aL,aN,aI,hpos,List.take_zero,List.map_nil]))) ⟨?_⟩ ?_
 ·exact Nat.zero_le _
 intro i hi AA hAA;simp only[kL,Nat.reduceBEq,Nat.reduceEqDiff,if_true,if_false,List.cons_append,List.nil_append,List.append_nil]
 by_cases hlt:i<vs.length
 ·have hvt:i<l.length:=by omega
  have hnx:=uK hlt hvt
  have hSl:=sN hvl
  have htl:((aW vs l).take i).length=i:=by rw[List.length_take];omega
  by_cases hla:i+1<vs.length
  ·generalize(aW vs l).take i=X at*
   simp only[if_pos hlt]
   repeat' (first|(refine aC fun _ _=>?_)|refine zHg ?_|(refine(hAA.next (i+1) (by refine Le.trans ?_ (Le.looseRow 900 rfl (by show(0:Nat)≠1;decide));exact(Le.sub4 rfl (by simp[go_sem,hla,hnx,nA,htl]))) (by omega) ?_))|simp(disch:=omega) [go_sem,aH,aK,aJ,aL,aN,aI,hlt,hvt,htl]|refine zAo ?_|fail)
   all_goals(first|omega|skip)
   all_goals exact⟨by omega⟩
  ·have hlast:i+1=vs.length:=by omega
   have hall:(aW vs l).take (i+1)=aW vs l:=List.take_of_length_le (by omega)
   rw[hall]at hnx
   have hsgw:bY ((aW vs l).map bK) 0 (i+1)=(aW vs l).map bK:=by
    have e:i+1=((aW vs l).map bK).length:=by rw[List.length_map];omega
    rw[e];exact tK
   have hmap:((aW vs l).map bK)=((aW vs l).take i).map bK++ [bK ⟨vs[i],.mk l[i] []⟩]:=by
    conv=>lhs;rw[hnx,List.map_append]
    rfl
   rw[hmap]at hsgw
   generalize(aW vs l).take i=X at*
   simp only[if_pos hlt]
   repeat' (first|(refine aC fun _ _=>?_)|refine zHg ?_|(refine(hAA.next (i+1) (by refine Le.trans ?_ (Le.looseRow 900 rfl (by show(0:Nat)≠1;decide));refine Le.trans ?_ (Le.shareSlot 6 rfl rfl);exact(Le.sub4 rfl (by simp[go_sem,hla,hmap,hsgw,nA,htl]))) (by omega) ?_))|simp(disch:=omega) [go_sem,aH,aK,aJ,aL,aN,aI,hlt,hvt,htl]|refine zAo ?_|fail)
   all_goals(first|omega|skip)
   all_goals exact⟨by omega⟩
 ·obtain rfl:i=vs.length:=by omega
  simp only[Nat.lt_irrefl,if_false]
  repeat' (first|(refine aC fun _ _=>?_)|refine zHg ?_|simp(disch:=omega) [go_sem,aH,aK,aJ,aL,aN,aI])
  refine bC [] [] 10000 _ _ (Fits.mk' (by simp[go_sem,aH,aK,aJ,aL,aN,aI]) (by simp[go_sem,aH,aK,aJ,aL,aN,aI])) (by simp[go_sem,aH,aK,aJ,aL,aN,aI]) (by simp[go_sem,aH,aK,aJ,aL,aN,aI]) (h1) (by simp[go_sem,aH,aK,aJ,aL,aN,aI]) (by simp[go_sem,aH,aK,aJ,aL,aN,aI]) ?_
  repeat' (first|simp(disch:=omega) [go_sem,aH,aK,aJ,aL,aN,aI])
  refine bC [(1000,10900)] [(10900,1000)] 20000 _ _ (Fits.mk' (by simp[go_sem,aH,aK,aJ,aL,aN,aI,hml]) (by simp[go_sem,aH,aK,aJ,aL,aN,aI,hml])) (by simp[go_sem,aH,aK,aJ,aL,aN,aI,hml]) (by simp[go_sem,aH,aK,aJ,aL,aN,aI,hml]) (h2) (by simp[go_sem,aH,aK,aJ,aL,aN,aI,hml]) (by simp[go_sem,aH,aK,aJ,aL,aN,aI,hml]) ?_
  repeat' (first|(refine aC fun _ _=>?_)|refine zHg ?_|(refine aP ?hl (h3) (by simp) ?_;(case hl=>(simp[go_sem,aH,aK,aJ,aL,aN,aI,hlenS,hq,kT];done)))|simp(disch:=omega) [go_sem,aH,aK,aJ,aL,aN,aI,hlenS,hq,kT])
  refine eR ⟨40,[],aH ⟨hT,bs⟩ vs l (some b)⟩ [] (Le.renSub [] [] (by simp[go_sem,aH,aK,aJ,aL,aN,aI]) (by simp[go_sem,aH,aK,aJ,aL,aN,aI]) (Le.sub4 rfl (by simp[go_sem,aH,aK,aJ,aL,aN,aI]))) (by simp[go_sem,aH,aK,aJ,aL,aN,aI]) ⟨rfl,rfl⟩
end Go.Proofs.YtkbglbcphjmiiaaGreatDoor
