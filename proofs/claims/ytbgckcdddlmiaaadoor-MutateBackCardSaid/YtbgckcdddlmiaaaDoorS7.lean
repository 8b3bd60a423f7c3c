import Derived.Test.YtbgckcdddlmiaaaDoorS6
set_option linter.unusedSimpArgs false
set_option linter.unusedVariables false
open Go.Proofs.Tryd
namespace Go.Proofs.YtbgckcdddlmiaaaDoor
open Go.Ab
set_option maxRecDepth 100000
set_option maxHeartbeats 16000000
abbrev eBs (s:List Bd):AV:= .list false false (s.map vZ)
abbrev aX (pin:Bool) (lf:Int):AObj:=⟨false,false,pin,1,[.agg [nt .i64 lf]],0⟩
abbrev aH (pin:Bool) (A:List Tm):AObj:=⟨true,false,pin,2,A.map aL,0⟩
abbrev fJ (a:Tm):AObj:=⟨false,false,false,2,[eT a],0⟩
theorem bVs:Ab.loose (.list false true [])=eBs []:=rfl
abbrev fK (W:List (List Bd)):AObj:=⟨true,false,false,1,W.map eBs,0⟩
theorem bVt {A:List Tm} {W:List (List Bd)} {lf:Int}:fI A [] W lf=(some W,lf):=rfl
theorem aD0 {A:List Tm} {b:Lt} {bs:List Lt} {W:List (List Bd)} {lf:Int} (h:b.neg=true∨b.atom.name=zQ):fI A (b::bs) W lf=fI A bs W lf:=by rw[fI,if_pos h]
theorem bVu {A:List Tm} {b:Lt} {bs:List Lt} {W:List (List Bd)} {lf:Int} (h: ¬(b.neg=true∨b.atom.name=zQ)):fI A (b::bs) W lf=match mM b.atom A W [] lf with
 |(some nx,lf')=>fI A bs nx lf'
 |(none,lf')=>(none,lf'):=by rw[fI,if_neg h];rfl
def rX (a:Tm) (A:List Tm) (ss:List (List Bd)) (B:List Lt):Option (List (List Bd))×Int→Option (List (List Bd))×Int
 |(some nx,lf)=>match mM a A ss nx lf with
  |(some nx',lf')=>fI A B nx' lf'
  |(none,lf')=>(none,lf')
 |(none,lf)=>(none,lf)
theorem bVv {a:Tm} {A:List Tm} {s:List Bd} {ss nx:List (List Bd)} {lf:Int}:mM a A (s::ss) nx lf=match gG a s A nx lf with
 |(some nx',lf')=>mM a A ss nx' lf'
 |(none,lf')=>(none,lf'):=by rw[mM];rfl
theorem bVw {a:Tm} {A:List Tm} {s:List Bd} {ss nx:List (List Bd)} {B:List Lt} {lf:Int}:rX a A (s::ss) B (some nx,lf)=rX a A ss B (gG a s A nx lf):=by
 rw[rX,bVv]
 generalize gG a s A nx lf=r
 obtain⟨x,l⟩:=r
 cases x<;>rfl
theorem bVx {a:Tm} {A:List Tm} {nx:List (List Bd)} {B:List Lt} {lf:Int}:rX a A [] B (some nx,lf)=fI A B nx lf:=rfl
theorem aD1 {a:Tm} {s:List Bd} {t:Tm} {ts:List Tm} {nx:List (List Bd)} {lf:Int} (h: ¬(t.name=a.name∧t.args.length=a.args.length)):gG a s (t::ts) nx lf=gG a s ts nx lf:=by rw[gG,if_neg h]
theorem bVy {a:Tm} {s:List Bd} {t:Tm} {ts:List Tm} {nx:List (List Bd)} {lf:Int} (h:t.name=a.name∧t.args.length=a.args.length) (h':lf - 1<0∨5000<(pJ (dW a t s) nx).length):gG a s (t::ts) nx lf=(none,lf - 1):=by rw[gG,if_pos h,if_pos h']
theorem bVz {a:Tm} {s:List Bd} {t:Tm} {ts:List Tm} {nx:List (List Bd)} {lf:Int} (h:t.name=a.name∧t.args.length=a.args.length) (h': ¬(lf - 1<0∨5000<(pJ (dW a t s) nx).length)):gG a s (t::ts) nx lf=gG a s ts (pJ (dW a t s) nx) (lf - 1):=by rw[gG,if_pos h,if_neg h']
def wyX (A:List Tm) (r:AV) (o':aF):Option (List (List Bd))×Int→Prop
 |(some W,lf)=>r= .tup [.ref 1002 0 W.length,bl true]∧o'= [(1002,fK W),(1000,aX true lf),(1001,aH true A)]
 |(none,lf)=>r= .tup [.list false true [],bl false]∧o'= [(1000,aX true lf),(1001,aH true A)]
theorem bV1 {q M:Nat} (A:List Tm) (B:List Lt) (fb:Bool) (lf:Int) (hA:kQ q M A) (hAl:A.length≤1000000) (hB:B.length≤8) (hBz: ∀b∈B,b.atom.size≤20) (h0:0≤lf) (h1:lf≤1000000):
 MCall prog 25 [.ptr 1000 0 0,.list false fb (B.map bT),.ref 1001 0 A.length] [(1000,aX true lf),(1001,aH true A)] (fun r o'=>wyX A r o' (fI A B [[]] lf)):=by
 generalize hG:fI A B [[]] lf=G
 refine eM func25 call25 rfl (by simp[ntmps25]) ?_;simp only[ntmps25,results25]
 repeat' (first|(refine aC fun _ _=>?_)|refine zHg ?_|simp(disch:=omega) [go_sem,aX,aH])
 refine cL [0,1,2,18] [900,1000,16] (fun x:Nat×List (List Bd)×Int=> [(19,nt .i64 x.1),(8,.ref 900 0 x.2.1.length)]) (fun x:Nat×List (List Bd)×Int=> [(900,fK x.2.1),(1000,aX true x.2.2)]) (fun x:Nat×List (List Bd)×Int=>B.length - x.1) (fun x:Nat×List (List Bd)×Int=>x.1≤B.length∧kP q M (20*x.1) x.2.1∧x.2.1.length≤5000∧0≤x.2.2∧x.2.2≤1000000∧fI A (B.drop x.1) x.2.1 x.2.2=G) ((0,[[]],lf)) (by refine Le.trans ?_ (Le.looseRow 16 rfl (by show(0:Nat)≠1;decide));exact(by refine Le.trans ?_ (Le.move (i:=8) (T:=16) (T':=900) rfl (by show(0:Nat)≠1;decide) rfl rfl rfl);exact(Le.sub4 rfl (by simp[go_sem,aX,aH,bVs])))) ⟨?_⟩ ?_
 ·refine⟨Nat.zero_le _,fun s hs=>?_,by simp,h0,h1,hG⟩
  obtain rfl:=List.mem_singleton.1 hs
  exact⟨fun b hb=>by simp at hb,by simp⟩
 clear hG h0 h1
 intro⟨i,W,l0⟩ ⟨hi,hW,hWl,h0,h1,hG⟩ AA hAA;simp only[kL,Nat.reduceBEq,Nat.reduceEqDiff,if_true,if_false,List.cons_append,List.nil_append,List.append_nil]
 dsimp only at*
 by_cases hlt:i<B.length
 ·rw[List.drop_eq_getElem_cons hlt]at hG
  have hbz:=hBz _ (List.getElem_mem hlt)
  generalize hb:B[i]=b at*
  by_cases hn:b.neg=true
  ·rw[aD0 (.inl hn)]at hG
   repeat' (first|(refine aC fun _ _=>?_)|refine zHg ?_|(refine(hAA.next ((i+1,W,l0)) (Le.sub4 rfl (by simp[go_sem,aX,aH])) (by(try dsimp only);omega) ?_))|simp(disch:=omega) [go_sem,hlt,hb,hn,aX,aH])
   all_goals(first|omega|skip)
   exact⟨hlt,fun s hs=>⟨(hW s hs).1,by have:=(hW s hs).2;omega⟩,hWl,h0,h1,hG⟩
  ·by_cases hd:b.atom.name=zQ
   ·rw[aD0 (.inr hd)]at hG
    repeat' (first|(refine aC fun _ _=>?_)|refine zHg ?_|(refine(hAA.next ((i+1,W,l0)) (Le.sub4 rfl (by simp[go_sem,aX,aH])) (by(try dsimp only);omega) ?_))|simp(disch:=omega) [go_sem,hlt,hb,hn,hd,aX,aH])
    all_goals(first|omega|skip)
    exact⟨hlt,fun s hs=>⟨(hW s hs).1,by have:=(hW s hs).2;omega⟩,hWl,h0,h1,hG⟩
   ·rw[bVu (fun h=>h.elim hn hd)]at hG
    have hG:rX b.atom A W (B.drop (i+1)) (some [],l0)=G:=hG
    have hAB:=hAA
    repeat' (first|(refine aC fun _ _=>?_)|refine zHg ?_|simp(disch:=omega) [go_sem,hlt,hb,hn,hd,aX,aH])
    refine cL [0,1,2,8,10,18,19,38] [901,1000,10] (fun y:Nat×List (List Bd)×Int=> [(39,nt .i64 y.1),(11,.ref 901 0 y.2.1.length)]) (fun y:Nat×List (List Bd)×Int=> [(901,fK y.2.1),(1000,aX true y.2.2),(10,fJ b.atom)]) (fun y:Nat×List (List Bd)×Int=>W.length - y.1) (fun y:Nat×List (List Bd)×Int=>y.1≤W.length∧kP q M (20*i+20) y.2.1∧y.2.1.length≤5000∧0≤y.2.2∧y.2.2≤1000000∧rX b.atom A (W.drop y.1) (B.drop (i+1)) (some y.2.1,y.2.2)=G) ((0,[],l0)) (by refine Le.trans ?_ (Le.nil (i:=11) (T:=901) (es:=1) rfl);exact(Le.sub4 rfl (by simp[go_sem,aX,aH,fK,fJ,List.map_nil,List.length_nil]))) ⟨?_⟩ ?_
    ·exact⟨Nat.zero_le _,fun s hs=>by simp at hs,by simp,h0,h1,hG⟩
    clear hG h0 h1
    intro⟨k,nx,l1⟩ ⟨hk,hX,hXl,h0,h1,hG⟩ AA hAA;simp only[kL,Nat.reduceBEq,Nat.reduceEqDiff,if_true,if_false,List.cons_append,List.nil_append,List.append_nil]
    dsimp only at*
    have hAC:=hAA
    by_cases hkl:k<W.length
    ·rw[List.drop_eq_getElem_cons hkl,bVw]at hG
     obtain⟨hs1,hs2⟩:=hW _ (List.getElem_mem hkl)
     generalize hs:W[k]=s at*
     repeat' (first|(refine aC fun _ _=>?_)|refine zHg ?_|simp(disch:=omega) [go_sem,hkl,hs,aX,aH,fJ])
     refine cL [0,1,2,8,10,12,18,19,38,39,43] [901,1000,10] (fun z:Nat×List (List Bd)×Int=> [(44,nt .i64 z.1),(11,.ref 901 0 z.2.1.length)]) (fun z:Nat×List (List Bd)×Int=> [(901,fK z.2.1),(1000,aX true z.2.2),(10,fJ b.atom)]) (fun z:Nat×List (List Bd)×Int=>A.length - z.1) (fun z:Nat×List (List Bd)×Int=>z.1≤A.length∧kP q M (20*i+20) z.2.1∧z.2.1.length≤5000∧0≤z.2.2∧z.2.2≤1000000∧rX b.atom A (W.drop (k+1)) (B.drop (i+1)) (gG b.atom s (A.drop z.1) z.2.1 z.2.2)=G) ((0,nx,l1)) (Le.sub4 rfl (by simp[go_sem,aX,aH,fK,fJ])) ⟨?_⟩ ?_
     ·exact⟨Nat.zero_le _,hX,hXl,h0,h1,hG⟩
     clear hG h0 h1 hX hXl
     intro⟨j,nx,l1⟩ ⟨hj,hX,hXl,h0,h1,hG⟩ AA hAA;simp only[kL,Nat.reduceBEq,Nat.reduceEqDiff,if_true,if_false,List.cons_append,List.nil_append,List.append_nil]
     dsimp only at*
     by_cases hjl:j<A.length
     ·rw[List.drop_eq_getElem_cons hjl]at hG
      have ht:=hA _ (List.getElem_mem hjl)
      generalize hta:A[j]=t at*
      by_cases hm1:t.name=b.atom.name
      ·by_cases hm2:t.args.length=b.atom.args.length
       ·have hbb:=aDb b.atom t s ht.1 ht.2 (fun hu=>by
         have h0:t.args.length=0:=by
          unfold lN at hu
          rw[Bool.and_eq_true,decide_eq_true_eq]at hu
          rw[hm2];exact hu.1
         rw[nU,List.eq_nil_of_length_eq_zero h0]
         simp[dV]) hs1
        have hu:=bVr b.atom t s (by omega) (by omega)
        have hout:=bVy (s:=s) (ts:=A.drop (j+1)) (nx:=nx) (lf:=l1) ⟨hm1,hm2⟩
        have hgo:=bVz (s:=s) (ts:=A.drop (j+1)) (nx:=nx) (lf:=l1) ⟨hm1,hm2⟩
        generalize dW b.atom t s=r at*
        obtain⟨s',c⟩:=r
        dsimp only at*
        cases c
        ·have hnx:pJ (s',false) nx=nx:=rfl
         rw[hnx]at hout hgo
         by_cases h5:l1 - 1<0
         ·rw[hout (.inl h5)]at hG
          have hG:(none,l1 - 1)=G:=hG
          subst hG
          repeat' (first|(refine aC fun _ _=>?_)|refine zHg ?_|refine cU rfl (hu) rfl (by simp) ?_|simp(disch:=omega) [go_sem,hjl,hta,hm1,hm2,hkl,hs,h5,aX,aH,fJ]|refine zDr 15 aT ?_|refine zDr 20 aT ?_|fail)
          refine cV ⟨107,[(6,.list false true []),(7,bl false)],[(1000,aX true (l1 - 1)),(1001,aH true A)]⟩ [.list false true [],bl false] (Le.renSub [] [] (by simp[go_sem,aX,aH]) (by simp[go_sem,aX,aH]) (Le.sub4 rfl (by simp[go_sem,aX,aH]))) (by simp[go_sem,aX,aH]) ⟨rfl,rfl⟩
         ·rw[hgo (fun h=>h.elim h5 (by omega))]at hG
          have h6: ¬(5000:Int)<nx.length:=by omega
          repeat' (first|(refine aC fun _ _=>?_)|refine zHg ?_|refine cU rfl (hu) rfl (by simp) ?_|(refine(hAA.next ((j+1,nx,l1 - 1)) (Le.sub4 rfl (by simp[go_sem,aX,aH,fJ])) (by(try dsimp only);omega) ?_))|simp(disch:=omega) [go_sem,hjl,hta,hm1,hm2,hkl,hs,h5,h6,aX,aH,fJ]|refine zDr 15 aT ?_|refine zDr 20 aT ?_|fail)
          all_goals(first|omega|skip)
          exact⟨hjl,hX,hXl,by(try dsimp only);omega,by(try dsimp only);omega,hG⟩
        ·have hnx:pJ (s',true) nx=nx++ [s']:=rfl
         rw[hnx]at hout hgo
         by_cases h5:l1 - 1<0
         ·rw[hout (.inl h5)]at hG
          have hG:(none,l1 - 1)=G:=hG
          subst hG
          repeat' (first|(refine aC fun _ _=>?_)|refine zHg ?_|refine cU rfl (hu) rfl (by simp) ?_|simp(disch:=omega) [go_sem,hjl,hta,hm1,hm2,hkl,hs,h5,aX,aH,fJ]|refine zAo ?_|refine zDr 15 aT ?_|refine zDr 20 aT ?_|fail)
          refine cV ⟨107,[(6,.list false true []),(7,bl false)],[(1000,aX true (l1 - 1)),(1001,aH true A)]⟩ [.list false true [],bl false] (Le.renSub [] [] (by simp[go_sem,aX,aH]) (by simp[go_sem,aX,aH]) (Le.sub4 rfl (by simp[go_sem,aX,aH]))) (by simp[go_sem,aX,aH]) ⟨rfl,rfl⟩
         ·by_cases h6:(5000:Int)<nx.length+1
          ·rw[hout (.inr (by rw[List.length_append];simp;omega))]at hG
           have hG:(none,l1 - 1)=G:=hG
           subst hG
           repeat' (first|(refine aC fun _ _=>?_)|refine zHg ?_|refine cU rfl (hu) rfl (by simp) ?_|simp(disch:=omega) [go_sem,hjl,hta,hm1,hm2,hkl,hs,h5,h6,aX,aH,fJ]|refine zAo ?_|refine zDr 15 aT ?_|refine zDr 20 aT ?_|fail)
           refine cV ⟨107,[(6,.list false true []),(7,bl false)],[(1000,aX true (l1 - 1)),(1001,aH true A)]⟩ [.list false true [],bl false] (Le.renSub [] [] (by simp[go_sem,aX,aH]) (by simp[go_sem,aX,aH]) (Le.sub4 rfl (by simp[go_sem,aX,aH]))) (by simp[go_sem,aX,aH]) ⟨rfl,rfl⟩
          ·rw[hgo (fun h=>h.elim h5 (by rw[List.length_append];simp;omega))]at hG
           repeat' (first|(refine aC fun _ _=>?_)|refine zHg ?_|refine cU rfl (hu) rfl (by simp) ?_|(refine(hAA.next ((j+1,nx++ [s'],l1 - 1)) (Le.sub4 rfl (by simp[go_sem,aX,aH,fJ])) (by(try dsimp only);omega) ?_))|simp(disch:=omega) [go_sem,hjl,hta,hm1,hm2,hkl,hs,h5,h6,aX,aH,fJ]|refine zAo ?_|refine zDr 15 aT ?_|refine zDr 20 aT ?_|fail)
           all_goals(first|omega|skip)
           refine⟨hjl,fun u hu=>?_,by(try dsimp only);rw[List.length_append];simp;omega,by(try dsimp only);omega,by(try dsimp only);omega,hG⟩
           rcases List.mem_append.1 hu with hu|hu
           ·exact hX u hu
           ·obtain rfl:=List.mem_singleton.1 hu
            exact⟨hbb.1,by omega⟩
       ·rw[aD1 (fun h=>hm2 h.2)]at hG
        repeat' (first|(refine aC fun _ _=>?_)|refine zHg ?_|(refine zqn ?_ ?_<;>(intro h;first|(exfalso;omega)|(simp only[h,zT])))|(refine(hAA.next ((j+1,nx,l1)) (Le.sub4 rfl (by simp[go_sem,aX,aH,fJ])) (by(try dsimp only);omega) ?_))|simp(disch:=omega) [go_sem,hjl,hta,hm1,hm2,aX,aH,fJ]|refine zDr 20 aT ?_|fail)
        all_goals(first|omega|skip)
        exact⟨hjl,hX,hXl,h0,h1,hG⟩
      ·rw[aD1 (fun h=>hm1 h.1)]at hG
       repeat' (first|(refine aC fun _ _=>?_)|refine zHg ?_|(refine(hAA.next ((j+1,nx,l1)) (Le.sub4 rfl (by simp[go_sem,aX,aH,fJ])) (by(try dsimp only);omega) ?_))|simp(disch:=omega) [go_sem,hjl,hta,hm1,aX,aH,fJ]|refine zDr 20 aT ?_|fail)
       all_goals(first|omega|skip)
       exact⟨hjl,hX,hXl,h0,h1,hG⟩
     ·obtain rfl:j=A.length:=by omega
      rw[List.drop_length]at hG
      repeat' (first|(refine aC fun _ _=>?_)|refine zHg ?_|(refine(hAC.next ((k+1,nx,l1)) (Le.sub4 rfl (by simp[go_sem,aX,aH,fJ])) (by(try dsimp only);omega) ?_))|simp(disch:=omega) [go_sem,aX,aH,fJ])
      all_goals(first|omega|skip)
      exact⟨hkl,hX,hXl,h0,h1,hG⟩
    ·obtain rfl:k=W.length:=by omega
     rw[List.drop_length,bVx]at hG
     repeat' (first|(refine aC fun _ _=>?_)|refine zHg ?_|(refine(hAB.next ((i+1,nx,l1)) (Le.renSub [(901,900),(900,901)] [(900,901),(901,900)] (by simp[go_sem,aX,aH,fJ]) (by simp[go_sem,aX,aH,fJ]) (Le.sub4 rfl (by simp[go_sem,aX,aH,fJ]))) (by(try dsimp only);omega) ?_))|simp(disch:=omega) [go_sem,aX,aH,fJ])
     all_goals(first|omega|skip)
     exact⟨hlt,fun s hs=>⟨(hX s hs).1,by have:=(hX s hs).2;omega⟩,hXl,h0,h1,hG⟩
 ·obtain rfl:i=B.length:=by omega
  rw[List.drop_length,bVt]at hG
  subst hG
  repeat' (first|(refine aC fun _ _=>?_)|refine zHg ?_|simp(disch:=omega) [go_sem,aX,aH])
  refine cV ⟨107,[(6,.ref 1002 0 W.length),(7,bl true)],[(1002,fK W),(1000,aX true l0),(1001,aH true A)]⟩ [.ref 1002 0 W.length,bl true] (Le.renSub [(900,1002),(1002,900)] [(1002,900),(900,1002)] (by simp[go_sem,aX,aH]) (by simp[go_sem,aX,aH]) (Le.sub4 rfl (by simp[go_sem,aX,aH]))) (by simp[go_sem,aX,aH]) ⟨rfl,rfl⟩
abbrev mO (t:Tm):AV:= .tup [.sc (.string (eA t)),bl true]
abbrev aN (pin:Bool) (A:List Tm):AObj:=⟨true,false,pin,0,A.map mO,1⟩
abbrev aP (pin:Bool) (L:Nat):AObj:=⟨false,false,pin,1,[.mp L],0⟩
abbrev aO (pin:Bool) (L n:Nat):AObj:=⟨false,false,pin,1,[.ref L 0 n],0⟩
abbrev bR (A:List Tm):aF:= [(1000,aP true 1002),(1001,aO true 1003 A.length),(1002,aN true A),(1003,aH true A)]
abbrev cH (A:List Tm):aF:= [(1000,aP true 1002),(1001,aO true 1004 A.length),(1002,aN true A),(1004,aH false A)]
def lP (A:List Tm) (t:Tm):Bool:=A.any fun u=>decide (eA u=eA t)
theorem zV {t:Tm}: ∀{A:List Tm} {i:Nat},lP A t=false→kE (.string (eA t)) (A.map mO) i=some none
 | [],_,_=>rfl
 |u::A,i,h=>by
  unfold lP at h
  rw[List.any_cons,Bool.or_eq_false_iff,decide_eq_false_iff_not]at h
  have e:qW (.string (eA t)) (.string (eA u))=some false:=by
   show some (decide (eA t=eA u))=_
   rw[decide_eq_false (fun h'=>h.1 h'.symm)]
  rw[List.map_cons,kE,e]
  exact zV h.2
theorem aD2 {t:Tm}: ∀{A:List Tm} {i:Nat},lP A t=true→ ∃j,kE (.string (eA t)) (A.map mO) i=some (some (j,bl true))
 | [],_,h=>by cases h
 |u::A,i,h=>by
  unfold lP at h
  rw[List.any_cons,Bool.or_eq_true,decide_eq_true_eq]at h
  have e:qW (.string (eA t)) (.string (eA u))=some (decide (eA t=eA u)):=rfl
  rw[List.map_cons,kE,e]
  by_cases hq:eA t=eA u
  ·rw[decide_eq_true hq];exact⟨i,rfl⟩
  ·rw[decide_eq_false hq]
   exact aD2 (h.resolve_left fun h'=>hq h'.symm)
theorem bV2 {t:Tm} {A:List Tm} (h:lP A t=false):oT (.string (eA t)) (bl true) (A.map mO)=some (A.map mO++ [mO t]):=by
 unfold oT
 rw[zV h]
theorem aD3 {q M:Nat} (hq:q≤1000000) (A:List Tm) (t:Tm) (ho:dK q M t) (hz:eN t≤2305843009213693952) (hd:t.depth≤1000000) (hA:A.length≤1000000) (h:lP A t=true):
 MCall prog 22 [eT t,.ptr 1000 0 0,.ptr 1001 0 0] (bR A) (fun r o'=>r= .tup []∧o'=bR A):=by
 have h1:=N9 t hz
 obtain⟨j,hm⟩:=aD2 (i:=0) h
 generalize eA t=k at*
 refine eM func22 call22 rfl (by simp[ntmps22]) ?_;simp only[ntmps22,results22]
 repeat' (first|(refine aC fun _ _=>?_)|refine zHg ?_|refine aV rfl (h1) (by simp) ?_|simp(disch:=omega) [go_sem,bR,aP,aO,aN,aH,hm])
 refine rI ⟨24,[],bR A⟩ [] (Le.renSub [] [] (by simp[go_sem,bR,aP,aO,aN,aH]) (by simp[go_sem,bR,aP,aO,aN,aH]) (Le.sub4 rfl (by simp[go_sem,bR,aP,aO,aN,aH]))) (by simp[go_sem,bR,aP,aO,aN,aH]) ⟨rfl,rfl⟩
theorem aD4 {q M:Nat} (hq:q≤1000000) (A:List Tm) (t:Tm) (ho:dK q M t) (hz:eN t≤2305843009213693952) (hd:t.depth≤1000000) (hA:A.length≤1000000) (h:lP A t=false) (h4: ¬t.depth≤4):
 MCall prog 22 [eT t,.ptr 1000 0 0,.ptr 1001 0 0] (bR A) (fun r o'=>r= .tup []∧o'=bR A):=by
 have h1:=N9 t hz
 have h2:=aDv hq t ho hd
 have hm:=zV (i:=0) h
 have h4': ¬(t.depth:Int)≤4:=by omega
 generalize eA t=k at*
 refine eM func22 call22 rfl (by simp[ntmps22]) ?_;simp only[ntmps22,results22]
 repeat' (first|(refine aC fun _ _=>?_)|refine zHg ?_|refine aV rfl (h1) (by simp) ?_|refine aV rfl (h2) (by simp) ?_|simp(disch:=omega) [go_sem,bR,aP,aO,aN,aH,hm,h4'])
 refine rI ⟨24,[],bR A⟩ [] (Le.renSub [] [] (by simp[go_sem,bR,aP,aO,aN,aH]) (by simp[go_sem,bR,aP,aO,aN,aH]) (Le.sub4 rfl (by simp[go_sem,bR,aP,aO,aN,aH]))) (by simp[go_sem,bR,aP,aO,aN,aH]) ⟨rfl,rfl⟩
theorem aD5 {q M:Nat} (hq:q≤1000000) (A:List Tm) (t:Tm) (ho:dK q M t) (hz:eN t≤2305843009213693952) (hd:t.depth≤1000000) (hA:A.length≤1000000) (h:lP A t=false) (h4:t.depth≤4):
 MCall prog 22 [eT t,.ptr 1000 0 0,.ptr 1001 0 0] (bR A) (fun r o'=>r= .tup []∧o'=cH (A++ [t])):=by
 have h1:=N9 t hz
 have h2:=aDv hq t ho hd
 have hm:=zV (i:=0) h
 have hp:oT (.string (eA t)) (.sc (.bool true)) (A.map mO)=some (A.map mO++ [mO t]):=bV2 h
 have h4':(t.depth:Int)≤4:=by omega
 have hr:(A++ [t]).map mO=A.map mO++ [mO t]:=by simp
 have hlm:A.length≤140737488355327:=by omega
 have hcs:gL (.agg #[.string ⟨#[]⟩,.slice none 0 0])=some (.agg [.sc (.string ⟨#[]⟩),.list false true []]):=rfl
 have hge: ∀z:AV,(A.map aL++ [z])[A.length]?=some z:=fun z=>by
  rw[List.getElem?_append_right (by simp)];simp
 have hse: ∀z x:AV,(A.map aL++ [z]).set A.length x=A.map aL++ [x]:=fun z x=>by
  rw[List.set_append_right _ _ (by simp)];simp
 refine eM func22 call22 rfl (by simp[ntmps22]) ?_;simp only[ntmps22,results22]
 repeat' (first|(refine aC fun _ _=>?_)|refine zHg ?_|(with_reducible refine dA ?_;first|(exact cX)|(refine zSkip ?_)|(refine cY rfl ?_ ?_))|(with_reducible refine cZ ?_;first|(refine zDone ?_)|(refine aD 0 rfl (by decide+kernel) (by decide+kernel) rfl rfl rfl ?_)|(refine aD 1 rfl (by decide+kernel) (by decide+kernel) rfl rfl rfl ?_)|(refine aD 2 rfl (by decide+kernel) (by decide+kernel) rfl rfl rfl ?_)|(refine aD 5 rfl (by decide+kernel) (by decide+kernel) rfl rfl rfl ?_)|(refine zAll ?_;show cG _ _ _ _ _ _ _))|with_reducible refine dD ?_|refine aV rfl (h1) (by simp) ?_|refine aV rfl (h2) (by simp) ?_|simp(disch:=omega) [go_sem,hge,hse,bR,aP,aO,aN,aH,hm,hp,h4',hlm,hcs]|refine zAo ?_|refine zAny aT ?_|fail)
 all_goals(first|omega|skip)
 all_goals refine rI ⟨24,[],cH (A++ [t])⟩ [] (Le.renSub [(22,1004),(1004,22)] [(1004,22),(22,1004)] (by simp[go_sem,cH,bR,aP,aO,aN,aH,hr]) (by simp[go_sem,cH,bR,aP,aO,aN,aH,hr]) (Le.sub4 rfl (by simp[go_sem,cH,bR,aP,aO,aN,aH,hr]))) (by simp[go_sem,cH,bR,aP,aO,aN,aH,hr]) ⟨rfl,rfl⟩
theorem aD6 {A:List Tm} {t:Tm} (h:lP A t=true):fD A t=A:=by
 unfold fD
 rw[if_neg]
 intro⟨h1,_⟩
 unfold lP at h
 rw[h]at h1;cases h1
theorem aD7 {A:List Tm} {t:Tm} (h: ¬t.depth≤4):fD A t=A:=by
 unfold fD
 rw[if_neg fun h'=>h h'.2]
theorem aD8 {A:List Tm} {t:Tm} (h:lP A t=false) (h':t.depth≤4):fD A t=A++ [t]:=by
 unfold fD
 rw[if_pos ⟨h,h'⟩]
theorem bV3 {α β:Type} {f:β→α→β} {b:β} {l:List α} {i:Nat} (h:i<l.length):(l.take (i+1)).foldl f b=f ((l.take i).foldl f b) l[i]:=by
 rw[iX h,List.foldl_append];rfl
def gQ (A X:List Tm) (i:Nat):List Tm:=(X.take i).foldl fD A
theorem aD9 {A X:List Tm}:gQ A X 0=A:=rfl
theorem aEa {A X:List Tm} {i:Nat} (h:i<X.length):gQ A X (i+1)=fD (gQ A X i) X[i]:=bV3 h
theorem aEb {A X:List Tm}:gQ A X X.length=X.foldl fD A:=by unfold gQ;rw[List.take_length]
theorem zW {A X:List Tm} {i:Nat} (h:i≤X.length):(gQ A X i).length≤A.length+i:=by
 have:=(aDs (X:=X.take i) (A:=A)).2
 rw[List.length_take,Nat.min_eq_left h]at this
 exact this
theorem bV4 {h:Tm} {W:List (List Bd)} {k:Nat} (hk:k<W.length):nD h (W.take (k+1))=nD h (W.take k)++(if(fC h W[k]).2=true then[(fC h W[k]).1]else[]):=by
 unfold nD
 rw[iX hk,List.filterMap_append]
 congr 1
 rw[List.filterMap_cons,List.filterMap_nil]
 split<;>rename_i he
 ·split at he
  ·cases he
  ·rename_i hn;rw[if_neg hn]
 ·split at he
  ·rename_i hy;rw[if_pos hy];obtain rfl:=Option.some.inj he;rfl
  ·cases he
theorem bV5 {A:List Tm} {j:Nat} (h:j<A.length):mN (A.take (j+1))=mN (A.take j)++iO A[j]:=by
 unfold mN
 rw[iX h,List.flatMap_append]
 simp
theorem bV6 {A:List Tm} {m:List Tm} {lf:Int}:nY A [] m lf=(some m,lf):=rfl
theorem bV7 {A:List Tm} {r:Rl} {rs:List Rl} {m:List Tm} {lf:Int}:nY A (r::rs) m lf=match fI A r.body [[]] lf with
 |(some W,lf')=>nY A rs (m++nD r.head W) lf'
 |(none,lf')=>(none,lf'):=by rw[nY];rfl
def O0 (l:List Rl) (f:Nat) (A:List Tm):Option (List Tm)×Int→Bool
 |(some m,lf')=>pK l f A.length ((m++mN A).foldl fD A) lf'
 |(none,_)=>false
theorem bV8 {l:List Rl} {f:Nat} {n:Int} {A:List Tm} {lf:Int} (h:n<A.length∧A.length≤1000):pK l (f+1) n A lf=O0 l f A (nY A l [] lf):=by
 rw[pK,if_pos h]
 generalize nY A l [] lf=R
 obtain⟨x,y⟩:=R
 cases x<;>rfl
theorem aEc {l:List Rl} {f:Nat} {n:Int} {A:List Tm} {lf:Int} (h: ¬(n<A.length∧A.length≤1000)):pK l (f+1) n A lf=decide (A.length≤1000):=by
 rw[pK,if_neg h]
theorem bV9 {q M:Nat} (hq:q≤1000000) (hM:5≤M) (hBG:BG q M≤2305843009213693952) (l:List Rl) (G:List Tm) (fl lg fg:Bool) (hl: ∀r∈l,okR q M r) (hll:l.length≤100) (hG:zU q M G) (hGl:G.length≤1000):
 ACall prog 12 [.list false fl (l.map bZ),.list lg fg (G.map aL)] (fun r=>r=bl (zS l G)):=by
 generalize hV:zS l G=V
 unfold zS at hV
 have hGb: ∀t∈G,eN t≤2305843009213693952:=fun t h=>Nat.le_trans (hG t h).2.1 hBG
 replace hG: ∀t∈G,dK q M t∧eN t≤2305843009213693952∧t.depth≤1000:=fun t h=>⟨(hG t h).1,hGb t h,(hG t h).2.2⟩
 clear hGb
 refine bF func12 call12 rfl (by simp[ntmps12]) ?_;simp only[ntmps12,results12]
 repeat' (first|(refine aC fun _ _=>?_)|refine zHg ?_|simp(disch:=omega) [go_sem])
 refine cL [0,1,5,7,8,26] [7,23,900,6] (fun i:Nat=> [(27,nt .i64 i)]) (fun i:Nat=> [(7,aO false 900 (gQ [] G i).length),(23,aN false (gQ [] G i)),(900,aH false (gQ [] G i)),(6,aP false 23)]) (fun i:Nat=>G.length - i) (fun i:Nat=>i≤G.length) (0) (by refine Le.trans ?_ (Le.nilBox 7 900 2 rfl (by decide) (by decide));exact(Le.sub4 rfl (by simp[go_sem,aO,aN,aH,aP,aD9,List.map_nil,List.length_nil]))) ⟨?_⟩ ?_
 ·exact Nat.zero_le _
 intro i hi AA hAA;simp only[kL,Nat.reduceBEq,Nat.reduceEqDiff,if_true,if_false,List.cons_append,List.nil_append,List.append_nil]
 by_cases hlt:i<G.length
 ·skip
  have hnx:=aEa (A:= []) hlt
  have hAl:(gQ [] G i).length≤0+i:=zW (A:= []) (Nat.le_of_lt hlt)
  have hAo:kQ q M (gQ [] G i):=wI (fun u hu=>by simp at hu) fun u hu=>(hG u (List.mem_of_mem_take hu)).1
  have ht:=hG _ (List.getElem_mem hlt)
  generalize gQ [] G i=Z at*
  generalize hte:G[i]=t at*
  cases hh:lP Z t
  ·by_cases h4:t.depth≤4
   ·have hu:=aD5 hq Z t ht.1 (by omega) (by omega) (by omega) hh h4
    rw[aD8 hh h4]at hnx
    repeat' (first|(refine aC fun _ _=>?_)|refine zHg ?_|simp(disch:=omega) [go_sem,hlt,hte,aO,aN,aH,aP])
    refine bG [(1000,6),(1001,7),(1002,23),(1003,900)] [(6,1000),(7,1001),(23,1002),(900,1003)] 10000 _ _ (Fits.mk' (by simp[go_sem,bR,cH,aO,aN,aH,aP]) (by simp[go_sem,bR,cH,aO,aN,aH,aP])) (by simp[go_sem,bR,cH,aO,aN,aH,aP]) (by simp[go_sem,bR,cH,aO,aN,aH,aP]) (hu) (by simp[go_sem,bR,cH,aO,aN,aH,aP]) (by simp[go_sem,bR,cH,aO,aN,aH,aP]) ?_
    repeat' (first|(refine aC fun _ _=>?_)|refine zHg ?_|(refine(hAA.next (i+1) (Le.renSub [(11004,900),(900,11004)] [(900,11004),(11004,900)] (by simp[go_sem,hnx,aO,aN,aH,aP,cH]) (by simp[go_sem,hnx,aO,aN,aH,aP,cH]) (Le.sub4 rfl (by simp[go_sem,hnx,aO,aN,aH,aP,cH]))) (by(try dsimp only);omega) ?_))|simp(disch:=omega) [go_sem,hlt,hte,aO,aN,aH,aP,cH])
    all_goals(first|omega|skip)
    exact⟨hlt⟩
   ·have hu:=aD4 hq Z t ht.1 (by omega) (by omega) (by omega) hh h4
    rw[aD7 h4]at hnx
    repeat' (first|(refine aC fun _ _=>?_)|refine zHg ?_|simp(disch:=omega) [go_sem,hlt,hte,aO,aN,aH,aP])
    refine bG [(1000,6),(1001,7),(1002,23),(1003,900)] [(6,1000),(7,1001),(23,1002),(900,1003)] 10000 _ _ (Fits.mk' (by simp[go_sem,bR,cH,aO,aN,aH,aP]) (by simp[go_sem,bR,cH,aO,aN,aH,aP])) (by simp[go_sem,bR,cH,aO,aN,aH,aP]) (by simp[go_sem,bR,cH,aO,aN,aH,aP]) (hu) (by simp[go_sem,bR,cH,aO,aN,aH,aP]) (by simp[go_sem,bR,cH,aO,aN,aH,aP]) ?_
    repeat' (first|(refine aC fun _ _=>?_)|refine zHg ?_|(refine(hAA.next (i+1) (Le.sub4 rfl (by simp[go_sem,hnx,aO,aN,aH,aP,bR])) (by(try dsimp only);omega) ?_))|simp(disch:=omega) [go_sem,hlt,hte,aO,aN,aH,aP,bR])
    all_goals(first|omega|skip)
    exact⟨hlt⟩
  ·have hu:=aD3 hq Z t ht.1 (by omega) (by omega) (by omega) hh
   rw[aD6 hh]at hnx
   repeat' (first|(refine aC fun _ _=>?_)|refine zHg ?_|simp(disch:=omega) [go_sem,hlt,hte,aO,aN,aH,aP])
   refine bG [(1000,6),(1001,7),(1002,23),(1003,900)] [(6,1000),(7,1001),(23,1002),(900,1003)] 10000 _ _ (Fits.mk' (by simp[go_sem,bR,cH,aO,aN,aH,aP]) (by simp[go_sem,bR,cH,aO,aN,aH,aP])) (by simp[go_sem,bR,cH,aO,aN,aH,aP]) (by simp[go_sem,bR,cH,aO,aN,aH,aP]) (hu) (by simp[go_sem,bR,cH,aO,aN,aH,aP]) (by simp[go_sem,bR,cH,aO,aN,aH,aP]) ?_
   repeat' (first|(refine aC fun _ _=>?_)|refine zHg ?_|(refine(hAA.next (i+1) (Le.sub4 rfl (by simp[go_sem,hnx,aO,aN,aH,aP,bR])) (by(try dsimp only);omega) ?_))|simp(disch:=omega) [go_sem,hlt,hte,aO,aN,aH,aP,bR])
   all_goals(first|omega|skip)
   exact⟨hlt⟩
 ·obtain rfl:i=G.length:=by omega
  rw[←aEb]at hV
  have hAl:=zW (A:= []) (X:=G) (Nat.le_refl _)
  have hAo:kQ q M (gQ [] G G.length):=wI (fun u hu=>by simp at hu) fun u hu=>(hG u (List.mem_of_mem_take hu)).1
  simp only[List.length_nil,Nat.zero_add]at hAl
  generalize gQ [] G G.length=Z at*
  clear hlt hi
  repeat' (first|(refine aC fun _ _=>?_)|refine zHg ?_|simp(disch:=omega) [go_sem,aO,aN,aH,aP])
  refine cL [0,5,7,8] [7,23,900,22] (fun y:Nat×Int×List Tm×Int=> [(10,nt .i64 y.2.1)]) (fun y:Nat×Int×List Tm×Int=> [(7,aO false 900 y.2.2.1.length),(23,aN false y.2.2.1),(900,aH false y.2.2.1),(22,aX false y.2.2.2)]) (fun y:Nat×Int×List Tm×Int=>(1002 - y.2.1).toNat) (fun y:Nat×Int×List Tm×Int=> -1≤y.2.1∧y.2.1≤1000∧1001≤y.1+y.2.1∧kQ q M y.2.2.1∧y.2.2.1.length≤1000000∧0≤y.2.2.2∧y.2.2.2≤1000000∧pK l (y.1+1) y.2.1 y.2.2.1 y.2.2.2=V) ((1002,-1,Z,1000000)) (Le.sub4 rfl (by simp[go_sem,aO,aN,aH,aP,aX])) ⟨?_⟩ ?_
  ·exact⟨by(try dsimp only);omega,by(try dsimp only);omega,by(try dsimp only);omega,hAo,by(try dsimp only);omega,by(try dsimp only);omega,by(try dsimp only);omega,hV⟩
  clear hV hAo hAl hG
  intro⟨f,n,A,lf⟩ ⟨hn1,hn2,hf,hA,hAl,h0,h1,hV⟩ AA hAA;simp only[kL,Nat.reduceBEq,Nat.reduceEqDiff,if_true,if_false,List.cons_append,List.nil_append,List.append_nil]
  dsimp only at*
  by_cases c1:n<A.length
  ·by_cases c2:(A.length:Int)≤1000
   ·rw[bV8 ⟨c1,by omega⟩]at hV
    have hAB:=hAA
    repeat' (first|(refine aC fun _ _=>?_)|refine zHg ?_|simp(disch:=omega) [go_sem,c1,c2,aO,aN,aH,aP,aX])
    refine cL [0,5,7,8,11,52] [901,22] (fun x:Nat×List Tm×Int=> [(10,nt .i64 A.length),(53,nt .i64 x.1),(12,.ref 901 0 x.2.1.length)]) (fun x:Nat×List Tm×Int=> [(901,aH false x.2.1),(22,aX false x.2.2)]) (fun x:Nat×List Tm×Int=>l.length - x.1) (fun x:Nat×List Tm×Int=>x.1≤l.length∧zU q M x.2.1∧x.2.1.length≤x.1*5000∧0≤x.2.2∧x.2.2≤1000000∧O0 l f A (nY A (l.drop x.1) x.2.1 x.2.2)=V) ((0,[],lf)) (by refine Le.trans ?_ (Le.nil (i:=12) (T:=901) (es:=2) rfl);exact(Le.sub4 rfl (by simp[go_sem,aO,aN,aH,aP,aX,List.map_nil,List.length_nil]))) ⟨?_⟩ ?_
    ·exact⟨Nat.zero_le _,fun t ht=>by simp at ht,by simp,h0,h1,hV⟩
    clear hV h0 h1
    intro⟨i,m,lf⟩ ⟨hi,hm,hml,h0,h1,hV⟩ AA hAA;simp only[kL,Nat.reduceBEq,Nat.reduceEqDiff,if_true,if_false,List.cons_append,List.nil_append,List.append_nil]
    dsimp only at*
    by_cases hil:i<l.length
    ·have hr:=hl _ (List.getElem_mem hil)
     rw[List.drop_eq_getElem_cons hil]at hV
     generalize hre:l[i]=r at*
     rw[bV7]at hV
     have hw:=bV1 A r.body false lf hA hAl hr.2.2.1 (fun b hb=>(hr.2.2.2 b hb).2) h0 h1
     have hwk:=N8 (M:=M) (B:=r.body) (k:=0) (W:= [[]]) hA (fun s hs=>by
      obtain rfl:=List.mem_singleton.1 hs
      exact⟨fun b hb=>by simp at hb,by simp⟩) (by simp) h0
     generalize fI A r.body [[]] lf=R at*
     obtain⟨W,l1⟩:=R
     dsimp only at*
     cases W with
     |none=>
      have hV:false=V:=hV
      subst hV
      have hw2:MCall prog 25 [.ptr 1000 0 0,.list false false (r.body.map bT),.ref 1001 0 A.length] [(1000,aX true lf),(1001,aH true A)] (fun r o'=>r= .tup [.list false true [],bl false]∧o'= [(1000,aX true l1),(1001,aH true A)]):=hw
      repeat' (first|(refine aC fun _ _=>?_)|refine zHg ?_|simp(disch:=omega) [go_sem,hil,hre,aO,aN,aH,aP,aX])
      refine bG [(1000,22),(1001,900)] [(22,1000),(900,1001)] 20000 _ _ (Fits.mk' (by simp[go_sem,aO,aN,aH,aP,aX]) (by simp[go_sem,aO,aN,aH,aP,aX])) (by simp[go_sem,aO,aN,aH,aP,aX]) (by simp[go_sem,aO,aN,aH,aP,aX]) (hw2) (by simp[go_sem,aO,aN,aH,aP,aX]) (by simp[go_sem,aO,aN,aH,aP,aX]) ?_
      repeat' (first|(refine aC fun _ _=>?_)|refine zHg ?_|(refine aU [] ?_;simp[go_sem,hil,hre,aO,aN,aH,aP,aX])|simp(disch:=omega) [go_sem,hil,hre,aO,aN,aH,aP,aX])
     |some W=>
      obtain⟨w1,w2,w3⟩:=hwk
      obtain⟨w3,w4,w5⟩:=w3 W rfl
      have hV:O0 l f A (nY A (l.drop (i+1)) (m++nD r.head W) l1)=V:=hV
      have hw2:MCall prog 25 [.ptr 1000 0 0,.list false false (r.body.map bT),.ref 1001 0 A.length] [(1000,aX true lf),(1001,aH true A)] (fun r o'=>r= .tup [.ref 1002 0 W.length,bl true]∧o'= [(1002,fK W),(1000,aX true l1),(1001,aH true A)]):=hw
      have hAC:=hAA
      repeat' (first|(refine aC fun _ _=>?_)|refine zHg ?_|simp(disch:=omega) [go_sem,hil,hre,aO,aN,aH,aP,aX])
      refine bG [(1000,22),(1001,900)] [(22,1000),(900,1001)] 20000 _ _ (Fits.mk' (by simp[go_sem,aO,aN,aH,aP,aX,fK]) (by simp[go_sem,aO,aN,aH,aP,aX,fK])) (by simp[go_sem,aO,aN,aH,aP,aX,fK]) (by simp[go_sem,aO,aN,aH,aP,aX,fK]) (hw2) (by simp[go_sem,aO,aN,aH,aP,aX,fK]) (by simp[go_sem,aO,aN,aH,aP,aX,fK]) ?_
      repeat' (first|(refine aC fun _ _=>?_)|refine zHg ?_|simp(disch:=omega) [go_sem,hil,hre,aO,aN,aH,aP,aX,fK])
      refine cL [0,5,7,8,10,11,13,14,52,53,70] [901] (fun z:Nat×List Tm=> [(71,nt .i64 z.1),(12,.ref 901 0 z.2.length)]) (fun z:Nat×List Tm=> [(901,aH false z.2)]) (fun z:Nat×List Tm=>W.length - z.1) (fun z:Nat×List Tm=>z.1≤W.length∧z.2=m++nD r.head (W.take z.1)) ((0,m)) (Le.sub4 rfl (by simp[go_sem,aO,aN,aH,aP,aX,fK])) ⟨?_⟩ ?_
      ·exact⟨Nat.zero_le _,by simp[nD]⟩
      intro⟨k,m'⟩ ⟨hk,hm'⟩ AA hAA;simp only[kL,Nat.reduceBEq,Nat.reduceEqDiff,if_true,if_false,List.cons_append,List.nil_append,List.append_nil]
      dsimp only at*
      have hln:m'.length≤m.length+k:=by
       have h2:=bVh (h:=r.head) (W:=W.take k)
       rw[hm',List.length_append]
       rw[List.length_take]at h2
       omega
      by_cases hkl:k<W.length
      ·have hu:=bVn W[k] false false hq r.head hr.1
       have hmn:=bV4 (h:=r.head) hkl
       generalize hs:W[k]=s at*
       generalize fC r.head s=y at*
       obtain⟨u,c⟩:=y
       dsimp only at*
       cases c
       ·repeat' (first|(refine aC fun _ _=>?_)|refine zHg ?_|refine cU rfl (hu) rfl (by simp) ?_|(refine(hAA.next ((k+1,m')) (Le.sub4 rfl (by simp[go_sem,aO,aN,aH,aP,aX,fK])) (by(try dsimp only);omega) ?_))|simp(disch:=omega) [go_sem,hil,hre,hkl,hs,aO,aN,aH,aP,aX,fK]|refine zDr 14 aT ?_|fail)
        all_goals(first|omega|skip)
        exact⟨hkl,by rw[hm',hmn];simp⟩
       ·repeat' (first|(refine aC fun _ _=>?_)|refine zHg ?_|refine cU rfl (hu) rfl (by simp) ?_|(refine(hAA.next ((k+1,m'++ [u])) (Le.sub4 rfl (by simp[go_sem,aO,aN,aH,aP,aX,fK])) (by(try dsimp only);omega) ?_))|simp(disch:=omega) [go_sem,hil,hre,hkl,hs,aO,aN,aH,aP,aX,fK]|refine zAo ?_|refine zDr 14 aT ?_|fail)
        all_goals(first|omega|skip)
        exact⟨hkl,by rw[hm',hmn];simp⟩
      ·obtain rfl:k=W.length:=by omega
       rw[List.take_length]at hm'
       repeat' (first|(refine aC fun _ _=>?_)|refine zHg ?_|(refine(hAC.next ((i+1,m',l1)) (Le.sub4 rfl (by simp[go_sem,aO,aN,aH,aP,aX,fK])) (by(try dsimp only);omega) ?_))|simp(disch:=omega) [go_sem,aO,aN,aH,aP,aX,fK])
       all_goals(first|omega|skip)
       refine⟨hil,fun u hu=>?_,by(try dsimp only);omega,w5,by(try dsimp only);omega,by rw[hm'];exact hV⟩
       rw[hm']at hu
       exact(List.mem_append.1 hu).elim (hm u) (bVg hr.1 hr.2.1 w3 u)
    ·obtain rfl:i=l.length:=by omega
     rw[List.drop_length,bV6]at hV
     have hV:pK l f A.length ((m++mN A).foldl fD A) lf=V:=hV
     repeat' (first|(refine aC fun _ _=>?_)|refine zHg ?_|simp(disch:=omega) [go_sem,aO,aN,aH,aP,aX])
     refine cL [0,5,7,8,10,11,95] [901] (fun z:Nat×List Tm=> [(96,nt .i64 z.1),(12,.ref 901 0 z.2.length)]) (fun z:Nat×List Tm=> [(901,aH false z.2)]) (fun z:Nat×List Tm=>A.length - z.1) (fun z:Nat×List Tm=>z.1≤A.length∧z.2=m++mN (A.take z.1)) ((0,m)) (Le.sub4 rfl (by simp[go_sem,aO,aN,aH,aP,aX])) ⟨?_⟩ ?_
     ·exact⟨Nat.zero_le _,by simp[mN]⟩
     intro⟨j,m'⟩ ⟨hj,hm'⟩ AA hAA;simp only[kL,Nat.reduceBEq,Nat.reduceEqDiff,if_true,if_false,List.cons_append,List.nil_append,List.append_nil]
     dsimp only at*
     have hln:m'.length≤m.length+j:=by
      have h2:=aDr (A.take j)
      rw[hm',List.length_append]
      rw[List.length_take]at h2
      omega
     by_cases hjl:j<A.length
     ·have hen:=bV5 hjl
      generalize hta:A[j]=t at*
      by_cases e1:t.args.length=1
      ·have e1': ¬t.args.length=2:=by omega
       by_cases e2:t.name=aDm
       ·have hx:iO t= [.mk wH t.args]:=by unfold iO;rw[if_pos ⟨e1,.inl e2⟩]
        repeat' (first|(refine aC fun _ _=>?_)|refine zHg ?_|(refine(hAA.next ((j+1,m'++ [.mk wH t.args])) (Le.sub4 rfl (by simp[go_sem,aO,aN,aH,aP,aX])) (by(try dsimp only);omega) ?_))|simp(disch:=omega) [go_sem,hjl,hta,e1,e2,aO,aN,aH,aP,aX]|refine zAo ?_|fail)
        all_goals(first|omega|skip)
        exact⟨hjl,by rw[hm',hen,hx];simp⟩
       ·by_cases e3:t.name=aDn
        ·have hx:iO t= [.mk wH t.args]:=by unfold iO;rw[if_pos ⟨e1,.inr e3⟩]
         repeat' (first|(refine aC fun _ _=>?_)|refine zHg ?_|(refine(hAA.next ((j+1,m'++ [.mk wH t.args])) (Le.sub4 rfl (by simp[go_sem,aO,aN,aH,aP,aX])) (by(try dsimp only);omega) ?_))|simp(disch:=omega) [go_sem,hjl,hta,e1,e2,e3,aO,aN,aH,aP,aX]|refine zAo ?_|fail)
         all_goals(first|omega|skip)
         exact⟨hjl,by rw[hm',hen,hx];simp⟩
        ·have hx:iO t= []:=by unfold iO;rw[if_neg (fun h=>h.2.elim e2 e3),if_neg (fun h=>e1' h.1)]
         repeat' (first|(refine aC fun _ _=>?_)|refine zHg ?_|(refine(hAA.next ((j+1,m')) (Le.sub4 rfl (by simp[go_sem,aO,aN,aH,aP,aX])) (by(try dsimp only);omega) ?_))|simp(disch:=omega) [go_sem,hjl,hta,e1,e1',e2,e3,aO,aN,aH,aP,aX])
         all_goals(first|omega|skip)
         exact⟨hjl,by rw[hm',hen,hx];simp⟩
      ·by_cases e2:t.args.length=2
       ·by_cases e3:t.name=aDo
        ·have hx:iO t= [.mk N6 t.args]:=by unfold iO;rw[if_neg (fun h=>e1 h.1),if_pos ⟨e2,e3⟩]
         repeat' (first|(refine aC fun _ _=>?_)|refine zHg ?_|(refine(hAA.next ((j+1,m'++ [.mk N6 t.args])) (Le.sub4 rfl (by simp[go_sem,aO,aN,aH,aP,aX])) (by(try dsimp only);omega) ?_))|simp(disch:=omega) [go_sem,hjl,hta,e1,e2,e3,aO,aN,aH,aP,aX]|refine zAo ?_|fail)
         all_goals(first|omega|skip)
         exact⟨hjl,by rw[hm',hen,hx];simp⟩
        ·have hx:iO t= []:=by unfold iO;rw[if_neg (fun h=>e1 h.1),if_neg (fun h=>e3 h.2)]
         repeat' (first|(refine aC fun _ _=>?_)|refine zHg ?_|(refine(hAA.next ((j+1,m')) (Le.sub4 rfl (by simp[go_sem,aO,aN,aH,aP,aX])) (by(try dsimp only);omega) ?_))|simp(disch:=omega) [go_sem,hjl,hta,e1,e2,e3,aO,aN,aH,aP,aX])
         all_goals(first|omega|skip)
         exact⟨hjl,by rw[hm',hen,hx];simp⟩
       ·have hx:iO t= []:=by unfold iO;rw[if_neg (fun h=>e1 h.1),if_neg (fun h=>e2 h.1)]
        repeat' (first|(refine aC fun _ _=>?_)|refine zHg ?_|(refine zgd ?_ ?_<;>(intro h;first|(exfalso;omega)|(simp only[h,zT])))|(refine(hAA.next ((j+1,m')) (Le.sub4 rfl (by simp[go_sem,aO,aN,aH,aP,aX])) (by(try dsimp only);omega) ?_))|simp(disch:=omega) [go_sem,hjl,hta,e1,e2,aO,aN,aH,aP,aX])
        all_goals(first|omega|skip)
        exact⟨hjl,by rw[hm',hen,hx];simp⟩
     ·obtain rfl:j=A.length:=by omega
      rw[List.take_length]at hm'
      rw[←hm']at hV
      have hX: ∀t∈m',dK q M t∧eN t≤2305843009213693952∧t.depth≤1000:=fun t h=>by
       rw[hm']at h
       have:=(List.mem_append.1 h).elim (hm t) (bVk hM hA t)
       exact⟨this.1,Nat.le_trans this.2.1 hBG,this.2.2⟩
      obtain⟨g,rfl⟩: ∃g,f=g+1:=⟨f - 1,by omega⟩
      generalize m'=X at*
      clear hm' hm
      repeat' (first|(refine aC fun _ _=>?_)|refine zHg ?_|simp(disch:=omega) [go_sem,aO,aN,aH,aP,aX])
      refine cL [0,5,7,8,10,12,159] [7,23,900] (fun z:Nat=> [(160,nt .i64 z)]) (fun z:Nat=> [(7,aO false 900 (gQ A X z).length),(23,aN false (gQ A X z)),(900,aH false (gQ A X z))]) (fun z:Nat=>X.length - z) (fun z:Nat=>z≤X.length) (0) (Le.sub4 rfl (by simp[go_sem,aO,aN,aH,aP,aX,aD9])) ⟨?_⟩ ?_
      ·exact Nat.zero_le _
      intro z hz AA hAA;simp only[kL,Nat.reduceBEq,Nat.reduceEqDiff,if_true,if_false,List.cons_append,List.nil_append,List.append_nil]
      by_cases hlt:z<X.length
      ·skip
       have hnx:=aEa (A:=A) hlt
       have hAl:=zW (A:=A) (Nat.le_of_lt hlt)
       have hAo:kQ q M (gQ A X z):=wI hA fun u hu=>(hX u (List.mem_of_mem_take hu)).1
       have ht:=hX _ (List.getElem_mem hlt)
       generalize gQ A X z=Z at*
       generalize hte:X[z]=t at*
       cases hh:lP Z t
       ·by_cases h4:t.depth≤4
        ·have hu:=aD5 hq Z t ht.1 (by omega) (by omega) (by omega) hh h4
         rw[aD8 hh h4]at hnx
         repeat' (first|(refine aC fun _ _=>?_)|refine zHg ?_|simp(disch:=omega) [go_sem,hlt,hte,aO,aN,aH,aP])
         refine bG [(1000,6),(1001,7),(1002,23),(1003,900)] [(6,1000),(7,1001),(23,1002),(900,1003)] 40000 _ _ (Fits.mk' (by simp[go_sem,bR,cH,aO,aN,aH,aP]) (by simp[go_sem,bR,cH,aO,aN,aH,aP])) (by simp[go_sem,bR,cH,aO,aN,aH,aP]) (by simp[go_sem,bR,cH,aO,aN,aH,aP]) (hu) (by simp[go_sem,bR,cH,aO,aN,aH,aP]) (by simp[go_sem,bR,cH,aO,aN,aH,aP]) ?_
         repeat' (first|(refine aC fun _ _=>?_)|refine zHg ?_|(refine(hAA.next (z+1) (Le.renSub [(41004,900),(900,41004)] [(900,41004),(41004,900)] (by simp[go_sem,hnx,aO,aN,aH,aP,cH]) (by simp[go_sem,hnx,aO,aN,aH,aP,cH]) (Le.sub4 rfl (by simp[go_sem,hnx,aO,aN,aH,aP,cH]))) (by(try dsimp only);omega) ?_))|simp(disch:=omega) [go_sem,hlt,hte,aO,aN,aH,aP,cH])
         all_goals(first|omega|skip)
         exact⟨hlt⟩
        ·have hu:=aD4 hq Z t ht.1 (by omega) (by omega) (by omega) hh h4
         rw[aD7 h4]at hnx
         repeat' (first|(refine aC fun _ _=>?_)|refine zHg ?_|simp(disch:=omega) [go_sem,hlt,hte,aO,aN,aH,aP])
         refine bG [(1000,6),(1001,7),(1002,23),(1003,900)] [(6,1000),(7,1001),(23,1002),(900,1003)] 40000 _ _ (Fits.mk' (by simp[go_sem,bR,cH,aO,aN,aH,aP]) (by simp[go_sem,bR,cH,aO,aN,aH,aP])) (by simp[go_sem,bR,cH,aO,aN,aH,aP]) (by simp[go_sem,bR,cH,aO,aN,aH,aP]) (hu) (by simp[go_sem,bR,cH,aO,aN,aH,aP]) (by simp[go_sem,bR,cH,aO,aN,aH,aP]) ?_
         repeat' (first|(refine aC fun _ _=>?_)|refine zHg ?_|(refine(hAA.next (z+1) (Le.sub4 rfl (by simp[go_sem,hnx,aO,aN,aH,aP,bR])) (by(try dsimp only);omega) ?_))|simp(disch:=omega) [go_sem,hlt,hte,aO,aN,aH,aP,bR])
         all_goals(first|omega|skip)
         exact⟨hlt⟩
       ·have hu:=aD3 hq Z t ht.1 (by omega) (by omega) (by omega) hh
        rw[aD6 hh]at hnx
        repeat' (first|(refine aC fun _ _=>?_)|refine zHg ?_|simp(disch:=omega) [go_sem,hlt,hte,aO,aN,aH,aP])
        refine bG [(1000,6),(1001,7),(1002,23),(1003,900)] [(6,1000),(7,1001),(23,1002),(900,1003)] 40000 _ _ (Fits.mk' (by simp[go_sem,bR,cH,aO,aN,aH,aP]) (by simp[go_sem,bR,cH,aO,aN,aH,aP])) (by simp[go_sem,bR,cH,aO,aN,aH,aP]) (by simp[go_sem,bR,cH,aO,aN,aH,aP]) (hu) (by simp[go_sem,bR,cH,aO,aN,aH,aP]) (by simp[go_sem,bR,cH,aO,aN,aH,aP]) ?_
        repeat' (first|(refine aC fun _ _=>?_)|refine zHg ?_|(refine(hAA.next (z+1) (Le.sub4 rfl (by simp[go_sem,hnx,aO,aN,aH,aP,bR])) (by(try dsimp only);omega) ?_))|simp(disch:=omega) [go_sem,hlt,hte,aO,aN,aH,aP,bR])
        all_goals(first|omega|skip)
        exact⟨hlt⟩
      ·obtain rfl:z=X.length:=by omega
       have hAl2:=zW (A:=A) (X:=X) (Nat.le_refl _)
       have hAo:=wI hA fun u hu=>(hX u hu).1
       rw[aEb]at*
       repeat' (first|(refine aC fun _ _=>?_)|refine zHg ?_|(refine(hAB.next ((g,A.length,X.foldl fD A,lf)) (Le.sub4 rfl (by simp[go_sem,aO,aN,aH,aP,aX])) (by(try dsimp only);omega) ?_))|simp(disch:=omega) [go_sem,aO,aN,aH,aP,aX])
       all_goals(first|omega|skip)
       exact⟨by(try dsimp only);omega,by(try dsimp only);omega,by(try dsimp only);omega,hAo,by(try dsimp only);omega,h0,h1,hV⟩
   ·rw[aEc (fun h=>c2 (by omega)),decide_eq_false (fun h=>c2 (by omega))]at hV
    subst hV
    repeat' (first|(refine aC fun _ _=>?_)|refine zHg ?_|(refine aU [] ?_;simp[go_sem,c1,c2,aO,aN,aH,aP,aX])|simp(disch:=omega) [go_sem,c1,c2,aO,aN,aH,aP,aX])
  ·rw[aEc (fun h=>c1 h.1)]at hV
   by_cases c2:A.length≤1000
   ·rw[decide_eq_true c2]at hV
    subst hV
    have c3:(A.length:Int)≤1000:=by omega
    repeat' (first|(refine aC fun _ _=>?_)|refine zHg ?_|(refine aU [] ?_;simp[go_sem,c1,c3,aO,aN,aH,aP,aX])|simp(disch:=omega) [go_sem,c1,c3,aO,aN,aH,aP,aX])
   ·rw[decide_eq_false c2]at hV
    subst hV
    have c3: ¬(A.length:Int)≤1000:=by omega
    repeat' (first|(refine aC fun _ _=>?_)|refine zHg ?_|(refine aU [] ?_;simp[go_sem,c1,c3,aO,aN,aH,aP,aX])|simp(disch:=omega) [go_sem,c1,c3,aO,aN,aH,aP,aX])
end Go.Proofs.YtbgckcdddlmiaaaDoor
