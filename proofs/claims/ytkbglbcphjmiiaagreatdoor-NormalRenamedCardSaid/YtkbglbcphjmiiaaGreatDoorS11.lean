import Derived.Test.YtkbglbcphjmiiaaGreatDoorS10
set_option linter.unusedSimpArgs false
set_option linter.unusedVariables false
open Go.Proofs.Tryz
namespace Go.Proofs.YtkbglbcphjmiiaaGreatDoor
open Go.Ab
set_option maxRecDepth 100000
set_option maxHeartbeats 16000000
abbrev eBs (s:List Bd):AV:= .list false false (s.map bK)
abbrev bG (pin:Bool) (lf:Int):AObj:=⟨false,false,pin,1,[.agg [nt .i64 lf]],0⟩
abbrev aO (pin:Bool) (A:List Tm):AObj:=⟨true,false,pin,2,A.map bO,0⟩
abbrev gV (a:Tm):AObj:=⟨false,false,false,2,[eT a],0⟩
theorem cI6:Ab.loose (.list false true [])=eBs []:=rfl
abbrev gW (W:List (List Bd)):AObj:=⟨true,false,false,1,W.map eBs,0⟩
theorem cI7 {A:List Tm} {W:List (List Bd)} {lf:Int}:gU A [] W lf=(some W,lf):=rfl
theorem aH2 {A:List Tm} {b:Lt} {bs:List Lt} {W:List (List Bd)} {lf:Int} (h:b.neg=true∨b.atom.name=J4):gU A (b::bs) W lf=gU A bs W lf:=by rw[gU,if_pos h]
theorem cI8 {A:List Tm} {b:Lt} {bs:List Lt} {W:List (List Bd)} {lf:Int} (h: ¬(b.neg=true∨b.atom.name=J4)):gU A (b::bs) W lf=match oB b.atom A W [] lf with
 |(some nx,lf')=>gU A bs nx lf'
 |(none,lf')=>(none,lf'):=by rw[gU,if_neg h];rfl
def uO (a:Tm) (A:List Tm) (ss:List (List Bd)) (B:List Lt):Option (List (List Bd))×Int→Option (List (List Bd))×Int
 |(some nx,lf)=>match oB a A ss nx lf with
  |(some nx',lf')=>gU A B nx' lf'
  |(none,lf')=>(none,lf')
 |(none,lf)=>(none,lf)
theorem cI9 {a:Tm} {A:List Tm} {s:List Bd} {ss nx:List (List Bd)} {lf:Int}:oB a A (s::ss) nx lf=match iK a s A nx lf with
 |(some nx',lf')=>oB a A ss nx' lf'
 |(none,lf')=>(none,lf'):=by rw[oB];rfl
theorem cJa {a:Tm} {A:List Tm} {s:List Bd} {ss nx:List (List Bd)} {B:List Lt} {lf:Int}:uO a A (s::ss) B (some nx,lf)=uO a A ss B (iK a s A nx lf):=by
 rw[uO,cI9]
 generalize iK a s A nx lf=r
 obtain⟨x,l⟩:=r
 cases x<;>rfl
theorem cJb {a:Tm} {A:List Tm} {nx:List (List Bd)} {B:List Lt} {lf:Int}:uO a A [] B (some nx,lf)=gU A B nx lf:=rfl
theorem aH3 {a:Tm} {s:List Bd} {t:Tm} {ts:List Tm} {nx:List (List Bd)} {lf:Int} (h: ¬(t.name=a.name∧t.args.length=a.args.length)):iK a s (t::ts) nx lf=iK a s ts nx lf:=by rw[iK,if_neg h]
theorem cJc {a:Tm} {s:List Bd} {t:Tm} {ts:List Tm} {nx:List (List Bd)} {lf:Int} (h:t.name=a.name∧t.args.length=a.args.length) (h':lf - 1<0∨5000<(rD (eX a t s) nx).length):iK a s (t::ts) nx lf=(none,lf - 1):=by rw[iK,if_pos h,if_pos h']
theorem cJd {a:Tm} {s:List Bd} {t:Tm} {ts:List Tm} {nx:List (List Bd)} {lf:Int} (h:t.name=a.name∧t.args.length=a.args.length) (h': ¬(lf - 1<0∨5000<(rD (eX a t s) nx).length)):iK a s (t::ts) nx lf=iK a s ts (rD (eX a t s) nx) (lf - 1):=by rw[iK,if_pos h,if_neg h']
def wyX (A:List Tm) (r:AV) (o':aF):Option (List (List Bd))×Int→Prop
 |(some W,lf)=>r= .tup [.ref 1002 0 W.length,bl true]∧o'= [(1002,gW W),(1000,bG true lf),(1001,aO true A)]
 |(none,lf)=>r= .tup [.list false true [],bl false]∧o'= [(1000,bG true lf),(1001,aO true A)]
theorem cJf {q M:Nat} (A:List Tm) (B:List Lt) (fb:Bool) (lf:Int) (hA:mE q M A) (hAl:A.length≤1000000) (hB:B.length≤8) (hBz: ∀b∈B,b.atom.size≤20) (h0:0≤lf) (h1:lf≤1000000):
 MCall prog 90 [.ptr 1000 0 0,.list false fb (B.map bW),.ref 1001 0 A.length] [(1000,bG true lf),(1001,aO true A)] (fun r o'=>wyX A r o' (gU A B [[]] lf)):=by
 generalize hG:gU A B [[]] lf=G
 refine cL func90 call90 rfl (by simp[ntmps90]) ?_;simp only[ntmps90,results90]
 repeat' (first|(refine aC fun _ _=>?_)|refine zHg ?_|simp(disch:=omega) [go_sem,bG,aO])
 refine bR [0,1,2,18] [900,1000,16] (fun x:Nat×List (List Bd)×Int=> [(19,nt .i64 x.1),(8,.ref 900 0 x.2.1.length)]) (fun x:Nat×List (List Bd)×Int=> [(900,gW x.2.1),(1000,bG true x.2.2)]) (fun x:Nat×List (List Bd)×Int=>B.length - x.1) (fun x:Nat×List (List Bd)×Int=>x.1≤B.length∧mD q M (20*x.1) x.2.1∧x.2.1.length≤5000∧0≤x.2.2∧x.2.2≤1000000∧gU A (B.drop x.1) x.2.1 x.2.2=G) ((0,[[]],lf)) (by refine Le.trans ?_ (Le.looseRow 16 rfl (by show(0:Nat)≠1;decide));exact(by refine Le.trans ?_ (Le.move (i:=8) (T:=16) (T':=900) rfl (by show(0:Nat)≠1;decide) rfl rfl rfl);exact(Le.sub4 rfl (by simp[go_sem,bG,aO,cI6])))) ⟨?_⟩ ?_
 ·refine⟨Nat.zero_le _,fun s hs=>?_,by simp,h0,h1,hG⟩
  obtain rfl:=List.mem_singleton.1 hs
  exact⟨fun b hb=>by simp at hb,by simp⟩
 clear hG h0 h1
 intro⟨i,W,l0⟩ ⟨hi,hW,hWl,h0,h1,hG⟩ AA hAA;simp only[kL,Nat.reduceBEq,Nat.reduceEqDiff,if_true,if_false,List.cons_append,List.nil_append,List.append_nil]
 dsimp only at*
 by_cases hlt:i<B.length
 ·rw[List.drop_eq_getElem_cons hlt]at hG
  have hbz:=hBz _ (List.getElem_mem hlt)
  generalize hb:B[i]=b at*
  by_cases hn:b.neg=true
  ·rw[aH2 (.inl hn)]at hG
   repeat' (first|(refine aC fun _ _=>?_)|refine zHg ?_|(refine(hAA.next ((i+1,W,l0)) (Le.sub4 rfl (by simp[go_sem,bG,aO])) (by(try dsimp only);omega) ?_))|simp(disch:=omega) [go_sem,hlt,hb,hn,bG,aO])
   all_goals(first|omega|skip)
   exact⟨hlt,fun s hs=>⟨(hW s hs).1,by have:=(hW s hs).2;omega⟩,hWl,h0,h1,hG⟩
  ·by_cases hd:b.atom.name=J4
   ·rw[aH2 (.inr hd)]at hG
    repeat' (first|(refine aC fun _ _=>?_)|refine zHg ?_|(refine(hAA.next ((i+1,W,l0)) (Le.sub4 rfl (by simp[go_sem,bG,aO])) (by(try dsimp only);omega) ?_))|simp(disch:=omega) [go_sem,hlt,hb,hn,hd,bG,aO])
    all_goals(first|omega|skip)
    exact⟨hlt,fun s hs=>⟨(hW s hs).1,by have:=(hW s hs).2;omega⟩,hWl,h0,h1,hG⟩
   ·rw[cI8 (fun h=>h.elim hn hd)]at hG
    have hG:uO b.atom A W (B.drop (i+1)) (some [],l0)=G:=hG
    have hAB:=hAA
    repeat' (first|(refine aC fun _ _=>?_)|refine zHg ?_|simp(disch:=omega) [go_sem,hlt,hb,hn,hd,bG,aO])
    refine bR [0,1,2,8,10,18,19,38] [901,1000,10] (fun y:Nat×List (List Bd)×Int=> [(39,nt .i64 y.1),(11,.ref 901 0 y.2.1.length)]) (fun y:Nat×List (List Bd)×Int=> [(901,gW y.2.1),(1000,bG true y.2.2),(10,gV b.atom)]) (fun y:Nat×List (List Bd)×Int=>W.length - y.1) (fun y:Nat×List (List Bd)×Int=>y.1≤W.length∧mD q M (20*i+20) y.2.1∧y.2.1.length≤5000∧0≤y.2.2∧y.2.2≤1000000∧uO b.atom A (W.drop y.1) (B.drop (i+1)) (some y.2.1,y.2.2)=G) ((0,[],l0)) (by refine Le.trans ?_ (Le.nil (i:=11) (T:=901) (es:=1) rfl);exact(Le.sub4 rfl (by simp[go_sem,bG,aO,gW,gV,List.map_nil,List.length_nil]))) ⟨?_⟩ ?_
    ·exact⟨Nat.zero_le _,fun s hs=>by simp at hs,by simp,h0,h1,hG⟩
    clear hG h0 h1
    intro⟨k,nx,l1⟩ ⟨hk,hX,hXl,h0,h1,hG⟩ AA hAA;simp only[kL,Nat.reduceBEq,Nat.reduceEqDiff,if_true,if_false,List.cons_append,List.nil_append,List.append_nil]
    dsimp only at*
    have hAC:=hAA
    by_cases hkl:k<W.length
    ·rw[List.drop_eq_getElem_cons hkl,cJa]at hG
     obtain⟨hs1,hs2⟩:=hW _ (List.getElem_mem hkl)
     generalize hs:W[k]=s at*
     repeat' (first|(refine aC fun _ _=>?_)|refine zHg ?_|simp(disch:=omega) [go_sem,hkl,hs,bG,aO,gV])
     refine bR [0,1,2,8,10,12,18,19,38,39,43] [901,1000,10] (fun z:Nat×List (List Bd)×Int=> [(44,nt .i64 z.1),(11,.ref 901 0 z.2.1.length)]) (fun z:Nat×List (List Bd)×Int=> [(901,gW z.2.1),(1000,bG true z.2.2),(10,gV b.atom)]) (fun z:Nat×List (List Bd)×Int=>A.length - z.1) (fun z:Nat×List (List Bd)×Int=>z.1≤A.length∧mD q M (20*i+20) z.2.1∧z.2.1.length≤5000∧0≤z.2.2∧z.2.2≤1000000∧uO b.atom A (W.drop (k+1)) (B.drop (i+1)) (iK b.atom s (A.drop z.1) z.2.1 z.2.2)=G) ((0,nx,l1)) (Le.sub4 rfl (by simp[go_sem,bG,aO,gW,gV])) ⟨?_⟩ ?_
     ·exact⟨Nat.zero_le _,hX,hXl,h0,h1,hG⟩
     clear hG h0 h1 hX hXl
     intro⟨j,nx,l1⟩ ⟨hj,hX,hXl,h0,h1,hG⟩ AA hAA;simp only[kL,Nat.reduceBEq,Nat.reduceEqDiff,if_true,if_false,List.cons_append,List.nil_append,List.append_nil]
     dsimp only at*
     by_cases hjl:j<A.length
     ·rw[List.drop_eq_getElem_cons hjl]at hG
      have ht:=hA _ (List.getElem_mem hjl)
      generalize hta:A[j]=t at*
      by_cases hm1:t.name=b.atom.name
      ·by_cases hm2:t.args.length=b.atom.args.length
       ·have hbb:=aF9 b.atom t s ht.1 ht.2 (fun hu=>by
         have h0:t.args.length=0:=by
          unfold mX at hu
          rw[Bool.and_eq_true,decide_eq_true_eq]at hu
          rw[hm2];exact hu.1
         rw[pS,List.eq_nil_of_length_eq_zero h0]
         simp[eV]) hs1
        have hu:=cI5 b.atom t s (by omega) (by omega)
        have hout:=cJc (s:=s) (ts:=A.drop (j+1)) (nx:=nx) (lf:=l1) ⟨hm1,hm2⟩
        have hgo:=cJd (s:=s) (ts:=A.drop (j+1)) (nx:=nx) (lf:=l1) ⟨hm1,hm2⟩
        generalize eX b.atom t s=r at*
        obtain⟨s',c⟩:=r
        dsimp only at*
        cases c
        ·have hnx:rD (s',false) nx=nx:=rfl
         rw[hnx]at hout hgo
         by_cases h5:l1 - 1<0
         ·rw[hout (.inl h5)]at hG
          have hG:(none,l1 - 1)=G:=hG
          subst hG
          repeat' (first|(refine aC fun _ _=>?_)|refine zHg ?_|refine cP rfl (hu) rfl (by simp) ?_|simp(disch:=omega) [go_sem,hjl,hta,hm1,hm2,hkl,hs,h5,bG,aO,gV]|refine zDr 15 bE ?_|refine zDr 20 bE ?_|fail)
          refine cS ⟨107,[(6,.list false true []),(7,bl false)],[(1000,bG true (l1 - 1)),(1001,aO true A)]⟩ [.list false true [],bl false] (Le.renSub [] [] (by simp[go_sem,bG,aO]) (by simp[go_sem,bG,aO]) (Le.sub4 rfl (by simp[go_sem,bG,aO]))) (by simp[go_sem,bG,aO]) ⟨rfl,rfl⟩
         ·rw[hgo (fun h=>h.elim h5 (by omega))]at hG
          have h6: ¬(5000:Int)<nx.length:=by omega
          repeat' (first|(refine aC fun _ _=>?_)|refine zHg ?_|refine cP rfl (hu) rfl (by simp) ?_|(refine(hAA.next ((j+1,nx,l1 - 1)) (Le.sub4 rfl (by simp[go_sem,bG,aO,gV])) (by(try dsimp only);omega) ?_))|simp(disch:=omega) [go_sem,hjl,hta,hm1,hm2,hkl,hs,h5,h6,bG,aO,gV]|refine zDr 15 bE ?_|refine zDr 20 bE ?_|fail)
          all_goals(first|omega|skip)
          exact⟨hjl,hX,hXl,by(try dsimp only);omega,by(try dsimp only);omega,hG⟩
        ·have hnx:rD (s',true) nx=nx++ [s']:=rfl
         rw[hnx]at hout hgo
         by_cases h5:l1 - 1<0
         ·rw[hout (.inl h5)]at hG
          have hG:(none,l1 - 1)=G:=hG
          subst hG
          repeat' (first|(refine aC fun _ _=>?_)|refine zHg ?_|refine cP rfl (hu) rfl (by simp) ?_|simp(disch:=omega) [go_sem,hjl,hta,hm1,hm2,hkl,hs,h5,bG,aO,gV]|refine zAo ?_|refine zDr 15 bE ?_|refine zDr 20 bE ?_|fail)
          refine cS ⟨107,[(6,.list false true []),(7,bl false)],[(1000,bG true (l1 - 1)),(1001,aO true A)]⟩ [.list false true [],bl false] (Le.renSub [] [] (by simp[go_sem,bG,aO]) (by simp[go_sem,bG,aO]) (Le.sub4 rfl (by simp[go_sem,bG,aO]))) (by simp[go_sem,bG,aO]) ⟨rfl,rfl⟩
         ·by_cases h6:(5000:Int)<nx.length+1
          ·rw[hout (.inr (by rw[List.length_append];simp;omega))]at hG
           have hG:(none,l1 - 1)=G:=hG
           subst hG
           repeat' (first|(refine aC fun _ _=>?_)|refine zHg ?_|refine cP rfl (hu) rfl (by simp) ?_|simp(disch:=omega) [go_sem,hjl,hta,hm1,hm2,hkl,hs,h5,h6,bG,aO,gV]|refine zAo ?_|refine zDr 15 bE ?_|refine zDr 20 bE ?_|fail)
           refine cS ⟨107,[(6,.list false true []),(7,bl false)],[(1000,bG true (l1 - 1)),(1001,aO true A)]⟩ [.list false true [],bl false] (Le.renSub [] [] (by simp[go_sem,bG,aO]) (by simp[go_sem,bG,aO]) (Le.sub4 rfl (by simp[go_sem,bG,aO]))) (by simp[go_sem,bG,aO]) ⟨rfl,rfl⟩
          ·rw[hgo (fun h=>h.elim h5 (by rw[List.length_append];simp;omega))]at hG
           repeat' (first|(refine aC fun _ _=>?_)|refine zHg ?_|refine cP rfl (hu) rfl (by simp) ?_|(refine(hAA.next ((j+1,nx++ [s'],l1 - 1)) (Le.sub4 rfl (by simp[go_sem,bG,aO,gV])) (by(try dsimp only);omega) ?_))|simp(disch:=omega) [go_sem,hjl,hta,hm1,hm2,hkl,hs,h5,h6,bG,aO,gV]|refine zAo ?_|refine zDr 15 bE ?_|refine zDr 20 bE ?_|fail)
           all_goals(first|omega|skip)
           refine⟨hjl,fun u hu=>?_,by(try dsimp only);rw[List.length_append];simp;omega,by(try dsimp only);omega,by(try dsimp only);omega,hG⟩
           rcases List.mem_append.1 hu with hu|hu
           ·exact hX u hu
           ·obtain rfl:=List.mem_singleton.1 hu
            exact⟨hbb.1,by omega⟩
       ·rw[aH3 (fun h=>hm2 h.2)]at hG
        repeat' (first|(refine aC fun _ _=>?_)|refine zHg ?_|(refine zqn ?_ ?_<;>(intro h;first|(exfalso;omega)|(simp only[h,zT])))|(refine(hAA.next ((j+1,nx,l1)) (Le.sub4 rfl (by simp[go_sem,bG,aO,gV])) (by(try dsimp only);omega) ?_))|simp(disch:=omega) [go_sem,hjl,hta,hm1,hm2,bG,aO,gV]|refine zDr 20 bE ?_|fail)
        all_goals(first|omega|skip)
        exact⟨hjl,hX,hXl,h0,h1,hG⟩
      ·rw[aH3 (fun h=>hm1 h.1)]at hG
       repeat' (first|(refine aC fun _ _=>?_)|refine zHg ?_|(refine(hAA.next ((j+1,nx,l1)) (Le.sub4 rfl (by simp[go_sem,bG,aO,gV])) (by(try dsimp only);omega) ?_))|simp(disch:=omega) [go_sem,hjl,hta,hm1,bG,aO,gV]|refine zDr 20 bE ?_|fail)
       all_goals(first|omega|skip)
       exact⟨hjl,hX,hXl,h0,h1,hG⟩
     ·obtain rfl:j=A.length:=by omega
      rw[List.drop_length]at hG
      repeat' (first|(refine aC fun _ _=>?_)|refine zHg ?_|(refine(hAC.next ((k+1,nx,l1)) (Le.sub4 rfl (by simp[go_sem,bG,aO,gV])) (by(try dsimp only);omega) ?_))|simp(disch:=omega) [go_sem,bG,aO,gV])
      all_goals(first|omega|skip)
      exact⟨hkl,hX,hXl,h0,h1,hG⟩
    ·obtain rfl:k=W.length:=by omega
     rw[List.drop_length,cJb]at hG
     repeat' (first|(refine aC fun _ _=>?_)|refine zHg ?_|(refine(hAB.next ((i+1,nx,l1)) (Le.renSub [(901,900),(900,901)] [(900,901),(901,900)] (by simp[go_sem,bG,aO,gV]) (by simp[go_sem,bG,aO,gV]) (Le.sub4 rfl (by simp[go_sem,bG,aO,gV]))) (by(try dsimp only);omega) ?_))|simp(disch:=omega) [go_sem,bG,aO,gV])
     all_goals(first|omega|skip)
     exact⟨hlt,fun s hs=>⟨(hX s hs).1,by have:=(hX s hs).2;omega⟩,hXl,h0,h1,hG⟩
 ·obtain rfl:i=B.length:=by omega
  rw[List.drop_length,cI7]at hG
  subst hG
  repeat' (first|(refine aC fun _ _=>?_)|refine zHg ?_|simp(disch:=omega) [go_sem,bG,aO])
  refine cS ⟨107,[(6,.ref 1002 0 W.length),(7,bl true)],[(1002,gW W),(1000,bG true l0),(1001,aO true A)]⟩ [.ref 1002 0 W.length,bl true] (Le.renSub [(900,1002),(1002,900)] [(1002,900),(900,1002)] (by simp[go_sem,bG,aO]) (by simp[go_sem,bG,aO]) (Le.sub4 rfl (by simp[go_sem,bG,aO]))) (by simp[go_sem,bG,aO]) ⟨rfl,rfl⟩
abbrev oG (t:Tm):AV:= .tup [.sc (.string (fD t)),bl true]
abbrev aZ (pin:Bool) (A:List Tm):AObj:=⟨true,false,pin,0,A.map oG,1⟩
abbrev bB (pin:Bool) (L:Nat):AObj:=⟨false,false,pin,1,[.mp L],0⟩
abbrev bA (pin:Bool) (L n:Nat):AObj:=⟨false,false,pin,1,[.ref L 0 n],0⟩
abbrev cG (A:List Tm):aF:= [(1000,bB true 1002),(1001,bA true 1003 A.length),(1002,aZ true A),(1003,aO true A)]
abbrev cW (A:List Tm):aF:= [(1000,bB true 1002),(1001,bA true 1004 A.length),(1002,aZ true A),(1004,aO false A)]
def nD (A:List Tm) (t:Tm):Bool:=A.any fun u=>decide (fD u=fD t)
theorem K5 {t:Tm}: ∀{A:List Tm} {i:Nat},nD A t=false→jG (.string (fD t)) (A.map oG) i=some none
 | [],_,_=>rfl
 |u::A,i,h=>by
  unfold nD at h
  rw[List.any_cons,Bool.or_eq_false_iff,decide_eq_false_iff_not]at h
  have e:qP (.string (fD t)) (.string (fD u))=some false:=by
   show some (decide (fD t=fD u))=_
   rw[decide_eq_false (fun h'=>h.1 h'.symm)]
  rw[List.map_cons,jG,e]
  exact K5 h.2
theorem aH4 {t:Tm}: ∀{A:List Tm} {i:Nat},nD A t=true→ ∃j,jG (.string (fD t)) (A.map oG) i=some (some (j,bl true))
 | [],_,h=>by cases h
 |u::A,i,h=>by
  unfold nD at h
  rw[List.any_cons,Bool.or_eq_true,decide_eq_true_eq]at h
  have e:qP (.string (fD t)) (.string (fD u))=some (decide (fD t=fD u)):=rfl
  rw[List.map_cons,jG,e]
  by_cases hq:fD t=fD u
  ·rw[decide_eq_true hq];exact⟨i,rfl⟩
  ·rw[decide_eq_false hq]
   exact aH4 (h.resolve_left fun h'=>hq h'.symm)
theorem cJg {t:Tm} {A:List Tm} (h:nD A t=false):nQ (.string (fD t)) (bl true) (A.map oG)=some (A.map oG++ [oG t]):=by
 unfold nQ
 rw[K5 h]
theorem aH5 {q M:Nat} (hq:q≤1000000) (A:List Tm) (t:Tm) (ho:eE q M t) (hz:fP t≤2305843009213693952) (hd:t.depth≤1000000) (hA:A.length≤1000000) (h:nD A t=true):
 MCall prog 87 [eT t,.ptr 1000 0 0,.ptr 1001 0 0] (cG A) (fun r o'=>r= .tup []∧o'=cG A):=by
 have h1:=Z1 t hz
 obtain⟨j,hm⟩:=aH4 (i:=0) h
 generalize fD t=k at*
 refine cL func87 call87 rfl (by simp[ntmps87]) ?_;simp only[ntmps87,results87]
 repeat' (first|(refine aC fun _ _=>?_)|refine zHg ?_|refine aP rfl (h1) (by simp) ?_|simp(disch:=omega) [go_sem,cG,bB,bA,aZ,aO,hm])
 refine eR ⟨24,[],cG A⟩ [] (Le.renSub [] [] (by simp[go_sem,cG,bB,bA,aZ,aO]) (by simp[go_sem,cG,bB,bA,aZ,aO]) (Le.sub4 rfl (by simp[go_sem,cG,bB,bA,aZ,aO]))) (by simp[go_sem,cG,bB,bA,aZ,aO]) ⟨rfl,rfl⟩
theorem aH6 {q M:Nat} (hq:q≤1000000) (A:List Tm) (t:Tm) (ho:eE q M t) (hz:fP t≤2305843009213693952) (hd:t.depth≤1000000) (hA:A.length≤1000000) (h:nD A t=false) (h4: ¬t.depth≤4):
 MCall prog 87 [eT t,.ptr 1000 0 0,.ptr 1001 0 0] (cG A) (fun r o'=>r= .tup []∧o'=cG A):=by
 have h1:=Z1 t hz
 have h2:=aG5 hq t ho hd
 have hm:=K5 (i:=0) h
 have h4': ¬(t.depth:Int)≤4:=by omega
 generalize fD t=k at*
 refine cL func87 call87 rfl (by simp[ntmps87]) ?_;simp only[ntmps87,results87]
 repeat' (first|(refine aC fun _ _=>?_)|refine zHg ?_|refine aP rfl (h1) (by simp) ?_|refine aP rfl (h2) (by simp) ?_|simp(disch:=omega) [go_sem,cG,bB,bA,aZ,aO,hm,h4'])
 refine eR ⟨24,[],cG A⟩ [] (Le.renSub [] [] (by simp[go_sem,cG,bB,bA,aZ,aO]) (by simp[go_sem,cG,bB,bA,aZ,aO]) (Le.sub4 rfl (by simp[go_sem,cG,bB,bA,aZ,aO]))) (by simp[go_sem,cG,bB,bA,aZ,aO]) ⟨rfl,rfl⟩
theorem aH7 {q M:Nat} (hq:q≤1000000) (A:List Tm) (t:Tm) (ho:eE q M t) (hz:fP t≤2305843009213693952) (hd:t.depth≤1000000) (hA:A.length≤1000000) (h:nD A t=false) (h4:t.depth≤4):
 MCall prog 87 [eT t,.ptr 1000 0 0,.ptr 1001 0 0] (cG A) (fun r o'=>r= .tup []∧o'=cW (A++ [t])):=by
 have h1:=Z1 t hz
 have h2:=aG5 hq t ho hd
 have hm:=K5 (i:=0) h
 have hp:nQ (.string (fD t)) (.sc (.bool true)) (A.map oG)=some (A.map oG++ [oG t]):=cJg h
 have h4':(t.depth:Int)≤4:=by omega
 have hr:(A++ [t]).map oG=A.map oG++ [oG t]:=by simp
 have hlm:A.length≤140737488355327:=by omega
 have hcs:iQ (.agg #[.string ⟨#[]⟩,.slice none 0 0])=some (.agg [.sc (.string ⟨#[]⟩),.list false true []]):=rfl
 have hge: ∀z:AV,(A.map bO++ [z])[A.length]?=some z:=fun z=>by
  rw[List.getElem?_append_right (by simp)];simp
 have hse: ∀z x:AV,(A.map bO++ [z]).set A.length x=A.map bO++ [x]:=fun z x=>by
  rw[List.set_append_right _ _ (by simp)];simp
 refine cL func87 call87 rfl (by simp[ntmps87]) ?_;simp only[ntmps87,results87]
 repeat' (first|(refine aC fun _ _=>?_)|refine zHg ?_|refine aP rfl (h1) (by simp) ?_|refine aP rfl (h2) (by simp) ?_|simp(disch:=omega) [go_sem,hge,hse,cG,bB,bA,aZ,aO,hm,hp,h4',hlm,hcs]|refine zAo ?_|refine zAny bE ?_|refine gH ?_|refine zDone ?_|refine bI 2 rfl (by decide+kernel) (by decide+kernel) rfl rfl rfl ?_|refine bI 5 rfl (by decide+kernel) (by decide+kernel) rfl rfl rfl ?_|(refine zAll ?_;show eN _ _ _ _ _ _ _)|exact gI|refine zSkip ?_|refine gJ rfl ?_ ?_)
 all_goals(first|omega|skip)
 all_goals refine eR ⟨24,[],cW (A++ [t])⟩ [] (Le.renSub [(22,1004),(1004,22)] [(1004,22),(22,1004)] (by simp[go_sem,cW,cG,bB,bA,aZ,aO,hr]) (by simp[go_sem,cW,cG,bB,bA,aZ,aO,hr]) (Le.sub4 rfl (by simp[go_sem,cW,cG,bB,bA,aZ,aO,hr]))) (by simp[go_sem,cW,cG,bB,bA,aZ,aO,hr]) ⟨rfl,rfl⟩
theorem K6 {f:ByteArray→ByteArray}: ∀t:Tm,(dP f t).size=t.size:=by
 refine dS fun t ih=>?_
 obtain⟨n,ts⟩:=t
 simp only[cT]at ih
 rw[oX]
 split
 ·rename_i h0
  obtain rfl:=List.eq_nil_of_length_eq_zero h0
  rw[iA,iA];rfl
 ·rw[iA,iA,cT,cT]
  congr 1
  have key: ∀l:List Tm,(∀u∈l,(dP f u).size=u.size)→cU (l.map (dP f))=cU l:=by
   intro l
   induction l with
   |nil=>intro _;rfl
   |cons t q ihq=>
    intro h
    simp only[List.map_cons,cU]
    rw[h t (by simp),ihq fun u hu=>h u (by simp[hu])]
  exact key ts ih
theorem aH8 {r:Rl} (h:SzR r):SzR (eU r):=by
 obtain⟨f,_,e⟩:=aGv r
 rw[e]
 refine⟨?_,?_,fun b hb=>?_⟩
 ·show(dP f r.head).size≤20
  rw[K6];exact h.head
 ·have:=sL (c:=bU) (fK f r).body
  have e2:(fK f r).body.length=r.body.length:=by unfold fK;simp
  have:=h.body
  show(eH bU (fK f r).body).length≤12
  omega
 ·have hm:b∈(fK f r).body:=(sK oV _ _).1 hb
  obtain⟨b0,hb0,rfl⟩:=List.mem_map.1 hm
  show(dP f b0.atom).size≤20
  rw[K6];exact h.atom b0 hb0
def fI (O:List Rl) (x:Rl):List Rl:=if x∈O then O else O++ [x]
def eM (l:List Rl) (i:Nat):List Rl:=((l.take i).map eU).foldl fI []
theorem cJh {l:List Rl} {i:Nat} (h:i<l.length):eM l (i+1)=fI (eM l i) (eU l[i]):=by
 unfold eM
 rw[iT h,List.map_append,List.foldl_append];rfl
theorem Z8: ∀(l O:List Rl),O.Nodup→(l.foldl fI O).Nodup∧ ∀x,x∈l.foldl fI O↔x∈O∨x∈l
 | [],O,h=>⟨h,fun x=>by simp⟩
 |y::l,O,h=>by
  have h1:(fI O y).Nodup∧ ∀x,x∈fI O y↔x∈O∨x=y:=by
   unfold fI
   split
   ·rename_i hc
    exact⟨h,fun x=>⟨.inl,fun q=>q.elim id fun e=>e▸hc⟩⟩
   ·rename_i hc
    refine⟨List.nodup_append.2 ⟨h,by simp,fun a ha b hb=>?_⟩,fun x=>by simp⟩
    simp only[List.mem_singleton]at hb
    subst hb
    rintro rfl
    exact hc ha
  obtain⟨h2,h3⟩:=Z8 l (fI O y) h1.1
  refine⟨h2,fun x=>?_⟩
  rw[List.foldl_cons,h3 x,h1.2 x,List.mem_cons]
  constructor
  ·rintro((e|e)|e)<;>simp[e]
  ·rintro(e|e|e)<;>simp[e]
theorem cJi (l:List Rl) (i:Nat):(eM l i).Nodup:=(Z8 _ [] List.nodup_nil).1
theorem aH9 {l:List Rl} {i:Nat} {x:Rl}:x∈eM l i↔x∈(l.take i).map eU:=by
 unfold eM
 rw[(Z8 _ [] List.nodup_nil).2 x]
 simp
theorem cJj {l m:List Rl} (hp:m.Perm (eM l l.length)) (hs:SrtOn dJ m 0 (eM l l.length).length):m=K1 l:=by
 have hn:m.Nodup:=hp.nodup_iff.2 (cJi l _)
 refine yW qZ (List.pairwise_iff_getElem.2 fun i j hi hj hij=>?_) (uB qZ _) fun x=>?_
 ·have h1:=hs i j m[i] m[j] (Nat.zero_le _) hij (by rw[←hp.length_eq];exact hj) (List.getElem?_eq_getElem hi) (List.getElem?_eq_getElem hj)
  rcases Int.lt_or_eq_of_le h1 with h|h
  ·exact h
  ·exact absurd ((qZ.zero _ _).1 h) (List.pairwise_iff_getElem.1 hn i j hi hj hij)
 ·rw[hp.mem_iff,aH9,List.take_length]
  exact(sK qZ _ x).symm
theorem aIa: ∀{l:List Rl} {i:Nat} (h:i<l.length),(∀(k:Nat) (hk:k<l.length),k<i→dB l[k]=0)→dB l[i]≠0→qC l=dB l[i]
 |r::q,0,_,_,hn=>by
  show qC (r::q)=dB r
  rw[qC,if_neg (show ¬dB r=0 from hn)]
 |r::q,i+1,h,h0,hn=>by
  have h1:dB r=0:=h0 0 (by simp) (by omega)
  rw[qC,if_pos h1]
  exact aIa (l:=q) (i:=i) (by simpa using h) (fun k hk hki=>h0 (k+1) (by simpa using hk) (by omega)) hn
abbrev rJ (x:Rl):AV:= .tup [.sc (.string (fE x)),bl true]
theorem Z9 {x:Rl}: ∀{A:List Rl} {i:Nat},(∀u∈A,fE u≠fE x)→jG (.string (fE x)) (A.map rJ) i=some none
 | [],_,_=>rfl
 |u::A,i,h=>by
  have e:qP (.string (fE x)) (.string (fE u))=some false:=by
   show some (decide (fE x=fE u))=_
   rw[decide_eq_false (fun h'=>h u (by simp) h'.symm)]
  rw[List.map_cons,jG,e]
  exact Z9 fun v hv=>h v (by simp[hv])
theorem aIb {x:Rl}: ∀{A:List Rl} {i:Nat},x∈A→ ∃j,jG (.string (fE x)) (A.map rJ) i=some (some (j,bl true))
 | [],_,h=>by simp at h
 |u::A,i,h=>by
  have e:qP (.string (fE x)) (.string (fE u))=some (decide (fE x=fE u)):=rfl
  rw[List.map_cons,jG,e]
  by_cases hq:fE x=fE u
  ·rw[decide_eq_true hq];exact⟨i,rfl⟩
  ·rw[decide_eq_false hq]
   rcases List.mem_cons.1 h with rfl|h
   ·exact absurd rfl hq
   ·exact aIb h
theorem cJk {x:Rl} {A:List Rl} (h: ∀u∈A,fE u≠fE x):nQ (.string (fE x)) (bl true) (A.map rJ)=some (A.map rJ++ [rJ x]):=by
 unfold nQ
 rw[Z9 h]
def aAa (l:List Rl):AV:=if sP l=0 then .own 3 ((K1 l).map bN)else .list false true []
theorem cJl (l:List Rl) (le fu:Bool) (hl:l.length≤100) (hd: ∀i,(eM l i).length≤12) (hz: ∀r∈l,SzR r):ACall prog 20 [.list le fu (l.map bN)] (fun v=>v= .tup [aAa l,nt .i64 (sP l)]):=by
 have h128: ¬(128:Int)<l.length:=by omega
 have hE:sP l=qC l:=by unfold sP;rw[if_neg (by omega)]
 have hgo:(∀r∈l,dB r=0)→sP l=0:=fun h=>by rw[hE];exact aHn.2 h
 have hbad: ∀(i:Nat) (h:i<l.length),(∀(k:Nat) (hk:k<l.length),k<i→dB l[k]=0)→dB l[i]≠0→sP l=dB l[i]:=fun i h h0 hn=>by rw[hE];exact aIa h h0 hn
 have hz0:eM l 0= []:=rfl
 unfold aAa
 generalize sP l=e at*
 refine bD func20 call20 rfl (by simp[ntmps20]) ?_;simp only[ntmps20,results20]
 repeat' (first|(refine aC fun _ _=>?_)|refine zHg ?_|simp(disch:=omega) [go_sem,h128])
 refine bR [4,15,16] [900,14] (fun i:Nat=> [(17,nt .i64 i),(5,.ref 900 0 (eM l i).length)]) (fun i:Nat=> [(900,⟨true,false,false,3,(eM l i).map bN,0⟩),(14,⟨true,false,false,0,(eM l i).map rJ,1⟩)]) (fun i:Nat=>l.length - i) (fun i:Nat=>i≤l.length∧ ∀(k:Nat) (hk:k<l.length),k<i→dB l[k]=0) (0) (by refine Le.trans ?_ (Le.nil (i:=5) (T:=900) (es:=3) rfl);exact(Le.sub4 rfl (by simp[go_sem,hz0,List.map_nil]))) ⟨?_⟩ ?_
 ·exact⟨Nat.zero_le _,fun k _ hk=>absurd hk (Nat.not_lt_zero _)⟩
 intro i ⟨hi,hn⟩ AA hAA;simp only[kL,Nat.reduceBEq,Nat.reduceEqDiff,if_true,if_false,List.cons_append,List.nil_append,List.append_nil]
 by_cases hlt:i<l.length
 ·have hzi:=hz _ (List.getElem_mem hlt)
  have hr:=sQ l[i] hzi
  have hnx:=cJh hlt
  have hdi:=hd i
  have hbd:=hbad i hlt hn
  have hn':dB l[i]=0→ ∀(k:Nat) (hk:k<l.length),k<i+1→dB l[k]=0:=fun h k hk hki=>by
   rcases Nat.lt_or_eq_of_le (Nat.le_of_lt_succ hki)with h'|rfl
   ·exact hn k hk h'
   ·exact h
  by_cases he:dB l[i]=0
  ·have htx:=cI1 (eU l[i]) (rI.1 (Z4 he).1).1 (aH8 hzi)
   have hne: ∀u∈eM l i,u≠eU l[i]→fE u≠fE (eU l[i]):=fun u hu hne hh=>by
    obtain⟨r,hr,rfl⟩:=List.mem_map.1 (aH9.1 hu)
    rw[List.mem_take_iff_getElem]at hr
    obtain⟨k,hk,rfl⟩:=hr
    have hk0:=hn k (by omega) (by omega)
    refine hne (cIv (rI.1 (Z4 hk0).1).1 (rI.1 (Z4 he).1).1 ?_)
    have h2:=congrArg (fun z:ByteArray=>z.data.toList) hh
    simpa[fE]using h2
   have hnr:iD l[i]=eU l[i]:=by unfold iD;rw[if_pos he]
   rw[hnr,he]at hr
   have hn':=hn' he
   have hag:i+1≤l.length:=hlt
   clear hbd hgo hbad
   generalize eU l[i]=x at*
   generalize eM l i=O at*
   by_cases hx:x∈O
   ·obtain⟨j,hm⟩:=aIb (i:=0) hx
    have hO:fI O x=O:=by unfold fI;rw[if_pos hx]
    rw[hO]at hnx
    generalize fE x=s at*
    repeat' (first|(refine aC fun _ _=>?_)|refine zHg ?_|refine aP rfl (hr) (by simp) ?_|refine aP rfl (htx) (by simp) ?_|(refine(hAA.next (i+1) (Le.sub4 rfl (by simp[go_sem,hnx])) (by(try dsimp only);omega) ?_))|simp(disch:=omega) [go_sem,hlt,hm])
    all_goals(first|omega|skip)
    all_goals exact⟨hag,hn'⟩
   ·have hO:fI O x=O++ [x]:=by unfold fI;rw[if_neg hx]
    have hnk: ∀u∈O,fE u≠fE x:=fun u hu=>hne u hu fun e=>hx (e▸hu)
    have hm:=Z9 (i:=0) hnk
    have hp:nQ (.string (fE x)) (.sc (.bool true)) (O.map rJ)=some (O.map rJ++ [rJ x]):=cJk hnk
    have hlm:O.length≤140737488355327:=by omega
    rw[hO]at hnx
    clear hne hnk
    generalize fE x=s at*
    repeat' (first|(refine aC fun _ _=>?_)|refine zHg ?_|refine aP rfl (hr) (by simp) ?_|refine aP rfl (htx) (by simp) ?_|(refine(hAA.next (i+1) (Le.sub4 rfl (by simp[go_sem,hnx])) (by(try dsimp only);omega) ?_))|simp(disch:=omega) [go_sem,hlt,hm,hp,hlm]|refine zAo ?_|fail)
    all_goals(first|omega|skip)
    all_goals exact⟨hag,hn'⟩
  ·have hbd:=hbd he
   have hnr:iD l[i]=zR:=by unfold iD;rw[if_neg he]
   rw[hnr]at hr
   generalize dB l[i]=f at*
   subst hbd
   rw[if_neg he]
   repeat' (first|(refine aC fun _ _=>?_)|refine zHg ?_|(refine aT [] ?_;simp[go_sem,hlt,he])|refine aP rfl (hr) (by simp) ?_|simp(disch:=omega) [go_sem,hlt,he])
 ·obtain rfl:i=l.length:=by omega
  have h0:=hgo fun r hr=>by
   obtain⟨k,hk,rfl⟩:=List.mem_iff_getElem.1 hr
   exact hn k hk hk
  subst h0
  rw[if_pos rfl]
  have hs:=cHi 12 dJ qZ.pre (eM l l.length) (hd _) (fun x _ y _=>qA x y false false false false)
  have hrl:=fun m h1 h2=>cJj (l:=l) (m:=m) h1 h2
  generalize eM l l.length=O at*
  repeat' (first|(refine aC fun _ _=>?_)|refine zHg ?_|simp(disch:=omega) [go_sem])
  refine qW [(1000,900)] [(900,1000)] 10000 _ _ (Fits.mk' (by simp[go_sem]) (by simp[go_sem])) (by simp[go_sem]) (by simp[go_sem]) (hs) (by simp[go_sem]) (by intros;simp[go_sem]) ?_;intro m hm
  have hml:O.length=m.length:=hm.1.length_eq.symm
  have hmr:=hrl m hm.1 hm.2
  repeat' (first|(refine aC fun _ _=>?_)|refine zHg ?_|(refine aT [] ?_;simp[go_sem,hml])|simp(disch:=omega) [go_sem,hml])
  all_goals rw[hmr]
end Go.Proofs.YtkbglbcphjmiiaaGreatDoor
