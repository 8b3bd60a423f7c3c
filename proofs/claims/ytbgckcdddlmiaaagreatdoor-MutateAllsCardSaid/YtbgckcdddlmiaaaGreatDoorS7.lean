import Derived.Test.YtbgckcdddlmiaaaGreatDoorS6
import Derived.Test.YtbgckcdddlmiaaaGreatDoorS5
set_option linter.unusedSectionVars false
set_option linter.unusedSimpArgs false
set_option linter.unusedVariables false
open Go.Proofs.Tryz
namespace Go.Proofs.YtbgckcdddlmiaaaGreatDoor
open Go.Ab
variable [Glob prog]
set_option maxRecDepth 100000
set_option maxHeartbeats 8000000
theorem bKk (l:List Tm):(fP l).length<=l.length:=by
 have h1:(fP l).Nodup:=by
  refine List.Pairwise.imp (fun {a b} h=>?_) (T1 l)
  rintro rfl
  rw[uZ]at h;omega
 exact List.Nodup.length_le_of_subset h1 fun x hx=>(T2 l x).1 hx
def pH (s:ByteArray):AV:= .agg [.sc (.string s),.list false true []]
theorem bKl {F:Bool->aY} {loc:Nat->Option LI} {S:List ByteArray} {a b:Bool} {v:Value} (h:RV F loc (.list a b (S.map pH)) v):RV F loc (.list a b ((S.map eF).map aI)) v:=by
 have hg: ∀(i:Nat) (y:AV),((S.map eF).map aI)[i]?=some y-> ∃s,(S.map pH)[i]?=some (pH s)/\y= .agg [.sc (.string s),.list false false []]:=fun i y hy=>by
  simp only[List.getElem?_map,Option.map_eq_some_iff]at hy
  obtain⟨t,⟨s,hs,rfl⟩,rfl⟩:=hy
  exact⟨s,by simp[hs],rfl⟩
 have hl:((S.map eF).map aI).length=(S.map pH).length:=by simp
 generalize hx:S.map pH=xs at h hg hl
 cases h with
 |nil=>
  have:(S.map eF).map aI= []:=List.eq_nil_of_length_eq_zero hl
  rw[this];exact .nil
 | @list _ _ _ _ _ _ o o' cap es f h1 h2 h3 h4 h5 h6 h7 h8=>
  rw[<-hl]
  have hcell: ∀(i:Nat) (y:AV) (j:Nat) (z:AV),((S.map eF).map aI)[i]?=some y->y.cells[j]?=some z-> ∃s y' z',xs[i]?=some y'/\y'.cells[j]?=some z'/\(∀(F:Bool->aY) (loc:Nat->Option LI) (v:Value),RV F loc z' v->RV F loc z v):=fun i y j z hy hz=>by
   obtain⟨s,h,rfl⟩:=hg i y hy
   rcases j with _|_|j
   ·simp[AV.cells]at hz;subst hz
    exact⟨s,_,.sc (.string s),h,rfl,fun _ _ _ h=>h⟩
   ·simp[AV.cells]at hz;subst hz
    exact⟨s,_,.list false true [],h,rfl,fun _ _ _ h=>h.void rfl⟩
   ·simp[AV.cells]at hz
  refine .list (es:=es) (f:=f) (o:=o) (fun y hy=>?_) (by rw[hl];exact h2) (by rw[hl];exact h3) (fun h=>by rw[hl];exact h4 h) (fun hne=>h5 fun e=>hne ?_) (fun i y j z hy hz=>?_) (fun i y j z hy hz=>?_) (fun i y j z hy hz=>?_)
  ·obtain⟨i,hi,rfl⟩:=List.mem_iff_getElem.1 hy
   obtain⟨s,h,e⟩:=hg i _ (List.getElem?_eq_getElem hi)
   rw[e]
   have:=h1 _ (List.mem_of_getElem? h)
   simpa[AV.cells,pH]using this
  ·apply List.eq_nil_of_length_eq_zero
   rw[hl,e];rfl
  ·obtain⟨s,y',z',h,hz',_⟩:=hcell i y j z hy hz
   exact h6 i y' j z' h hz'
  ·obtain⟨s,y',z',h,hz',hr⟩:=hcell i y j z hy hz
   exact hr _ _ _ (h7 i y' j z' h hz')
  ·obtain⟨s,y',z',h,hz',_⟩:=hcell i y j z hy hz
   exact h8 i y' j z' h hz'
theorem bKm (S:List ByteArray) (a b:Bool) (hb:S.length<=1000000):ACall prog 67 [.list a b (S.map pH)] (fun r=>r= .list false false ((fP (S.map eF)).map aI)):=by
 refine(bIb (S.map eF) a b (by rw[List.length_map];exact hb)).args rfl fun F i p q v hp hq h=>?_
 rcases i with _|i
 ·simp at hp hq;subst hp;subst hq
  have:=bKl h
  simpa using this
 ·simp at hp
def nN (S:List Tm) (k:Nat):List ByteArray:=(S.take k).map Tm.name
theorem bKn (S:List Tm):nN S 0= []:=rfl
theorem bKo (S:List Tm):nN S S.length=S.map Tm.name:=by unfold nN;rw[List.take_length]
theorem bKp {S:List Tm} {k:Nat} (h:k<S.length):nN S (k+1)=nN S k++ [S[k].name]:=by
 unfold nN;rw[fC h,List.map_append];rfl
theorem bKq {S:List Tm} {k:Nat} (h:k<=S.length):(nN S k).length=k:=by unfold nN;simp;omega
theorem bKr (l:List Tm) (le fu:Bool) (hb:(eD l).length<=1000000):ACall prog 31 [.list le fu (l.map aI)] (fun r=>r= .own 1 ((rQ l).map bG)):=by
 have hge:=U2 l
 obtain⟨S,hS⟩: ∃S,S=fP ((aW l).map eF):=⟨_,rfl⟩
 have hcst:rQ l=nN S S.length:=by rw[bKo,hS];rfl
 rw[hcst]
 clear hcst
 refine ACall.own_nil ?_
 refine aU func31 call31 rfl (by simp[ntmps31]) ?_;simp only[ntmps31,results31]
 repeat' (first|(refine aC fun _ _=>?_)|refine zHg ?_|simp(disch:=omega) [go_sem])
 refine bS [0,10] [900] (fun i:Nat=> [(11,nt .i64 i),(3,.ref 900 0 (aW (l.take i)).length)]) (fun i:Nat=> [(900,⟨true,false,false,2,(aW (l.take i)).map pH,0⟩)]) (fun i:Nat=>l.length - i) (fun i:Nat=>i<=l.length) (0) (by refine Le.trans ?_ (Le.nil (i:=3) (T:=900) (es:=2) rfl);exact(Le.sub4 rfl (by simp[go_sem,pE,List.take_zero,List.map_nil]))) ⟨?_⟩ ?_
 ·exact Nat.zero_le _
 intro i hi AA hAA;simp only[kL,Nat.reduceBEq,Nat.reduceEqDiff]
 by_cases hlt:i<l.length
 ·have hB:=hAA
  have hlv:=bHy hlt
  have hcl:=bHz l[i] (by omega)
  have hn:=bJ0 hlt
  have hl0:=aHe (l.take i)
  have hl2:=U1 l (i+1)
  rw[E0 hlt,List.length_append]at hl2
  generalize aW (l.take i)=A at*
  generalize nG l[i]=L at*
  repeat' (first|(refine aC fun _ _=>?_)|refine zHg ?_|refine aO rfl (hcl) (by simp) ?_|simp(disch:=omega) [go_sem,hlt])
  refine bS [0,5,10,11,20] [900] (fun j:Nat=> [(21,nt .i64 j),(3,.ref 900 0 (nL A L j).length)]) (fun j:Nat=> [(900,⟨true,false,false,2,(nL A L j).map pH,0⟩)]) (fun j:Nat=>L.length - j) (fun j:Nat=>j<=L.length) (0) (Le.sub4 rfl (by simp[go_sem,bJw])) ⟨?_⟩ ?_
  ·exact Nat.zero_le _
  intro j hj AA hAA;simp only[kL,Nat.reduceBEq,Nat.reduceEqDiff]
  by_cases hjl:j<L.length
  ·have h1:=fun a b=>bH2 L[j] a b
   have hz:=bJy (A:=A) hjl
   have hfl:=bJz A L j
   generalize nL A L j=X at*
   cases hv:fH L[j]with
   |true=>
    rw[hv]at h1
    rw[if_pos hv]at hz
    repeat' (first|(refine aC fun _ _=>?_)|refine zHg ?_|refine aO rfl (h1 _ _) (by simp) ?_|(refine(hAA.next (j+1) (Le.sub4 rfl (by simp[go_sem,hz,pH])) (by(try dsimp only);omega) ?_))|simp(disch:=omega) [go_sem,hjl,bG]|refine zAo ?_|fail)
    try any_goals omega
    exact⟨hjl⟩
   |false=>
    rw[hv]at h1
    rw[if_neg (by simp[hv]),List.append_nil]at hz
    repeat' (first|(refine aC fun _ _=>?_)|refine zHg ?_|refine aO rfl (h1 _ _) (by simp) ?_|(refine(hAA.next (j+1) (Le.sub4 rfl (by simp[go_sem,hz])) (by(try dsimp only);omega) ?_))|simp(disch:=omega) [go_sem,hjl,bG])
    try any_goals omega
    exact⟨hjl⟩
  ·obtain rfl:j=L.length:=by omega
   rw[bJx,<-hn]
   repeat' (first|(refine aC fun _ _=>?_)|refine zHg ?_|(refine(hB.next (i+1) (Le.sub4 rfl (by simp[go_sem])) (by(try dsimp only);omega) ?_))|simp(disch:=omega) [go_sem])
   try any_goals omega
   exact⟨hlt⟩
 ·obtain rfl:i=l.length:=by omega
  rw[List.take_length]
  have hcl:=aHe l
  have hlenT:True:=trivial
  have hso:=bKm (aW l) true false (by omega)
  have hsl:=bKk ((aW l).map eF)
  rw[List.length_map]at hsl
  rw[<-hS]at hso hsl
  clear hS
  generalize aW l=K at*
  repeat' (first|(refine aC fun _ _=>?_)|refine zHg ?_|(refine aO ?hl (hso) (by simp) ?_;(case hl=>(simp[go_sem,hlenT];done)))|simp(disch:=omega) [go_sem,hlenT])
  refine bS [43] [901,900] (fun k:Nat=> [(44,nt .i64 k),(3,.list false false (S.map aI)),(7,.ref 901 0 (nN S k).length)]) (fun k:Nat=> [(901,⟨true,false,false,1,(nN S k).map bG,0⟩)]) (fun k:Nat=>S.length - k) (fun k:Nat=>k<=S.length) (0) (by refine Le.trans ?_ (Le.nil (i:=7) (T:=901) (es:=1) rfl);exact(Le.sub4 rfl (by simp[go_sem,bKn,List.map_nil]))) ⟨?_⟩ ?_
  ·exact Nat.zero_le _
  intro k hk AA hAA;simp only[kL,Nat.reduceBEq,Nat.reduceEqDiff]
  by_cases hkl:k<S.length
  ·have hn:=bKp hkl
   have hnl:=bKq hk
   generalize nN S k=A at*
   repeat' (first|(refine aC fun _ _=>?_)|refine zHg ?_|(refine(hAA.next (k+1) (Le.sub4 rfl (by simp[go_sem,hn,bG])) (by(try dsimp only);omega) ?_))|simp(disch:=omega) [go_sem,hkl]|refine zAo ?_|fail)
   try any_goals omega
   exact⟨hkl⟩
  ·obtain rfl:k=S.length:=by omega
   repeat' (first|(refine aC fun _ _=>?_)|refine zHg ?_|(refine aN [] ?_;simp[go_sem])|simp(disch:=omega) [go_sem])
set_option maxHeartbeats 16000000
theorem aH2: ∀t:Tm,t.size<=1000000->ACall prog 121 [eT t] (fun r=>r=eT t):=by
 refine eX fun t ih hsz=>?_
 obtain⟨n,ts⟩:=t
 simp only[cK]at ih
 rw[fB,cK]at hsz
 have hlen:=nF ts
 have ih2: ∀(i:Nat) (h:i<ts.length),ACall prog 121 [eT ts[i]] (fun r=>r=eT ts[i]):=fun i h=>ih _ (List.getElem_mem h) (by have:=sS h;omega)
 clear ih
 refine ACall.loose (x:= .agg [.sc (.string n),.list false (decide (ts.length=0)) (ts.map aI)]) rfl ?_
 refine aU func121 call121 rfl (by simp[ntmps121]) ?_;simp only[ntmps121,results121]
 repeat' (first|(refine aC fun _ _=>?_)|refine zHg ?_|simp(disch:=omega) [go_sem])
 refine bS [1,2,3,10] [3,900] (fun y:Nat×List Tm=> [(11,nt .i64 y.1)]) (fun y:Nat×List Tm=>(3,⟨false,false,false,2,[.agg [.sc (.string n),if y.2.length=0 then .list false true []else .ref 900 0 y.2.length]],0⟩)::(if y.2.length=0 then[]else[(900,⟨true,false,false,2,y.2.map aI,0⟩)])) (fun y:Nat×List Tm=>ts.length - y.1) (fun y:Nat×List Tm=>y.1<=ts.length/\y.2.length=y.1/\y.2++ts.drop y.1=ts) ((0,[])) (Le.sub4 rfl (by simp[go_sem])) ⟨?_⟩ ?_
 ·exact⟨Nat.zero_le _,rfl,rfl⟩
 intro⟨i,a⟩ ⟨hi,ha,hinv⟩ AA hAA;simp only[kL,Nat.reduceBEq,Nat.reduceEqDiff]
 dsimp only at*
 by_cases hlt:i<ts.length
 ·have hu:=ih2 i hlt
  rw[List.drop_eq_getElem_cons hlt]at hinv
  clear ih2
  generalize hx:ts[i]=x at*
  by_cases h0:i=0
  ·subst h0
   obtain rfl:=List.eq_nil_of_length_eq_zero ha
   repeat' (first|(refine aC fun _ _=>?_)|refine zHg ?_|refine bR rfl (hu) rfl (by simp) ?_|(refine(hAA.next ((0+1,[x])) (Le.renSub [(23,900)] [(900,23)] (by simp[go_sem]) (by simp[go_sem]) (Le.sub4 rfl (by simp[go_sem]))) (by(try dsimp only);omega) ?_))|simp(disch:=omega) [go_sem,hlt,hx]|refine zDr 8 aQ ?_|fail)
   try any_goals omega
   all_goals exact⟨hlt,rfl,hinv⟩
  ·repeat' (first|(refine aC fun _ _=>?_)|refine zHg ?_|refine bR rfl (hu) rfl (by simp) ?_|(refine(hAA.next ((i+1,a++ [x])) (Le.sub4 rfl (by simp[go_sem,ha])) (by(try dsimp only);omega) ?_))|simp(disch:=omega) [go_sem,hlt,h0,ha,hx]|refine zAo ?_|refine zDr 8 aQ ?_|fail)
   try any_goals omega
   all_goals exact⟨hlt,by simp[ha],by rw[List.append_assoc];exact hinv⟩
 ·obtain rfl:i=ts.length:=by omega
  rw[List.drop_length,List.append_nil]at hinv
  subst hinv
  clear ih2
  by_cases h0:a.length=0
  ·obtain rfl:=List.eq_nil_of_length_eq_zero h0
   repeat' (first|(refine aC fun _ _=>?_)|refine zHg ?_|(refine aN [] ?_;simp[go_sem,h0])|simp(disch:=omega) [go_sem,h0])
  ·repeat' (first|(refine aC fun _ _=>?_)|refine zHg ?_|(refine aN [] ?_;simp[go_sem,h0])|simp(disch:=omega) [go_sem,h0])
theorem aH3 (r:Rl) (hz:SzM r):
 MCall prog 73 [bX r] []
  (fun v o'=>v= .agg [.sc (.string r.head.name),.list false false (r.head.args.map aI),if r.body.length=0 then .list false true []else .ref 900 0 r.body.length]/\
   o'=(2,⟨false,false,false,3,[.agg [.sc (.string r.head.name),.list false false (r.head.args.map aI),if r.body.length=0 then .list false true []else .ref 900 0 r.body.length]],0⟩)::(if r.body.length=0 then[]else[(900,⟨true,false,false,3,r.body.map bP,0⟩)])):=by
 obtain⟨h,bs⟩:=r
 obtain⟨hz1,hz2,hz3⟩:=hz
 dsimp only at*
 have h1:=aH2 h (by rw[fB];omega)
 have ih2: ∀(i:Nat) (hi:i<bs.length),ACall prog 121 [eT bs[i].atom] (fun r=>r=eT bs[i].atom):=fun i hi=>aH2 _ (by rw[fB];have:=hz3 _ (List.getElem_mem hi);omega)
 refine eW func73 call73 rfl (by simp[ntmps73]) ?_;simp only[ntmps73,results73]
 repeat' (first|(refine aC fun _ _=>?_)|refine zHg ?_|refine aO rfl (h1) (by simp) ?_|simp(disch:=omega) [go_sem])
 refine bS [1,2,3,11] [3,900] (fun y:Nat×List Lt=> [(12,nt .i64 y.1)]) (fun y:Nat×List Lt=>(3,⟨false,false,false,3,[.agg [.sc (.string h.name),.list false false (h.args.map aI),if y.2.length=0 then .list false true []else .ref 900 0 y.2.length]],0⟩)::(if y.2.length=0 then[]else[(900,⟨true,false,false,3,y.2.map bP,0⟩)])) (fun y:Nat×List Lt=>bs.length - y.1) (fun y:Nat×List Lt=>y.1<=bs.length/\y.2.length=y.1/\y.2++bs.drop y.1=bs) ((0,[])) (Le.sub4 rfl (by simp[go_sem])) ⟨?_⟩ ?_
 ·exact⟨Nat.zero_le _,rfl,rfl⟩
 intro⟨i,a⟩ ⟨hi,ha,hinv⟩ AA hAA;simp only[kL,Nat.reduceBEq,Nat.reduceEqDiff]
 dsimp only at*
 by_cases hlt:i<bs.length
 ·have hu:=ih2 i hlt
  rw[List.drop_eq_getElem_cons hlt]at hinv
  clear ih2
  generalize hbi:bs[i]=b at*
  by_cases h0:i=0
  ·subst h0
   obtain rfl:=List.eq_nil_of_length_eq_zero ha
   repeat' (first|(refine aC fun _ _=>?_)|refine zHg ?_|refine bR rfl (hu) rfl (by simp) ?_|(refine(hAA.next ((0+1,[b])) (Le.renSub [(32,900)] [(900,32)] (by simp[go_sem]) (by simp[go_sem]) (Le.sub4 rfl (by simp[go_sem]))) (by(try dsimp only);omega) ?_))|simp(disch:=omega) [go_sem,hlt,hbi]|refine zDr 16 aQ ?_|fail)
   try any_goals omega
   all_goals exact⟨hlt,rfl,hinv⟩
  ·repeat' (first|(refine aC fun _ _=>?_)|refine zHg ?_|refine bR rfl (hu) rfl (by simp) ?_|(refine(hAA.next ((i+1,a++ [b])) (Le.sub4 rfl (by simp[go_sem,ha])) (by(try dsimp only);omega) ?_))|simp(disch:=omega) [go_sem,hlt,hbi,h0,ha]|refine zAo ?_|refine zDr 16 aQ ?_|fail)
   try any_goals omega
   all_goals exact⟨hlt,by simp[ha],by rw[List.append_assoc];exact hinv⟩
 ·obtain rfl:i=bs.length:=by omega
  rw[List.drop_length,List.append_nil]at hinv
  subst hinv
  clear ih2
  by_cases h0:a.length=0
  ·obtain rfl:=List.eq_nil_of_length_eq_zero h0
   repeat' (first|(refine aC fun _ _=>?_)|refine zHg ?_|simp(disch:=omega) [go_sem])
   refine cV ⟨36,[(2,.ptr 2 0 0)],(2,⟨false,false,false,3,[.agg [.sc (.string h.name),.list false false (h.args.map aI),.list false true []]],0⟩):: []⟩ [.agg [.sc (.string h.name),.list false false (h.args.map aI),.list false true []]] (Le.renSub [] [] (by simp[go_sem]) (by simp[go_sem]) (Le.sub4 rfl (by simp[go_sem]))) (by simp[go_sem]) ⟨rfl,rfl⟩
  ·repeat' (first|(refine aC fun _ _=>?_)|refine zHg ?_|simp(disch:=omega) [go_sem,h0])
   refine cV ⟨36,[(2,.ptr 2 0 0)],(2,⟨false,false,false,3,[.agg [.sc (.string h.name),.list false false (h.args.map aI),.ref 900 0 a.length]],0⟩):: [(900,⟨true,false,false,3,a.map bP,0⟩)]⟩ [.agg [.sc (.string h.name),.list false false (h.args.map aI),.ref 900 0 a.length]] (Le.renSub [] [] (by simp[go_sem]) (by simp[go_sem]) (Le.sub4 rfl (by simp[go_sem]))) (by simp[go_sem]) ⟨rfl,rfl⟩
theorem bKs (r:Rl) (hz:SzM r):MCall prog 73 [bX r] [] (fun v o'=>v=bX r/\o'= []):=by
 have key:=aH3 r hz
 by_cases h0:r.body.length=0
 ·obtain⟨h,bs⟩:=r
  obtain rfl:=List.eq_nil_of_length_eq_zero h0
  simp only[List.length_nil,if_true]at key
  exact key.loose (o1:= []) (by simp[go_sem]) (by simp[go_sem]) (by simp[go_sem])
 ·simp only[h0,if_false]at key
  refine key.shared (s':=?_) (y:= .agg [.sc (.string r.head.name),.list false false (r.head.args.map aI),.list false false (r.body.map bP)]) (by simp[go_sem,bY];rfl) (by simp[go_sem]) (by simp[go_sem]) (by simp[go_sem])
theorem bKt (r:Rl) (hz:SzM r) (h0: ¬r.body.length=0):MCall prog 73 [bX r] [] (fun v o'=>v= .agg [.sc (.string r.head.name),.list false false (r.head.args.map aI),.ref 900 0 r.body.length]/\o'= [(900,⟨true,false,false,3,r.body.map bP,0⟩)]):=by
 have key:=aH3 r hz
 simp only[h0,if_false]at key
 have k2:=key.loose (o1:= [(900,⟨true,false,false,3,r.body.map bP,0⟩)]) (by simp[go_sem]) (by simp[go_sem]) (by simp[go_sem])
 simp only[go_sem]at k2
 exact k2
theorem bKu (a b:Tm) (s:ByteArray) (r:List Tm):kA (.mk s (a::b::r))= !lJ a b:=by
 unfold kA
 rw[cK]
 have e1:(a::b::r).getD 0 zT=a:=rfl
 have e2:(a::b::r).getD 1 zT=b:=rfl
 rw[e1,e2,decide_eq_true (by simp),Bool.true_and]
 congr 1
 rw[Bool.eq_iff_iff,decide_eq_true_eq,qE,uY]
theorem bKv (t:Tm):ACall prog 59 [eT t] (fun r=>r=bl (kA t)):=by
 obtain⟨s,ts⟩:=t
 by_cases h2:2<=ts.length
 ·match ts,h2 with
  |a::b::r,h2=>
   have hc:=D4 a b
   rw[bKu]
   generalize lJ a b=c at*
   refine aU func59 call59 rfl (by simp[ntmps59]) ?_;simp only[ntmps59,results59]
   repeat' (first|(refine aC fun _ _=>?_)|refine zHg ?_|(refine zdd ?_ ?_<;>(intro h;first|(exfalso;omega)|(simp only[h,zT])))|(refine aN [] ?_;simp[go_sem])|refine bR rfl (hc) rfl (by simp) ?_|simp(disch:=omega) [go_sem]|refine zAo ?_|refine zDr 17 aQ ?_|fail)
 ·have h2': ¬(2:Int)<=ts.length:=by omega
  have e:kA (.mk s ts)=false:=by unfold kA;rw[cK,decide_eq_false h2,Bool.false_and]
  rw[e]
  refine aU func59 call59 rfl (by simp[ntmps59]) ?_;simp only[ntmps59,results59]
  repeat' (first|(refine aC fun _ _=>?_)|refine zHg ?_|(refine aN [] ?_;simp[go_sem,h2'])|simp(disch:=omega) [go_sem,h2']|refine zDr 17 aQ ?_|fail)
theorem aH4 (r:Rl) (hl:r.body.length<=1000000):ACall prog 30 [bX r] (fun v=>v= .own 2 ((eZ r).map aI)):=by
 obtain⟨h,bs⟩:=r
 dsimp only at*
 have hnx: ∀i (hi:i<bs.length),h::(bs.take (i+1)).map Lt.atom=(h::(bs.take i).map Lt.atom)++ [bs[i].atom]:=fun i hi=>by
  rw[fC hi,List.map_append];rfl
 unfold eZ
 dsimp only
 generalize hR:h::bs.map Lt.atom=R
 refine aU func30 call30 rfl (by simp[ntmps30]) ?_;simp only[ntmps30,results30]
 repeat' (first|(refine aC fun _ _=>?_)|refine zHg ?_|simp(disch:=omega) [go_sem])
 refine bS [1,10] [900,7] (fun y:Nat×List Tm=> [(11,nt .i64 y.1),(3,.ref 900 0 y.2.length)]) (fun y:Nat×List Tm=> [(900,⟨true,false,false,2,y.2.map aI,0⟩)]) (fun y:Nat×List Tm=>bs.length - y.1) (fun y:Nat×List Tm=>y.1<=bs.length/\y.2.length=y.1+1/\y.2=h::(bs.take y.1).map Lt.atom) ((0,[h])) (Le.renSub [(7,900)] [(900,7)] (by simp[go_sem]) (by simp[go_sem]) (Le.sub4 rfl (by simp[go_sem]))) ⟨?_⟩ ?_
 ·exact⟨Nat.zero_le _,rfl,rfl⟩
 intro⟨i,A⟩ ⟨hi,hAl,hA⟩ AA hAA;simp only[kL,Nat.reduceBEq,Nat.reduceEqDiff]
 dsimp only at*
 by_cases hlt:i<bs.length
 ·have hn:=hnx i hlt
  rw[<-hA]at hn
  generalize hbi:bs[i]=b at*
  repeat' (first|(refine aC fun _ _=>?_)|refine zHg ?_|(refine(hAA.next ((i+1,A++ [b.atom])) (Le.sub4 rfl (by simp[go_sem,hAl])) (by(try dsimp only);omega) ?_))|simp(disch:=omega) [go_sem,hlt,hbi,hAl]|refine zAo ?_|fail)
  try any_goals omega
  all_goals exact⟨hlt,by rw[List.length_append,hAl];rfl,hn.symm⟩
 ·obtain rfl:i=bs.length:=by omega
  rw[List.take_length]at hA
  obtain rfl:=hA.trans hR
  repeat' (first|(refine aC fun _ _=>?_)|refine zHg ?_|(refine aN [] ?_;simp[go_sem])|simp(disch:=omega) [go_sem])
def fX:List Tm->List Tm
 | []=> []
 |t::r=>t.args++fX r
theorem X8: ∀a b:List Tm,fX (a++b)=fX a++fX b
 | [],b=>rfl
 |t::a,b=>by simp[fX,X8 a b]
theorem bKw {l:List Tm} {i:Nat} (h:i<l.length):fX (l.take (i+1))=fX (l.take i)++l[i].args:=by
 rw[fC h,X8];simp[fX]
theorem aH5: ∀l:List Lt,fX (l.map Lt.atom)=oC l
 | []=>rfl
 |b::m=>by simp[fX,oC,aH5 m]
theorem X9 (r:Rl):fX (eZ r)=r.head.args++oC r.body:=by unfold eZ;rw[fX,aH5]
theorem aH6: ∀a b:List Rl,fE (a++b)=fE a++fE b
 | [],b=>rfl
 |r::a,b=>by simp[fE,aH6 a b]
theorem bKx {l:List Rl} {i:Nat} (h:i<l.length):fE (l.take (i+1))=fE (l.take i)++fX (eZ l[i]):=by
 rw[fC h,aH6,X9];simp[fE]
theorem yG: ∀a b:List Tm,bV (a++b)=bV a+bV b
 | [],b=>by simp[bV]
 |t::a,b=>by simp[bV,yG a b];omega
theorem G4: ∀{l:List Lt},(∀b∈l,bV b.atom.args<=20)->bV (oC l)<=l.length*20
 | [],_=>by simp[oC,bV]
 |b::m,h=>by
  rw[oC,yG,List.length_cons,Nat.succ_mul]
  have:=h b (by simp)
  have:=G4 (l:=m) fun x hx=>h x (List.mem_cons_of_mem _ hx)
  omega
theorem aH7 {l:List Rl} (hz: ∀r∈l,SzM r):bV (fE l)<=l.length*180:=by
 induction l with
 |nil=>simp[fE,bV]
 |cons r l ih=>
  rw[fE,yG,yG,List.length_cons,Nat.succ_mul]
  have h1:=hz r (by simp)
  have:=h1.head
  have:=h1.body
  have:=G4 h1.atom
  have:=ih fun x hx=>hz x (by simp[hx])
  omega
theorem bKy {l:List Rl} (hz: ∀r∈l,SzM r) (i:Nat) (hi:i<=l.length):(fE (l.take i)).length<=i*180:=by
 have h1:=aH7 (l:=l.take i) fun r hr=>hz r (List.mem_of_mem_take hr)
 have h2:=nF (fE (l.take i))
 rw[List.length_take,Nat.min_eq_left hi]at h1
 omega
theorem bKz: ∀l:List Tm,(eD l).length<=bV l:=by
 have key: ∀t:Tm,(nG t).length<=t.size:=by
  refine eX fun t ih=>?_
  obtain⟨s,ts⟩:=t
  simp only[cK]at ih
  rw[D8,fB,cK]
  split
  ·simp
  ·have: ∀l:List Tm,(∀u∈l,(nG u).length<=u.size)->(eD l).length<=bV l:=by
    intro l
    induction l with
    |nil=>intro _;simp[eD]
    |cons u r ihr=>
     intro h
     rw[eD,List.length_append]
     have:=h u (by simp)
     have:=ihr fun v hv=>h v (by simp[hv])
     simp only[bV]
     omega
   have:=this ts ih
   omega
 intro l
 induction l with
 |nil=>simp[eD]
 |cons u r ihr=>
  rw[eD,List.length_append]
  have:=key u
  simp only[bV]
  omega
theorem bK0 {r:Rl} (hz:SzM r) (k:Nat):(fX ((eZ r).take k)).length<=180:=by
 have h0: ∀(a b:List Tm),(fX (a++b)).length=(fX a).length+(fX b).length:=fun a b=>by rw[X8,List.length_append]
 have h1:(fX (eZ r)).length=(fX ((eZ r).take k)).length+(fX ((eZ r).drop k)).length:=by rw[<-h0,List.take_append_drop]
 have h2:=nF (fX (eZ r))
 rw[X9,yG]at h2
 have h3:=G4 hz.atom
 have h4:=hz.head
 have h5:=hz.body
 rw[X9]at h1
 omega
theorem aH8 (l:List Rl) (le fu:Bool) (hz: ∀r∈l,SzM r) (hl:l.length<=99):ACall prog 13 [.list le fu (l.map bX)] (fun r=>r= .own 1 ((eA l).map bG)):=by
 have hle:=bKy hz
 have hlv:=bKz (fE l)
 have hsz:=aH7 hz
 have hc:=fun a b=>bKr (fE l) a b (by omega)
 have hcn:eA l=rQ (fE l):=rfl
 rw[hcn]
 generalize rQ (fE l)=Z at*
 refine aU func13 call13 rfl (by simp[ntmps13]) ?_;simp only[ntmps13,results13]
 repeat' (first|(refine aC fun _ _=>?_)|refine zHg ?_|simp(disch:=omega) [go_sem])
 refine bS [0,8] [900] (fun y:Nat×List Tm=> [(9,nt .i64 y.1),(3,.ref 900 0 y.2.length)]) (fun y:Nat×List Tm=> [(900,⟨true,false,false,2,y.2.map aI,0⟩)]) (fun y:Nat×List Tm=>l.length - y.1) (fun y:Nat×List Tm=>y.1<=l.length/\y.2=fE (l.take y.1)) ((0,[])) (by refine Le.trans ?_ (Le.nil (i:=3) (T:=900) (es:=2) rfl);exact(Le.sub4 rfl (by simp[go_sem,List.map_nil,List.length_nil]))) ⟨?_⟩ ?_
 ·exact⟨Nat.zero_le _,rfl⟩
 intro⟨i,A⟩ ⟨hi,hA⟩ AA hAA;simp only[kL,Nat.reduceBEq,Nat.reduceEqDiff]
 dsimp only at*
 have hAl:=hle i hi
 rw[<-hA]at hAl
 by_cases hlt:i<l.length
 ·have hzi:=hz l[i] (List.getElem_mem hlt)
  have hn:=bKx hlt
  have hat:=(aH4 l[i] (by have:=hzi.body;omega)).frz
  have hag:=bK0 hzi
  have hRl:(eZ l[i]).length<=9:=by rw[yF];have:=hzi.body;omega
  rw[<-hA]at hn
  generalize hri:l[i]=r at*
  generalize eZ r=R at*
  have hB:=hAA
  repeat' (first|(refine aC fun _ _=>?_)|refine zHg ?_|refine aO rfl (hat) (by simp) ?_|simp(disch:=omega) [go_sem,hlt,hri])
  refine bS [0,5,8,9,18] [900] (fun y:Nat×List Tm=> [(19,nt .i64 y.1),(3,.ref 900 0 y.2.length)]) (fun y:Nat×List Tm=> [(900,⟨true,false,false,2,y.2.map aI,0⟩)]) (fun y:Nat×List Tm=>R.length - y.1) (fun y:Nat×List Tm=>y.1<=R.length/\y.2=A++fX (R.take y.1)) ((0,A)) (Le.sub4 rfl (by simp[go_sem])) ⟨?_⟩ ?_
  ·exact⟨Nat.zero_le _,by simp[fX]⟩
  intro⟨k,B⟩ ⟨hk,hBe⟩ AA hAA;simp only[kL,Nat.reduceBEq,Nat.reduceEqDiff]
  dsimp only at*
  have hBl:B.length<=A.length+180:=by rw[hBe,List.length_append];have:=hag k;omega
  by_cases hkl:k<R.length
  ·have hnk:=bKw hkl
   have hal:R[k].args.length<=180:=by
    have h1:=hag (k+1)
    rw[hnk,List.length_append]at h1
    omega
   generalize hrk:R[k]=t at*
   repeat' (first|(refine aC fun _ _=>?_)|refine zHg ?_|(refine(hAA.next ((k+1,B++t.args)) (Le.sub4 rfl (by simp[go_sem])) (by(try dsimp only);omega) ?_))|simp(disch:=omega) [go_sem,hkl,hrk]|refine zAo ?_|fail)
   try any_goals omega
   all_goals exact⟨hkl,by rw[hBe,hnk,List.append_assoc]⟩
  ·obtain rfl:k=R.length:=by omega
   rw[List.take_length]at hBe
   repeat' (first|(refine aC fun _ _=>?_)|refine zHg ?_|(refine(hB.next ((i+1,B)) (Le.sub4 rfl (by simp[go_sem])) (by(try dsimp only);omega) ?_))|simp(disch:=omega) [go_sem])
   try any_goals omega
   all_goals exact⟨hlt,by rw[hBe,hn]⟩
 ·obtain rfl:i=l.length:=by omega
  rw[List.take_length]at hA
  subst hA
  have hcc:=hc true false
  have hcd:=hc false true
  generalize fE l=A at*
  have hlenT:True:=trivial
  repeat' (first|(refine aC fun _ _=>?_)|refine zHg ?_|(refine aN [] ?_;simp[go_sem,hlenT])|(refine aO ?hl (hcc) (by simp) ?_;(case hl=>(simp[go_sem,hlenT];done)))|simp(disch:=omega) [go_sem,hlenT])
theorem aH9 {M:Nat}: ∀t:Tm,iX M t-> ∀s∈gP t,s.size<=M:=by
 refine eX fun t ih h=>?_
 obtain⟨n,ts⟩:=t
 simp only[cK]at ih
 rw[iX]at h
 intro s hs
 rw[tI]at hs
 split at hs
 ·split at hs
  ·obtain rfl:=List.mem_singleton.1 hs;exact h.1
  ·simp at hs
 ·have key: ∀l:List Tm,(∀u∈l,u∈ts)->s∈aW l->s.size<=M:=by
   intro l
   induction l with
   |nil=>intro _ h;simp[pE]at h
   |cons u r ihr=>
    intro hm h2
    rw[qM,List.mem_append]at h2
    rcases h2 with h2|h2
    ·exact ih u (hm u (by simp)) (pC.1 h.2 u (hm u (by simp))) s h2
    ·exact ihr (fun v hv=>hm v (by simp[hv])) h2
  exact key ts (fun _ h=>h) hs
theorem yH {M:Nat}: ∀{l:List Tm},(∀t∈l,iX M t)-> ∀s∈aW l,s.size<=M
 | [],_,s,h=>by simp[pE]at h
 |u::r,hl,s,h=>by
  rw[qM,List.mem_append]at h
  rcases h with h|h
  ·exact aH9 u (hl u (by simp)) s h
  ·exact yH (fun v hv=>hl v (by simp[hv])) s h
theorem yI {M:Nat} {K:Int} {f:Nat} {L:List ByteArray} (h: ∀s∈L,s.size<=M):(cS K f L).size<=M:=by
 unfold cS
 split
 ·rename_i h1
  rw[kC (by omega)]
  exact h _ (List.getElem_mem _)
 ·exact Nat.zero_le _
theorem aIa (Kp:Int) (nm:ByteArray) (M:Nat) (hM:M<=1152921504606846976): ∀t:Tm,t.size<=1000000->iX M t-> ∀(f:Nat) (F:Int),F=f->f+t.size<=3000000->
 ACall prog 101 [eT t,nt .i64 F,nt .i64 Kp,.sc (.string nm)] (fun r=>r= .tup [eT (rR Kp nm f t),nt .i64 (F+(gP t).length),.sc (.string (cS Kp f (gP t)))]):=by
 refine eX fun t ih hsz hnm f F hF hf=>?_
 obtain⟨n,ts⟩:=t
 simp only[cK]at ih
 rw[fB,cK]at hsz hf
 rw[iX]at hnm
 have hlen:=nF ts
 rw[W7,tI]
 by_cases h0:ts.length=0
 ·obtain rfl:=List.eq_nil_of_length_eq_zero h0
  rw[if_pos h0,if_pos h0]
  have hc:=aFg (.mk n [])
  rw[G1,decide_eq_true h0,Bool.true_and]at hc
  clear ih
  cases hq:fH n
  ·rw[hq]at hc
   have e:cS Kp f []=⟨#[]⟩:=tK _ _
   simp only[Bool.false_eq_true,false_and,if_false,List.length_nil,Int.natCast_zero,Int.add_zero,e]
   refine aU func101 call101 rfl (by simp[ntmps101]) ?_;simp only[ntmps101,results101]
   repeat' (first|(refine aC fun _ _=>?_)|refine zHg ?_|(refine aN [] ?_;simp[go_sem])|refine aO rfl (hc) (by simp) ?_|simp(disch:=omega) [go_sem])
  ·rw[hq]at hc
   by_cases hK:(f:Int)=Kp
   ·subst hK
    have e:cS (f:Int) f [n]=n:=by rw[aHq,if_pos rfl]
    by_cases hn:nm.size=0
    ·obtain rfl:nm=⟨#[]⟩:=ByteArray.size_eq_zero_iff.1 hn
     simp only[hn,ne_eq,not_true_eq_false,and_false,if_false,if_true,List.length_singleton,Int.natCast_one,e]
     subst hF
     refine aU func101 call101 rfl (by simp[ntmps101]) ?_;simp only[ntmps101,results101]
     repeat' (first|(refine aC fun _ _=>?_)|refine zHg ?_|(refine aN [] ?_;simp[go_sem])|refine aO rfl (hc) (by simp) ?_|simp(disch:=omega) [go_sem])
     try any_goals omega
    ·have hn': ¬nm=⟨#[]⟩:=fun h=>hn (by rw[h];rfl)
     simp only[hn,ne_eq,not_false_eq_true,and_true,if_true,List.length_singleton,Int.natCast_one,e]
     subst hF
     refine aU func101 call101 rfl (by simp[ntmps101]) ?_;simp only[ntmps101,results101]
     repeat' (first|(refine aC fun _ _=>?_)|refine zHg ?_|(refine aN [] ?_;simp[go_sem,hn'])|refine aO rfl (hc) (by simp) ?_|simp(disch:=omega) [go_sem,hn'])
     try any_goals omega
   ·have e:cS Kp f [n]=⟨#[]⟩:=by rw[aHq,if_neg hK];rfl
    simp only[hK,false_and,and_false,if_false,if_true,List.length_singleton,Int.natCast_one,e]
    subst hF
    refine aU func101 call101 rfl (by simp[ntmps101]) ?_;simp only[ntmps101,results101]
    repeat' (first|(refine aC fun _ _=>?_)|refine zHg ?_|(refine zqn ?_ ?_<;>(intro h;first|(exfalso;omega)|(simp only[h,zT])))|(refine aN [] ?_;simp[go_sem,hK])|refine aO rfl (hc) (by simp) ?_|simp(disch:=omega) [go_sem,hK])
    try any_goals omega
 ·rw[if_neg h0,if_neg h0]
  have hcn:aW []= []:=rfl
  have hwn:cS Kp f []=⟨#[]⟩:=tK _ _
  have hwl: ∀i,(cS Kp f (aW (ts.take i))).size<=M:=fun i=>yI (yH fun t ht=>pC.1 hnm.2 t (List.mem_of_mem_take ht))
  have ih2: ∀(i:Nat) (hi:i<ts.length) (g:Nat) (G:Int),G=g->g+ts[i].size<=3000000->ACall prog 101 [eT ts[i],nt .i64 G,nt .i64 Kp,.sc (.string nm)] (fun r=>r= .tup [eT (rR Kp nm g ts[i]),nt .i64 (G+(gP ts[i]).length),.sc (.string (cS Kp g (gP ts[i])))]):=fun i hi g G h1 h2=>ih _ (List.getElem_mem hi) (by have:=sS hi;omega) (pC.1 hnm.2 _ (List.getElem_mem hi)) g G h1 h2
  have hw1: ∀(i:Nat) (hi:i<ts.length) (g:Nat),(cS Kp g (gP ts[i])).size<=M:=fun i hi g=>yI (aH9 _ (pC.1 hnm.2 _ (List.getElem_mem hi)))
  clear ih hnm
  refine aU func101 call101 rfl (by simp[ntmps101]) ?_;simp only[ntmps101,results101]
  repeat' (first|(refine aC fun _ _=>?_)|refine zHg ?_|simp(disch:=omega) [go_sem,h0])
  refine bS [2,3,4,8,12,48] [12,900] (fun i:Nat=> [(49,nt .i64 i),(1,nt .i64 (F+(aW (ts.take i)).length)),(13,.sc (.string (cS Kp f (aW (ts.take i)))))]) (fun i:Nat=>(12,⟨false,false,false,2,[.agg [.sc (.string n),if i=0 then .list false true []else .ref 900 0 i]],0⟩)::(if i=0 then[]else[(900,⟨true,false,false,2,(eP Kp nm f (ts.take i)).map aI,0⟩)])) (fun i:Nat=>ts.length - i) (fun i:Nat=>i<=ts.length) (0) (Le.sub4 rfl (by simp[go_sem,hcn,hwn,List.take_zero,List.length_nil])) ⟨?_⟩ ?_
  ·exact Nat.zero_le _
  intro i hi AA hAA;simp only[kL,Nat.reduceBEq,Nat.reduceEqDiff]
  by_cases hlt:i<ts.length
  ·have hct:=oD (ts.take i)
   have htk:=R6 hlt
   have htl:=R7 ts (i+1)
   have hsg:=sS hlt
   have hu:=ih2 i hlt (f+(aW (ts.take i)).length) (F+(aW (ts.take i)).length) (by omega) (by omega)
   have hpn:=bJ2 (K:=Kp) (nm:=nm) (f:=f) hlt
   have hwx:=bJ3 (K:=Kp) (f:=f) hlt
   have hcx:=bJ4 hlt
   have hpl:(eP Kp nm f (ts.take i)).length=i:=by rw[F9,List.length_take];omega
   have hs1:=hwl i
   have hs2:=hw1 i hlt (f+(aW (ts.take i)).length)
   have hc1:(gP ts[i]).length<=1000000:=by
    have:=oD (ts.take (i+1))
    rw[hcx,List.length_append]at this
    omega
   clear ih2 hw1 hwl
   generalize eP Kp nm f (ts.take i)=A at*
   generalize rR Kp nm (f+(aW (ts.take i)).length) ts[i]=x at*
   generalize cS Kp (f+(aW (ts.take i)).length) (gP ts[i])=w at*
   generalize cS Kp f (aW (ts.take i))=W at*
   generalize aW (ts.take i)=D at*
   generalize gP ts[i]=E at*
   rw[hcx]at hwx
   generalize hti:ts[i]=t at*
   by_cases hi0:i=0
   ·subst hi0
    obtain rfl:=List.eq_nil_of_length_eq_zero hpl
    repeat' (first|(refine aC fun _ _=>?_)|refine zHg ?_|refine aO rfl (hu) (by simp) ?_|(refine(hAA.next (0+1) (Le.renSub [(69,900)] [(900,69)] (by simp[go_sem,hpn,hwx,hcx,Int.add_assoc]) (by simp[go_sem,hpn,hwx,hcx,Int.add_assoc]) (Le.sub4 rfl (by simp[go_sem,hpn,hwx,hcx,Int.add_assoc]))) (by(try dsimp only);omega) ?_))|simp(disch:=omega) [go_sem,hlt,hti]|refine zAo ?_|fail)
    try any_goals omega
    all_goals exact⟨hlt⟩
   ·repeat' (first|(refine aC fun _ _=>?_)|refine zHg ?_|refine aO rfl (hu) (by simp) ?_|(refine(hAA.next (i+1) (Le.sub4 rfl (by simp[go_sem,hpl,hpn,hwx,hcx,Int.add_assoc])) (by(try dsimp only);omega) ?_))|simp(disch:=omega) [go_sem,hlt,hti,hi0,hpl]|refine zAo ?_|fail)
    try any_goals omega
    all_goals exact⟨hlt⟩
  ·obtain rfl:i=ts.length:=by omega
   rw[List.take_length]
   have hpl:(eP Kp nm f ts).length=ts.length:=F9
   generalize eP Kp nm f ts=A at*
   generalize cS Kp f (aW ts)=W at*
   repeat' (first|(refine aC fun _ _=>?_)|refine zHg ?_|(refine aN [] ?_;simp[go_sem,h0,hpl])|simp(disch:=omega) [go_sem,h0,hpl])
def iM (Kp:Int) (nm:ByteArray) (f:Nat) (bs:List Lt) (i:Nat):List Lt:=kU Kp nm f (bs.take i)++bs.drop i
theorem G5 (Kp:Int) (nm:ByteArray) (f:Nat) (bs:List Lt):iM Kp nm f bs 0=bs:=by
 have:kU Kp nm f []= []:=List.eq_nil_of_length_eq_zero tL
 simp[iM,this]
theorem aIb (Kp:Int) (nm:ByteArray) (f:Nat) (bs:List Lt):iM Kp nm f bs bs.length=kU Kp nm f bs:=by simp[iM]
theorem Y0 {Kp:Int} {nm:ByteArray} {f:Nat} {bs:List Lt} {i:Nat} (h:i<=bs.length):(iM Kp nm f bs i).length=bs.length:=by
 unfold iM
 rw[List.length_append,tL,List.length_take,List.length_drop]
 omega
theorem bK1 {Kp:Int} {nm:ByteArray} {f:Nat} {bs:List Lt} {i:Nat} (h:i<bs.length):(iM Kp nm f bs i)[i]'(by rw[Y0 (by omega)];exact h)=bs[i]:=by
 have e:(iM Kp nm f bs i)[i]?=some bs[i]:=by
  unfold iM
  rw[List.getElem?_append_right (by rw[tL,List.length_take];omega),tL,List.length_take,Nat.min_eq_left (by omega),Nat.sub_self,List.getElem?_drop,Nat.add_zero,List.getElem?_eq_getElem h]
 rw[List.getElem?_eq_getElem (by rw[Y0 (by omega)];exact h)]at e
 exact Option.some.inj e
theorem bK2 {Kp:Int} {nm:ByteArray} {f:Nat} {bs:List Lt} {i:Nat} (h:i<bs.length):iM Kp nm f bs (i+1)=(iM Kp nm f bs i).set i ⟨bs[i].neg,.mk bs[i].atom.name (eP Kp nm (f+(cZ (bs.take i)).length) bs[i].atom.args)⟩:=by
 have hl:(kU Kp nm f (bs.take i)).length=i:=by rw[tL,List.length_take];omega
 unfold iM
 rw[bJ5 h,List.append_assoc,List.set_append_right _ _ (by omega),hl,Nat.sub_self,List.drop_eq_getElem_cons h,List.set_cons_zero,List.singleton_append]
theorem bK3 {α:Type} {l:List α} {i:Nat} (h:i<l.length):l.set i l[i]=l:=by
 apply List.ext_getElem?
 intro k
 rw[List.getElem?_set]
 split
 ·rename_i e;subst e;simp[h]
 ·rfl
theorem bK4 {l:List Lt} (h: ∀b∈l,bV b.atom.args<=20):(cZ l).length<=l.length*20:=by
 rw[<-W0]
 have:=oD (oC l)
 have:=G4 h
 omega
theorem aIc {M:Nat}: ∀{l:List Lt},(∀b∈l,iX M b.atom)-> ∀s∈cZ l,s.size<=M
 | [],_,s,h=>by simp[cZ]at h
 |b::m,hl,s,h=>by
  rw[cZ,List.mem_append]at h
  rcases h with h|h
  ·have hb:=hl b (by simp)
   obtain⟨q,⟨n,ts⟩⟩:=b
   rw[iX]at hb
   exact yH (fun t ht=>pC.1 hb.2 t ht) s h
  ·exact aIc (fun v hv=>hl v (by simp[hv])) s h
theorem aId (Kp:Int) (nm:ByteArray) (M:Nat) (hM:M<=1152921504606846976) (r:Rl) (hz:SzM r) (hn:vC M r):
 ACall prog 58 [bX r,nt .i64 Kp,.sc (.string nm)] (fun v=>v= .tup [bX (G0 Kp nm r),nt .i64 (dS r).length,.sc (.string (cS Kp 0 (dS r)))]):=by
 have hcp:=bKs r hz
 have hcp1:=bKt r hz
 obtain⟨⟨s,us⟩,bs⟩:=r
 obtain⟨hz1,hz2,hz3⟩:=hz
 obtain⟨hn1,hn2⟩:=hn
 dsimp only[cK,nY]at*
 have hp0:=aIa Kp nm M hM (.mk s us) (by rw[fB,cK];omega) hn1 0 0 rfl (by rw[fB,cK];omega)
 rw[iX]at hn1
 have hcr:dS ⟨.mk s us,bs⟩=aW us++cZ bs:=rfl
 have hplr:G0 Kp nm ⟨.mk s us,bs⟩=⟨.mk s (eP Kp nm 0 us),kU Kp nm (aW us).length bs⟩:=rfl
 have hwr:cS Kp 0 (dS ⟨.mk s us,bs⟩)=cS Kp 0 (aW us)++cS Kp (aW us).length (cZ bs):=by rw[hcr,W6,Nat.zero_add]
 rw[hplr,hwr,hcr]
 have hcs:=oD us
 have hw0:(cS Kp 0 (aW us)).size<=M:=yI (yH fun t ht=>pC.1 hn1.2 t ht)
 have hpu: ¬us.length=0->rR Kp nm 0 (.mk s us)= .mk s (eP Kp nm 0 us):=fun h=>by rw[W7,if_neg h]
 have hcu: ¬us.length=0->gP (.mk s us)=aW us:=fun h=>by rw[tI,if_neg h]
 have hw2: ∀i,(cS Kp (aW us).length (cZ (bs.take i))).size<=M:=fun i=>yI (aIc fun b hb=>hn2 b (List.mem_of_mem_take hb))
 have hgl:(eP Kp nm 0 us).length=us.length:=F9
 by_cases hb0:bs.length=0
 ·obtain rfl:=List.eq_nil_of_length_eq_zero hb0
  have e1:cZ []= []:=rfl
  have e2:kU Kp nm (aW us).length []= []:=List.eq_nil_of_length_eq_zero tL
  have e3:cS Kp (aW us).length []=⟨#[]⟩:=tK _ _
  have e4: ∀x:ByteArray,x++⟨#[]⟩=x:=W5
  rw[e1,e2,e3,List.append_nil,e4]
  rcases Decidable.em (us.length=0)with hu0|hu0
  ·obtain rfl:=List.eq_nil_of_length_eq_zero hu0
   have f1:eP Kp nm 0 []= []:=W8
   have f2:cS Kp 0 (aW [])=⟨#[]⟩:=tK _ _
   have f3:(aW []).length=0:=rfl
   rw[f1,f2,f3]
   refine aU func58 call58 rfl (by simp[ntmps58]) ?_;simp only[ntmps58,results58]
   repeat' (first|(refine aC fun _ _=>?_)|refine zHg ?_|simp(disch:=omega) [go_sem])
   refine bH [] [] 10000 _ _ (Fits.mk' (by simp[go_sem]) (by simp[go_sem])) (by simp[go_sem]) (by simp[go_sem]) (hcp) (by simp[go_sem]) (by simp[go_sem]) ?_
   repeat' (first|(refine aC fun _ _=>?_)|refine zHg ?_|simp(disch:=omega) [go_sem])
   refine bS [1,2,6,9,41] [9] (fun i:Nat=> [(42,nt .i64 i),(10,nt .i64 0),(11,.sc (.string ⟨#[]⟩))]) (fun i:Nat=>(9,⟨false,false,false,3,[.agg [.sc (.string s),.list false false [],.list false false []]],0⟩):: []) (fun i:Nat=>0 - i) (fun i:Nat=>i<=0) (0) (Le.sub4 rfl (by simp[go_sem])) ⟨?_⟩ ?_
   ·exact Nat.zero_le _
   intro i hi AA hAA;simp only[kL,Nat.reduceBEq,Nat.reduceEqDiff]
   obtain rfl:=Nat.le_zero.1 hi
   repeat' (first|(refine aC fun _ _=>?_)|refine zHg ?_|(refine aN [] ?_;simp[go_sem])|simp(disch:=omega) [go_sem])
  ·have hp0:=hp0
   rw[hpu hu0,hcu hu0]at hp0
   generalize eP Kp nm 0 us=G at*
   generalize cS Kp 0 (aW us)=w at*
   generalize aW us=D at*
   have hup:(0:Int)<us.length:=by omega
   refine aU func58 call58 rfl (by simp[ntmps58]) ?_;simp only[ntmps58,results58]
   repeat' (first|(refine aC fun _ _=>?_)|refine zHg ?_|simp(disch:=omega) [go_sem])
   refine bH [] [] 10000 _ _ (Fits.mk' (by simp[go_sem]) (by simp[go_sem])) (by simp[go_sem]) (by simp[go_sem]) (hcp) (by simp[go_sem]) (by simp[go_sem]) ?_
   repeat' (first|(refine aC fun _ _=>?_)|refine zHg ?_|(refine zqd ?_ ?_<;>(intro h;first|(exfalso;omega)|(simp only[h,zT])))|refine aO rfl (hp0) (by simp) ?_|simp(disch:=omega) [go_sem,hu0,hup])
   refine bS [1,2,6,9,41] [9,12] (fun i:Nat=> [(42,nt .i64 i),(10,nt .i64 D.length),(11,.sc (.string w))]) (fun i:Nat=>(9,⟨false,false,false,3,[.agg [.sc (.string s),.list false false (G.map aI),.list false false []]],0⟩):: []) (fun i:Nat=>0 - i) (fun i:Nat=>i<=0) (0) (Le.sub4 rfl (by simp[go_sem])) ⟨?_⟩ ?_
   ·exact Nat.zero_le _
   intro i hi AA hAA;simp only[kL,Nat.reduceBEq,Nat.reduceEqDiff]
   obtain rfl:=Nat.le_zero.1 hi
   repeat' (first|(refine aC fun _ _=>?_)|refine zHg ?_|(refine aN [] ?_;simp[go_sem])|simp(disch:=omega) [go_sem])
 ·have hcp1:=hcp1 hb0
  have ih2: ∀(i:Nat) (hi:i<bs.length) (g:Nat) (H:Int),H=g->g<=1000000-> ¬bs[i].atom.args.length=0->ACall prog 101 [eT bs[i].atom,nt .i64 H,nt .i64 Kp,.sc (.string nm)] (fun r=>r= .tup [eT (.mk bs[i].atom.name (eP Kp nm g bs[i].atom.args)),nt .i64 (H+(aW bs[i].atom.args).length),.sc (.string (cS Kp g (aW bs[i].atom.args)))]):=fun i hi g H h1 h2 h3=>by
   have hzi:=hz3 _ (List.getElem_mem hi)
   have:=aIa Kp nm M hM bs[i].atom (by rw[fB];omega) (hn2 _ (List.getElem_mem hi)) g H h1 (by rw[fB];omega)
   generalize bs[i].atom=a at*
   obtain⟨n,ts⟩:=a
   dsimp only[cK,nY]at h3 ⊢
   rw[W7,if_neg h3,tI,if_neg h3]at this
   exact this
  have hw3: ∀(i:Nat) (hi:i<bs.length) (g:Nat),(cS Kp g (aW bs[i].atom.args)).size<=M:=fun i hi g=>yI (by
   have hb:=hn2 _ (List.getElem_mem hi)
   generalize bs[i].atom=a at*
   obtain⟨n,ts⟩:=a
   rw[iX]at hb
   exact yH fun t ht=>pC.1 hb.2 t ht)
  have hcb: ∀i,(cZ (bs.take i)).length<=160:=fun i=>by
   have:=bK4 (l:=bs.take i) fun b hb=>hz3 b (List.mem_of_mem_take hb)
   rw[List.length_take]at this
   have:min i bs.length*20<=8*20:=Nat.mul_le_mul_right _ (by omega)
   omega
  have e1:cZ []= []:=rfl
  have e3:cS Kp (aW us).length []=⟨#[]⟩:=tK _ _
  have e4: ∀x:ByteArray,x++⟨#[]⟩=x:=W5
  have e5:=G5 Kp nm (aW us).length bs
  have f1:eP Kp nm 0 []= []:=W8
  have f2:aW []= []:=rfl
  have f3:cS Kp 0 []=⟨#[]⟩:=tK _ _
  have hup: ¬us.length=0->(0:Int)<us.length:=fun h=>by omega
  have hnx: ∀i (hi:i<bs.length),cZ (bs.take (i+1))=cZ (bs.take i)++aW bs[i].atom.args:=fun i hi=>aHj hi
  have hqn: ∀i (hi:i<bs.length),iM Kp nm (aW us).length bs (i+1)=(iM Kp nm (aW us).length bs i).set i ⟨bs[i].neg,.mk bs[i].atom.name (eP Kp nm ((aW us).length+(cZ (bs.take i)).length) bs[i].atom.args)⟩:=fun i hi=>bK2 hi
  have hqa:=aIb Kp nm (aW us).length bs
  have hzz:bs.length<=8:=hz2
  have hwn: ∀f:Nat,cS Kp f []=⟨#[]⟩:=fun f=>tK Kp f
  generalize hG:eP Kp nm 0 us=G at*
  generalize hw:cS Kp 0 (aW us)=w at*
  generalize hD:aW us=D at*
  rcases Decidable.em (us.length=0)with hu0|hu0
  all_goals(first|(obtain rfl:=List.eq_nil_of_length_eq_zero hu0;have hG2:G= []:=hG.symm.trans f1;have hD2:D= []:=hD.symm;have hW2:w=⟨#[]⟩:=by rw[<-hw,hD2];exact f3)|(have hup:=hup hu0;rw[hpu hu0,hcu hu0,hw]at hp0;have hG2:=f1;have hD2:=f2;have hW2:=f3))
  all_goals clear hpu hcu hcp hn1 hqa hG hw hD
  all_goals refine aU func58 call58 rfl (by simp[ntmps58]) ?_;simp only[ntmps58,results58]
  all_goals repeat' (first|(refine aC fun _ _=>?_)|refine zHg ?_|simp(disch:=omega) [go_sem])
  all_goals refine bH [] [] 10000 _ _ (Fits.mk' (by simp[go_sem]) (by simp[go_sem])) (by simp[go_sem]) (by simp[go_sem]) (hcp1) (by simp[go_sem]) (by simp[go_sem]) ?_
  all_goals repeat' (first|(refine aC fun _ _=>?_)|refine zHg ?_|(refine zqd ?_ ?_<;>(intro h;first|(exfalso;omega)|(simp only[h,zT])))|refine aO rfl (hp0) (by simp) ?_|simp(disch:=omega) [go_sem,hu0,hup])
  all_goals refine bS [1,2,6,9,41] [9,900,12,10900] (fun i:Nat=> [(42,nt .i64 i),(10,nt .i64 ((D.length:Int)+(cZ (bs.take i)).length)),(11,.sc (.string (w++cS Kp D.length (cZ (bs.take i)))))]) (fun i:Nat=>(9,⟨false,false,false,3,[.agg [.sc (.string s),.list false false (G.map aI),.ref 900 0 bs.length]],0⟩):: [(900,⟨true,false,false,3,(iM Kp nm D.length bs i).map bP,0⟩)]) (fun i:Nat=>bs.length - i) (fun i:Nat=>i<=bs.length) (0) (Le.renSub [(10900,900)] [(900,10900)] (by simp[go_sem,hG2,hD2,hW2,e1,hwn,e4,G5,List.take_zero,List.length_nil]) (by simp[go_sem,hG2,hD2,hW2,e1,hwn,e4,G5,List.take_zero,List.length_nil]) (Le.sub4 rfl (by simp[go_sem,hG2,hD2,hW2,e1,hwn,e4,G5,List.take_zero,List.length_nil]))) ⟨?_⟩ ?_
  all_goals(first|exact Nat.zero_le _|skip)
  all_goals intro i hi AA hAA;simp only[kL,Nat.reduceBEq,Nat.reduceEqDiff]
  all_goals(
   by_cases hlt:i<bs.length
   ·have hq:=hqn i hlt
    have hnb:=hnx i hlt
    have hql:(iM Kp nm D.length bs i).length=bs.length:=Y0 hi
    have hqi:i<(iM Kp nm D.length bs i).length:=by omega
    have hqe:(iM Kp nm D.length bs i)[i]=bs[i]:=bK1 hlt
    have hci:=hcb i
    have hu:=ih2 i hlt (D.length+(cZ (bs.take i)).length) (D.length+(cZ (bs.take i)).length) rfl (by omega)
    have hs1:=hw2 i
    have hs2:=hw3 i hlt (D.length+(cZ (bs.take i)).length)
    have hwx:=W6 Kp D.length (cZ (bs.take i)) (aW bs[i].atom.args)
    have hc1:(aW bs[i].atom.args).length<=20:=Nat.le_trans (oD _) (hz3 _ (List.getElem_mem hlt))
    clear ih2 hqn hnx hcb hw2 hw3
    generalize iM Kp nm D.length bs i=Q at*
    generalize cZ (bs.take i)=C at*
    generalize hbi:bs[i]=b at*
    obtain⟨q,⟨n,ts⟩⟩:=b
    dsimp only[cK,nY]at*
    by_cases hts:ts.length=0
    ·obtain rfl:=List.eq_nil_of_length_eq_zero hts
     have hpn:eP Kp nm (D.length+C.length) []= []:=W8
     rw[hpn,<-hqe,bK3 hqi]at hq
     have hcn:C++aW []=C:=List.append_nil C
     repeat' (first|(refine aC fun _ _=>?_)|refine zHg ?_|(refine(hAA.next (i+1) (Le.sub4 rfl (by simp[go_sem,hq,hnb,hcn])) (by(try dsimp only);omega) ?_))|simp(disch:=omega) [go_sem,hlt,hql,hqe,hqi])
     try any_goals omega
     all_goals exact⟨hlt⟩
    ·have hu:=hu hts
     have hset: ∀L:List Tm,(Q.map bP).set i (.agg [.sc (.bool q),.sc (.string n),.list false false (L.map aI)])=(Q.set i ⟨q,.mk n L⟩).map bP:=fun L=>by rw[List.map_set];rfl
     generalize eP Kp nm (D.length+C.length) ts=L at*
     generalize cS Kp (D.length+C.length) (aW ts)=w2 at*
     generalize cS Kp D.length C=W at*
     generalize aW ts=E at*
     have htz: ¬ts= []:=fun h=>hts (by rw[h];rfl)
     repeat' (first|(refine aC fun _ _=>?_)|refine zHg ?_|refine aO rfl (hu) (by simp) ?_|(refine(hAA.next (i+1) (Le.sub4 rfl (by simp[go_sem,hq,hnb,hwx,hset,Int.add_assoc,ByteArray.append_assoc])) (by(try dsimp only);omega) ?_))|simp(disch:=omega) [go_sem,hlt,hql,hqe,hqi,hts,htz,ByteArray.size_append]|refine zAo ?_|fail)
     try any_goals omega
     all_goals exact⟨hlt⟩
   ·obtain rfl:i=bs.length:=by omega
    rw[List.take_length,aIb]
    have hyl:(kU Kp nm D.length bs).length=bs.length:=tL
    generalize kU Kp nm D.length bs=Y at*
    generalize cS Kp D.length (cZ bs)=W at*
    generalize cZ bs=C at*
    repeat' (first|(refine aC fun _ _=>?_)|refine zHg ?_|(refine aN [] ?_;simp[go_sem,hb0,hyl])|((simp(disch:=omega) [go_sem,hb0,hyl]))))
theorem G6 (i:Nat): ∀k,(mO i k).length=2*k
 |0=>rfl
 |k+1=>by rw[mO,List.length_append,G6 i k];simp;omega
theorem G7 (i p:Nat) (C:List ByteArray) (s:ByteArray): ∀k,(iB i p C s k).length<=k
 |0=>by simp[iB]
 |k+1=>by
  rw[iB,List.length_append]
  have:=G7 i p C s k
  split<;>simp<;>omega
theorem G8 (i:Nat) (C S:List ByteArray): ∀p,(iC i C S p).length<=p*C.length
 |0=>by simp[iC]
 |p+1=>by
  rw[iC,List.length_append,Nat.add_mul,Nat.one_mul]
  have:=G8 i C S p
  have:=G7 i p C (S.getD p zs) C.length
  omega
theorem G9 (i:Nat) (A:List Tm): ∀k,(iD i A k).length<=k
 |0=>by simp[iD]
 |k+1=>by
  rw[iD,List.length_append]
  have:=G9 i A k
  split<;>simp<;>omega
theorem Y1 {i:Nat} {r:Rl} {C:List ByteArray} (hz:SzM r) (hC:C.length<=17820):(gH i r C).length<=3300000:=by
 unfold gH
 rw[List.length_append,List.length_append,List.length_append,G6]
 have h1:=G8 i C (dS r) (dS r).length
 have h2:=G9 i (eZ r) (eZ r).length
 have h3:=rS hz
 have h4:=hz.body
 rw[yF]at h2 ⊢
 have h5:(dS r).length*C.length<=180*17820:=Nat.mul_le_mul h3 hC
 simp only[List.length_singleton]
 omega
theorem aIe (i:Nat) (r:Rl) (C:List ByteArray) (hz:SzM r) (hi:i<=1000) (hC:C.length<=17820):ACall prog 24 [nt .i64 i,bX r,.list false false (C.map bG)] (fun v=>v= .own 3 ((gH i r C).map dA)):=by
 have hp:=(aHx r hz).frz
 have ha:=(bKh r (by have:=hz.body;omega)).frz
 have hsl:=rS hz
 have hbl:=hz.body
 have hal:=yF r
 unfold gH
 generalize dS r=S at*
 generalize eZ r=A at*
 obtain⟨h,bs⟩:=r
 dsimp only at*
 have hbd:=G6 i
 have hpl:=G8 i C S
 have hil:=G7 i
 have hsw:=G9 i A
 have hpC: ∀p,p<=S.length->p*C.length<=180*17820:=fun p hp=>Nat.mul_le_mul (by omega) hC
 generalize hR: [⟨1,i,0⟩]++mO i bs.length++iC i C S S.length++iD i A A.length=R
 refine aU func24 call24 rfl (by simp[ntmps24]) ?_;simp only[ntmps24,results24]
 repeat' (first|(refine aC fun _ _=>?_)|refine zHg ?_|simp(disch:=omega) [go_sem])
 refine bS [0,2,4,20] [900,17] (fun y:Nat×List Mu=> [(21,nt .i64 y.1),(7,.ref 900 0 y.2.length)]) (fun y:Nat×List Mu=> [(900,⟨true,false,false,3,y.2.map dA,0⟩)]) (fun y:Nat×List Mu=>bs.length - y.1) (fun y:Nat×List Mu=>y.1<=bs.length/\y.2= [⟨1,i,0⟩]++mO i y.1) ((0,[⟨1,i,0⟩])) (Le.renSub [(17,900)] [(900,17)] (by simp[go_sem]) (by simp[go_sem]) (Le.sub4 rfl (by simp[go_sem]))) ⟨?_⟩ ?_
 ·exact⟨Nat.zero_le _,rfl⟩
 intro⟨k,M⟩ ⟨hk,hM⟩ AA hAA;simp only[kL,Nat.reduceBEq,Nat.reduceEqDiff]
 dsimp only at*
 have hMl:M.length=1+2*k:=by rw[hM,List.length_append,hbd];rfl
 by_cases hlt:k<bs.length
 ·repeat' (first|(refine aC fun _ _=>?_)|refine zHg ?_|(refine(hAA.next ((k+1,M++ [⟨2,i,k⟩,⟨3,i,k⟩])) (Le.sub4 rfl (by simp[go_sem])) (by(try dsimp only);omega) ?_))|simp(disch:=omega) [go_sem,hlt]|refine zAo ?_|fail)
  try any_goals omega
  all_goals exact⟨hlt,by rw[hM,mO,List.append_assoc];first|done|rfl|simp⟩
 ·obtain rfl:k=bs.length:=by omega
  clear hlt hk
  repeat' (first|(refine aC fun _ _=>?_)|refine zHg ?_|refine aO rfl (hp) (by simp) ?_|simp(disch:=omega) [go_sem])
  refine bS [0,2,4,35,36] [900] (fun y:Nat×List Mu=> [(37,nt .i64 y.1),(7,.ref 900 0 y.2.length)]) (fun y:Nat×List Mu=> [(900,⟨true,false,false,3,y.2.map dA,0⟩)]) (fun y:Nat×List Mu=>S.length - y.1) (fun y:Nat×List Mu=>y.1<=S.length/\y.2=M++iC i C S y.1) ((0,M)) (Le.sub4 rfl (by simp[go_sem])) ⟨?_⟩ ?_
  ·exact⟨Nat.zero_le _,by simp[iC]⟩
  intro⟨p,N⟩ ⟨hpi,hN⟩ AA hAA;simp only[kL,Nat.reduceBEq,Nat.reduceEqDiff]
  dsimp only at*
  have hNl:N.length<=1+2*bs.length+p*C.length:=by rw[hN,List.length_append];have:=hpl p;omega
  have hpc:=hpC p hpi
  by_cases hlt:p<S.length
  ·have hpc1:=hpC (p+1) hlt
   rw[Nat.add_mul,Nat.one_mul]at hpc1
   have hAB:=hAA
   have hsp:S.getD p zs=S[p]:=kC hlt
   have hnx:iC i C S (p+1)=iC i C S p++iB i p C S[p] C.length:=by rw[iC,hsp]
   generalize hse:S[p]=s at*
   repeat' (first|(refine aC fun _ _=>?_)|refine zHg ?_|simp(disch:=omega) [go_sem,hlt,hse,bG])
   refine bS [0,2,4,9,10,35,36,37,42,43] [900] (fun y:Nat×List Mu=> [(44,nt .i64 y.1),(7,.ref 900 0 y.2.length)]) (fun y:Nat×List Mu=> [(900,⟨true,false,false,3,y.2.map dA,0⟩)]) (fun y:Nat×List Mu=>C.length - y.1) (fun y:Nat×List Mu=>y.1<=C.length/\y.2=N++iB i p C s y.1) ((0,N)) (Le.sub4 rfl (by simp[go_sem])) ⟨?_⟩ ?_
   ·exact⟨Nat.zero_le _,by simp[iB]⟩
   intro⟨k,O⟩ ⟨hk,hO⟩ AA hAA;simp only[kL,Nat.reduceBEq,Nat.reduceEqDiff]
   dsimp only at*
   have hOl:O.length<=N.length+k:=by rw[hO,List.length_append];have:=hil p C s k;omega
   by_cases hkl:k<C.length
   ·have hck:C.getD k zs=C[k]:=kC hkl
    have hnk:iB i p C s (k+1)=iB i p C s k++(if C[k]=s then[]else[⟨4,i,(p*C.length+k:Nat)⟩]):=by rw[iB,hck]
    have hpz:(0:Int)<=(p:Int)*(C.length:Int):=by rw[<-Int.natCast_mul];omega
    have hpz2:(p:Int)*(C.length:Int)<=3207600:=by rw[<-Int.natCast_mul];omega
    by_cases hq:C[k]=s
    ·rw[if_pos hq,List.append_nil]at hnk
     repeat' (first|(refine aC fun _ _=>?_)|refine zHg ?_|(refine(hAA.next ((k+1,O)) (Le.sub4 rfl (by simp[go_sem])) (by(try dsimp only);omega) ?_))|simp(disch:=omega) [go_sem,hkl,hq,bG])
     try any_goals omega
     all_goals exact⟨hkl,by rw[hO,hnk];first|done|rfl|simp⟩
    ·rw[if_neg hq]at hnk
     repeat' (first|(refine aC fun _ _=>?_)|refine zHg ?_|(refine(hAA.next ((k+1,O++ [⟨4,i,(p*C.length+k:Nat)⟩])) (Le.sub4 rfl (by simp[go_sem])) (by(try dsimp only);omega) ?_))|simp(disch:=omega) [go_sem,hkl,hq,bG]|refine zAo ?_|fail)
     try any_goals omega
     all_goals exact⟨hkl,by rw[hO,hnk,List.append_assoc];first|done|rfl|simp⟩
   ·obtain rfl:k=C.length:=by omega
    repeat' (first|(refine aC fun _ _=>?_)|refine zHg ?_|(refine(hAB.next ((p+1,O)) (Le.sub4 rfl (by simp[go_sem])) (by(try dsimp only);omega) ?_))|simp(disch:=omega) [go_sem])
    try any_goals omega
    all_goals exact⟨hlt,by rw[hO,hN,hnx,List.append_assoc];first|done|rfl|simp⟩
  ·obtain rfl:p=S.length:=by omega
   clear hlt hpi
   repeat' (first|(refine aC fun _ _=>?_)|refine zHg ?_|refine aO rfl (ha) (by simp) ?_|simp(disch:=omega) [go_sem])
   refine bS [0,66,67] [900] (fun y:Nat×List Mu=> [(68,nt .i64 y.1),(7,.ref 900 0 y.2.length)]) (fun y:Nat×List Mu=> [(900,⟨true,false,false,3,y.2.map dA,0⟩)]) (fun y:Nat×List Mu=>A.length - y.1) (fun y:Nat×List Mu=>y.1<=A.length/\y.2=N++iD i A y.1) ((0,N)) (Le.sub4 rfl (by simp[go_sem])) ⟨?_⟩ ?_
   ·exact⟨Nat.zero_le _,by simp[iD]⟩
   intro⟨k,O⟩ ⟨hk,hO⟩ AA hAA;simp only[kL,Nat.reduceBEq,Nat.reduceEqDiff]
   dsimp only at*
   have hOl:O.length<=N.length+k:=by rw[hO,List.length_append];have:=hsw k;omega
   by_cases hkl:k<A.length
   ·have hsb:=bKd A[k]
    have hak:A.getD k zT=A[k]:=kC hkl
    have hnk:iD i A (k+1)=iD i A k++(if kA A[k]=true then[⟨5,i,k⟩]else[]):=by rw[iD,hak]
    generalize hae:A[k]=a at*
    cases hq:kA a
    ·rw[hq]at hsb hnk
     rw[if_neg (by decide),List.append_nil]at hnk
     repeat' (first|(refine aC fun _ _=>?_)|refine zHg ?_|refine aO rfl (hsb) (by simp) ?_|(refine(hAA.next ((k+1,O)) (Le.sub4 rfl (by simp[go_sem])) (by(try dsimp only);omega) ?_))|simp(disch:=omega) [go_sem,hkl,hae])
     try any_goals omega
     all_goals exact⟨hkl,by rw[hO,hnk];first|done|rfl|simp⟩
    ·rw[hq]at hsb hnk
     rw[if_pos rfl]at hnk
     repeat' (first|(refine aC fun _ _=>?_)|refine zHg ?_|refine aO rfl (hsb) (by simp) ?_|(refine(hAA.next ((k+1,O++ [⟨5,i,k⟩])) (Le.sub4 rfl (by simp[go_sem])) (by(try dsimp only);omega) ?_))|simp(disch:=omega) [go_sem,hkl,hae]|refine zAo ?_|fail)
     try any_goals omega
     all_goals exact⟨hkl,by rw[hO,hnk,List.append_assoc];first|done|rfl|simp⟩
   ·obtain rfl:k=A.length:=by omega
    have e:O=R:=by rw[<-hR,hO,hN,hM]
    subst e
    repeat' (first|(refine aC fun _ _=>?_)|refine zHg ?_|(refine aN [] ?_;simp[go_sem])|simp(disch:=omega) [go_sem])
theorem Y2 {l:List Rl} {C:List ByteArray} (hz: ∀r∈l,SzM r) (hC:C.length<=17820): ∀i,i<=l.length->(jA C l i).length<=i*3300000
 |0,_=>by simp[jA]
 |i+1,h=>by
  have hi:i<l.length:=by omega
  rw[jA,List.length_append,kC hi]
  have:=Y2 hz hC i (by omega)
  have:=Y1 (i:=i) (hz l[i] (List.getElem_mem hi)) hC
  omega
theorem aIf (l:List Rl) (le fu:Bool) (hz: ∀r∈l,SzM r) (hl:l.length<=99):ACall prog 9 [.list le fu (l.map bX)] (fun v=>v= .own 3 ((kB l).map dA)):=by
 have hc:=(X6 l le fu hz hl).frz
 have hcl:=X7 hz hl
 have hal:=Y2 hz hcl
 unfold kB
 generalize eA l=C at*
 generalize hR:jA C l l.length=R
 refine aU func9 call9 rfl (by simp[ntmps9]) ?_;simp only[ntmps9,results9]
 repeat' (first|(refine aC fun _ _=>?_)|refine zHg ?_|refine aO rfl (hc) (by simp) ?_|simp(disch:=omega) [go_sem])
 refine bS [3,9,10] [900] (fun y:Nat×List Mu=> [(11,nt .i64 y.1),(4,.ref 900 0 y.2.length)]) (fun y:Nat×List Mu=> [(900,⟨true,false,false,3,y.2.map dA,0⟩)]) (fun y:Nat×List Mu=>l.length - y.1) (fun y:Nat×List Mu=>y.1<=l.length/\y.2=jA C l y.1) ((0,[])) (by refine Le.trans ?_ (Le.nil (i:=4) (T:=900) (es:=3) rfl);exact(Le.sub4 rfl (by simp[go_sem,List.map_nil,List.length_nil]))) ⟨?_⟩ ?_
 ·exact⟨Nat.zero_le _,rfl⟩
 intro⟨i,M⟩ ⟨hi,hM⟩ AA hAA;simp only[kL,Nat.reduceBEq,Nat.reduceEqDiff]
 dsimp only at*
 have hMl:=hal i hi
 rw[<-hM]at hMl
 by_cases hlt:i<l.length
 ·have ho:=aIe i l[i] C (hz _ (List.getElem_mem hlt)) (by omega) hcl
  have hol:=Y1 (i:=i) (hz l[i] (List.getElem_mem hlt)) hcl
  have hn:jA C l (i+1)=jA C l i++gH i l[i] C:=by rw[jA,kC hlt]
  rw[<-hM]at hn
  generalize hri:l[i]=r at*
  generalize gH i r C=X at*
  repeat' (first|(refine aC fun _ _=>?_)|refine zHg ?_|refine aO rfl (ho) (by simp) ?_|(refine(hAA.next ((i+1,M++X)) (Le.sub4 rfl (by simp[go_sem])) (by(try dsimp only);omega) ?_))|simp(disch:=omega) [go_sem,hlt,hri]|refine zAo ?_|fail)
  try any_goals omega
  all_goals exact⟨hlt,hn.symm⟩
 ·obtain rfl:i=l.length:=by omega
  obtain rfl:=hM.trans hR
  repeat' (first|(refine aC fun _ _=>?_)|refine zHg ?_|(refine aN [] ?_;simp[go_sem])|simp(disch:=omega) [go_sem])
def cH:ByteArray:=⟨#[114,111,108,101,40,120,41,46,32,112,40,97,41,32,105,102,32,113,40,98,41,46]⟩
def kV:Rl:=⟨(.mk ⟨#[114,111,108,101]⟩ [(.mk ⟨#[120]⟩ [])]),[]⟩
def lR:Rl:=⟨(.mk ⟨#[112]⟩ [(.mk ⟨#[97]⟩ [])]),[⟨false,(.mk ⟨#[113]⟩ [(.mk ⟨#[98]⟩ [])])⟩]⟩
theorem aIg:bJ cH 0=⟨#[114,111,108,101]⟩:=by kernel_rfl
theorem bK5:aP cH 0=4:=by kernel_rfl
theorem bK6:cT cH 40 4=true:=by kernel_rfl
theorem bK7:aR cH 40 4=5:=by kernel_rfl
theorem aIh:bJ cH 5=⟨#[120]⟩:=by kernel_rfl
theorem aIi:aP cH 5=6:=by kernel_rfl
theorem bK8:cT cH 40 6=false:=by kernel_rfl
theorem bK9:aR cH 40 6=6:=by kernel_rfl
theorem aIj:cR cH ⟨#[120]⟩ 6=((.mk ⟨#[120]⟩ []),6):=by rw[tC bK8,bK9]
theorem bLa:cT cH 44 6=false:=by kernel_rfl
theorem bLb:aR cH 44 6=6:=by kernel_rfl
theorem bLc:iY cH ([]:List Tm) 5=([(.mk ⟨#[120]⟩ [])],6):=by rw[tE (by decide) (by rw[aIh,aIi,aIj];exact bLa),aIh,aIi,aIj];dsimp only;rw[bLb];rfl
theorem bLd:aR cH 41 6=7:=by kernel_rfl
theorem bLe:cR cH ⟨#[114,111,108,101]⟩ 4=((.mk ⟨#[114,111,108,101]⟩ [(.mk ⟨#[120]⟩ [])]),7):=by rw[tD bK6,bK7,bLc];dsimp only;rw[bLd]
theorem bLf:cT cH 46 7=true:=by kernel_rfl
theorem bLg:aR cH 46 7=8:=by kernel_rfl
theorem bLh:iL cH ([]:List Lt) 7=([],8):=by rw[xX (by decide) bLf,bLg]
theorem bLi:iZ cH ⟨#[114,111,108,101]⟩ 4=(kV,8):=by unfold iZ;rw[bLe];dsimp only;rw[bLh];rfl
theorem aIk:bJ cH 8=⟨#[112]⟩:=by kernel_rfl
theorem bLj:aP cH 8=10:=by kernel_rfl
theorem bLk:cT cH 40 10=true:=by kernel_rfl
theorem bLl:aR cH 40 10=11:=by kernel_rfl
theorem aIl:bJ cH 11=⟨#[97]⟩:=by kernel_rfl
theorem aIm:aP cH 11=12:=by kernel_rfl
theorem bLm:cT cH 40 12=false:=by kernel_rfl
theorem bLn:aR cH 40 12=12:=by kernel_rfl
theorem aIn:cR cH ⟨#[97]⟩ 12=((.mk ⟨#[97]⟩ []),12):=by rw[tC bLm,bLn]
theorem bLo:cT cH 44 12=false:=by kernel_rfl
theorem bLp:aR cH 44 12=12:=by kernel_rfl
theorem bLq:iY cH ([]:List Tm) 11=([(.mk ⟨#[97]⟩ [])],12):=by rw[tE (by decide) (by rw[aIl,aIm,aIn];exact bLo),aIl,aIm,aIn];dsimp only;rw[bLp];rfl
theorem bLr:aR cH 41 12=13:=by kernel_rfl
theorem bLs:cR cH ⟨#[112]⟩ 10=((.mk ⟨#[112]⟩ [(.mk ⟨#[97]⟩ [])]),13):=by rw[tD bLk,bLl,bLq];dsimp only;rw[bLr]
theorem bLt:cT cH 46 13=false:=by kernel_rfl
theorem aIo:aR cH 46 13=14:=by kernel_rfl
theorem aIp:eE cH 14=(false,⟨#[113]⟩,18):=by kernel_rfl
theorem bLu:cT cH 40 18=true:=by kernel_rfl
theorem bLv:aR cH 40 18=19:=by kernel_rfl
theorem aIq:bJ cH 19=⟨#[98]⟩:=by kernel_rfl
theorem aIr:aP cH 19=20:=by kernel_rfl
theorem bLw:cT cH 40 20=false:=by kernel_rfl
theorem bLx:aR cH 40 20=20:=by kernel_rfl
theorem aIs:cR cH ⟨#[98]⟩ 20=((.mk ⟨#[98]⟩ []),20):=by rw[tC bLw,bLx]
theorem bLy:cT cH 44 20=false:=by kernel_rfl
theorem bLz:aR cH 44 20=20:=by kernel_rfl
theorem bL0:iY cH ([]:List Tm) 19=([(.mk ⟨#[98]⟩ [])],20):=by rw[tE (by decide) (by rw[aIq,aIr,aIs];exact bLy),aIq,aIr,aIs];dsimp only;rw[bLz];rfl
theorem bL1:aR cH 41 20=21:=by kernel_rfl
theorem bL2:cR cH ⟨#[113]⟩ 18=((.mk ⟨#[113]⟩ [(.mk ⟨#[98]⟩ [])]),21):=by rw[tD bLu,bLv,bL0];dsimp only;rw[bL1]
theorem bL3:cT cH 46 21=true:=by kernel_rfl
theorem bL4:aR cH 46 21=22:=by kernel_rfl
theorem bL5:iL cH ([⟨false,(.mk ⟨#[113]⟩ [(.mk ⟨#[98]⟩ [])])⟩]:List Lt) 21=([⟨false,(.mk ⟨#[113]⟩ [(.mk ⟨#[98]⟩ [])])⟩],22):=by rw[xX (by decide) bL3,bL4]
theorem bL6:iL cH ([]:List Lt) 13=([⟨false,(.mk ⟨#[113]⟩ [(.mk ⟨#[98]⟩ [])])⟩],22):=by rw[V3 (by decide) bLt (by rw[aIo,aIp];decide),aIo,aIp];dsimp only;rw[bL2];exact bL5
theorem bL7:iZ cH ⟨#[112]⟩ 10=(lR,22):=by unfold iZ;rw[bLs];dsimp only;rw[bL6];rfl
theorem bL8:bJ cH 22=⟨#[]⟩:=by kernel_rfl
theorem bL9:lP cH ([kV,lR]:List Rl) 22= [kV,lR]:=by rw[V6 (by rw[bL8];rfl)]
theorem bMa:lP cH ([kV]:List Rl) 8= [kV,lR]:=by rw[xY (by decide) (by rw[aIk];decide),aIk,bLj,bL7];exact bL9
theorem bMb:lP cH ([]:List Rl) 0= [kV,lR]:=by rw[xY (by decide) (by rw[aIg];decide),aIg,bK5,bLi];exact bMa
def cI:ByteArray:=⟨#[114,111,108,101,40,120,41,46,32,112,40,97,41,32,105,102,32,113,40,120,41,46]⟩
def pI:Rl:=⟨(.mk ⟨#[114,111,108,101]⟩ [(.mk ⟨#[120]⟩ [])]),[]⟩
def qP:Rl:=⟨(.mk ⟨#[112]⟩ [(.mk ⟨#[97]⟩ [])]),[⟨false,(.mk ⟨#[113]⟩ [(.mk ⟨#[120]⟩ [])])⟩]⟩
theorem aIt:bJ cI 0=⟨#[114,111,108,101]⟩:=by kernel_rfl
theorem bMc:aP cI 0=4:=by kernel_rfl
theorem bMd:cT cI 40 4=true:=by kernel_rfl
theorem bMe:aR cI 40 4=5:=by kernel_rfl
theorem aIu:bJ cI 5=⟨#[120]⟩:=by kernel_rfl
theorem aIv:aP cI 5=6:=by kernel_rfl
theorem bMf:cT cI 40 6=false:=by kernel_rfl
theorem bMg:aR cI 40 6=6:=by kernel_rfl
theorem aIw:cR cI ⟨#[120]⟩ 6=((.mk ⟨#[120]⟩ []),6):=by rw[tC bMf,bMg]
theorem bMh:cT cI 44 6=false:=by kernel_rfl
theorem bMi:aR cI 44 6=6:=by kernel_rfl
theorem bMj:iY cI ([]:List Tm) 5=([(.mk ⟨#[120]⟩ [])],6):=by rw[tE (by decide) (by rw[aIu,aIv,aIw];exact bMh),aIu,aIv,aIw];dsimp only;rw[bMi];rfl
theorem bMk:aR cI 41 6=7:=by kernel_rfl
theorem bMl:cR cI ⟨#[114,111,108,101]⟩ 4=((.mk ⟨#[114,111,108,101]⟩ [(.mk ⟨#[120]⟩ [])]),7):=by rw[tD bMd,bMe,bMj];dsimp only;rw[bMk]
theorem bMm:cT cI 46 7=true:=by kernel_rfl
theorem bMn:aR cI 46 7=8:=by kernel_rfl
theorem bMo:iL cI ([]:List Lt) 7=([],8):=by rw[xX (by decide) bMm,bMn]
theorem bMp:iZ cI ⟨#[114,111,108,101]⟩ 4=(pI,8):=by unfold iZ;rw[bMl];dsimp only;rw[bMo];rfl
theorem aIx:bJ cI 8=⟨#[112]⟩:=by kernel_rfl
theorem bMq:aP cI 8=10:=by kernel_rfl
theorem bMr:cT cI 40 10=true:=by kernel_rfl
theorem bMs:aR cI 40 10=11:=by kernel_rfl
theorem aIy:bJ cI 11=⟨#[97]⟩:=by kernel_rfl
theorem aIz:aP cI 11=12:=by kernel_rfl
theorem bMt:cT cI 40 12=false:=by kernel_rfl
theorem bMu:aR cI 40 12=12:=by kernel_rfl
theorem aI0:cR cI ⟨#[97]⟩ 12=((.mk ⟨#[97]⟩ []),12):=by rw[tC bMt,bMu]
theorem bMv:cT cI 44 12=false:=by kernel_rfl
theorem bMw:aR cI 44 12=12:=by kernel_rfl
theorem bMx:iY cI ([]:List Tm) 11=([(.mk ⟨#[97]⟩ [])],12):=by rw[tE (by decide) (by rw[aIy,aIz,aI0];exact bMv),aIy,aIz,aI0];dsimp only;rw[bMw];rfl
theorem bMy:aR cI 41 12=13:=by kernel_rfl
theorem bMz:cR cI ⟨#[112]⟩ 10=((.mk ⟨#[112]⟩ [(.mk ⟨#[97]⟩ [])]),13):=by rw[tD bMr,bMs,bMx];dsimp only;rw[bMy]
theorem bM0:cT cI 46 13=false:=by kernel_rfl
theorem aI1:aR cI 46 13=14:=by kernel_rfl
theorem aI2:eE cI 14=(false,⟨#[113]⟩,18):=by kernel_rfl
theorem bM1:cT cI 40 18=true:=by kernel_rfl
theorem bM2:aR cI 40 18=19:=by kernel_rfl
theorem aI3:bJ cI 19=⟨#[120]⟩:=by kernel_rfl
theorem aI4:aP cI 19=20:=by kernel_rfl
theorem bM3:cT cI 40 20=false:=by kernel_rfl
theorem bM4:aR cI 40 20=20:=by kernel_rfl
theorem aI5:cR cI ⟨#[120]⟩ 20=((.mk ⟨#[120]⟩ []),20):=by rw[tC bM3,bM4]
theorem bM5:cT cI 44 20=false:=by kernel_rfl
theorem bM6:aR cI 44 20=20:=by kernel_rfl
theorem bM7:iY cI ([]:List Tm) 19=([(.mk ⟨#[120]⟩ [])],20):=by rw[tE (by decide) (by rw[aI3,aI4,aI5];exact bM5),aI3,aI4,aI5];dsimp only;rw[bM6];rfl
theorem bM8:aR cI 41 20=21:=by kernel_rfl
theorem bM9:cR cI ⟨#[113]⟩ 18=((.mk ⟨#[113]⟩ [(.mk ⟨#[120]⟩ [])]),21):=by rw[tD bM1,bM2,bM7];dsimp only;rw[bM8]
theorem bNa:cT cI 46 21=true:=by kernel_rfl
theorem bNb:aR cI 46 21=22:=by kernel_rfl
theorem bNc:iL cI ([⟨false,(.mk ⟨#[113]⟩ [(.mk ⟨#[120]⟩ [])])⟩]:List Lt) 21=([⟨false,(.mk ⟨#[113]⟩ [(.mk ⟨#[120]⟩ [])])⟩],22):=by rw[xX (by decide) bNa,bNb]
theorem bNd:iL cI ([]:List Lt) 13=([⟨false,(.mk ⟨#[113]⟩ [(.mk ⟨#[120]⟩ [])])⟩],22):=by rw[V3 (by decide) bM0 (by rw[aI1,aI2];decide),aI1,aI2];dsimp only;rw[bM9];exact bNc
theorem bNe:iZ cI ⟨#[112]⟩ 10=(qP,22):=by unfold iZ;rw[bMz];dsimp only;rw[bNd];rfl
theorem bNf:bJ cI 22=⟨#[]⟩:=by kernel_rfl
theorem bNg:lP cI ([pI,qP]:List Rl) 22= [pI,qP]:=by rw[V6 (by rw[bNf];rfl)]
theorem bNh:lP cI ([pI]:List Rl) 8= [pI,qP]:=by rw[xY (by decide) (by rw[aIx];decide),aIx,bMq,bNe];exact bNg
theorem bNi:lP cI ([]:List Rl) 0= [pI,qP]:=by rw[xY (by decide) (by rw[aIt];decide),aIt,bMc,bMp];exact bNh
theorem Y3:kB [kV,lR]= [⟨1,0,0⟩,⟨4,0,0⟩,⟨4,0,1⟩,⟨1,1,0⟩,⟨2,1,0⟩,⟨3,1,0⟩,⟨4,1,1⟩,⟨4,1,2⟩,⟨4,1,3⟩,⟨4,1,5⟩]:=by kernel_rfl
theorem bNj:W4 [kV,lR] ⟨4,1,5⟩= [pI,qP]:=by kernel_rfl
end Go.Proofs.YtbgckcdddlmiaaaGreatDoor
