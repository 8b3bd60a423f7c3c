import Derived.Test.YtkbglbcphjmiiaaGreatDoorS8
import Derived.Test.YtkbglbcphjmiiaaGreatDoorS5
import Derived.Test.YtkbglbcphjmiiaaGreatDoorS6
set_option linter.unusedSimpArgs false
set_option linter.unusedVariables false
open Go.Proofs.Tryz
namespace Go.Proofs.YtkbglbcphjmiiaaGreatDoor
open Go.Ab
set_option maxRecDepth 100000
set_option maxHeartbeats 16000000
theorem cH0 {α:Type} {l:List α} {i j:Nat} (hi:i<l.length) (hj:j<l.length):fC (fC l i j) i j=l:=by
 refine List.ext_getElem? fun k=>?_
 rw[tU (by rw[vQ];exact hi) (by rw[vQ];exact hj),tU hi hj,tU hi hj,tU hi hj]
 by_cases h1:k=j
 ·subst h1
  rw[if_pos rfl]
  by_cases h2:i=k
  ·subst h2;rw[if_pos rfl]
  ·rw[if_neg h2,if_pos rfl]
 ·rw[if_neg h1]
  by_cases h2:k=i
  ·subst h2;rw[if_pos rfl,if_pos rfl]
  ·rw[if_neg h2,if_neg h1,if_neg h2]
def jV (r:Rl) (vs:List ByteArray) (B:Option Rl) (l:List ByteArray):Option Rl:=some (aHi (dF r vs l) B)
theorem cH1 (r:Rl) (vs l:List ByteArray) (B:Option Rl) (hvl:vs.length=l.length) (hlen:l.length≤5) (hvs:gA cD vs) (hh:r.head.size≤1000000) (hb: ∀b∈r.body,b.atom.size≤1000000) (hl:r.body.length≤12):
 MCall prog 38 [.ref 1101 0 l.length,.ptr 1102 0 0,.ptr 1103 0 0,.ptr 1104 0 0,.ptr 1105 0 0] (aH r vs l B) (fun v o'=>v= .tup []∧o'=aH r vs l (jV r vs B l)):=by
 unfold jV
 cases B with
 |none=>
  show MCall _ _ _ _ (fun v o'=>v= .tup []∧o'=aH r vs l (some (dF r vs l)))
  by_cases hn:l.length=0
  ·by_cases hb0:r.body.length=0
   ·exact cHo r vs l hvl hlen hvs hh hb hl hn hb0
   ·exact cHr r vs l hvl hlen hvs hh hb hl hn hb0
  ·by_cases hb0:r.body.length=0
   ·exact cHu r vs l hvl hlen hvs hh hb hl hn hb0
   ·exact cHx r vs l hvl hlen hvs hh hb hl hn hb0
 |some b=>
  have e:aHi (dF r vs l) (some b)=if dJ (dF r vs l) b<0 then dF r vs l else b:=rfl
  rw[e]
  by_cases hq:dJ (dF r vs l) b<0
  ·rw[if_pos hq]
   by_cases hn:l.length=0
   ·by_cases hb0:r.body.length=0
    ·exact cHp r vs l hvl hlen hvs hh hb hl hn hb0 b hq
    ·exact cHs r vs l hvl hlen hvs hh hb hl hn hb0 b hq
   ·by_cases hb0:r.body.length=0
    ·exact cHv r vs l hvl hlen hvs hh hb hl hn hb0 b hq
    ·exact cHy r vs l hvl hlen hvs hh hb hl hn hb0 b hq
  ·rw[if_neg hq]
   by_cases hn:l.length=0
   ·by_cases hb0:r.body.length=0
    ·exact cHq r vs l hvl hlen hvs hh hb hl hn hb0 b hq
    ·exact cHt r vs l hvl hlen hvs hh hb hl hn hb0 b hq
   ·by_cases hb0:r.body.length=0
    ·exact cHw r vs l hvl hlen hvs hh hb hl hn hb0 b hq
    ·exact cHz r vs l hvl hlen hvs hh hb hl hn hb0 b hq
abbrev fL:AV:= .clo 38 [.ptr 1102 0 0,.ptr 1103 0 0,.ptr 1104 0 0,.ptr 1105 0 0]
abbrev oE:AV:= .clo 75 [.ptr 1110 0 0,.ptr 1111 0 0,.ptr 1112 0 0,.ptr 1113 0 0]
abbrev dM (r:Rl) (vs l:List ByteArray) (B:Option Rl):aF:=(1110,aJ 1 (nt .i64 vs.length))::(1111,aJ 1 fL)::(1112,⟨false,true,true,1,[.ref 1101 0 vs.length],0⟩)::(1113,aJ 1 oE)::aH r vs l B
def sO (k a:Nat) (l:List ByteArray) (d:Nat):List (List ByteArray):=(List.range d).flatMap fun e=>iW k (a+1) (fC l a (a+e))
theorem cH2 {k a:Nat} {l:List ByteArray} {d:Nat}:sO k a l (d+1)=sO k a l d++iW k (a+1) (fC l a (a+d)):=by
 unfold sO
 rw[List.range_succ,List.flatMap_append]
 simp
theorem aHj {l:List ByteArray} {a i:Nat} (h:i<l.length):((l.map aI).set a (.sc (.string l[i])))[i]?=some (.sc (.string l[i])):=by
 rw[List.getElem?_set]
 by_cases e:a=i
 ·rw[if_pos e,if_pos (by rw[List.length_map];omega)]
 ·rw[if_neg e,List.getElem?_map,List.getElem?_eq_getElem h];rfl
theorem aHk (r:Rl) (vs:List ByteArray) (hlen:vs.length≤5) (hvs:gA cD vs) (hh:r.head.size≤1000000) (hb: ∀b∈r.body,b.atom.size≤1000000) (hl:r.body.length≤12): ∀(k a:Nat) (l:List ByteArray) (B:Option Rl),vs.length=l.length→a+k=vs.length→
 MCall prog 75 [nt .i64 a,.ptr 1110 0 0,.ptr 1111 0 0,.ptr 1112 0 0,.ptr 1113 0 0] (dM r vs l B) (fun v o'=>v= .tup []∧o'=dM r vs l ((iW k a l).foldl (jV r vs) B))
 |0,a,l,B,hvl,hak=>by
  have hd:=cH1 r vs l B hvl (by omega) hvs hh hb hl
  rw[←hvl]at hd
  obtain rfl:a=vs.length:=by omega
  rw[iW]
  show MCall _ _ _ _ (fun v o'=>v= .tup []∧o'=dM r vs l (jV r vs B l))
  generalize jV r vs B l=C at*
  refine cL func75 call75 rfl (by simp[ntmps75]) ?_;simp only[ntmps75,results75]
  repeat' (first|(refine aC fun _ _=>?_)|refine zHg ?_|simp(disch:=omega) [go_sem,dM,aH,aK,aJ,fL,oE,aL])
  refine bC [] [] 10000 _ _ (Fits.mk' (by simp[go_sem,dM,aH,aK,aJ,aL]) (by simp[go_sem,dM,aH,aK,aJ,aL])) (by simp[go_sem,dM,aH,aK,aJ,aL]) (by simp[go_sem,dM,aH,aK,aJ,aL]) (hd) (by simp[go_sem,dM,aH,aK,aJ,aL]) (by simp[go_sem,dM,aH,aK,aJ,aL]) ?_
  repeat' (first|simp(disch:=omega) [go_sem,dM,aH,aK,aJ,aL])
  refine cS ⟨51,[],dM r vs l C⟩ [] (Le.renSub [] [] (by simp[go_sem,dM,aH,aK,aJ,aL]) (by simp[go_sem,dM,aH,aK,aJ,aL]) (Le.sub4 rfl (by simp[go_sem,dM,aH,aK,aJ,aL]))) (by simp[go_sem,dM,aH,aK,aJ,aL]) ⟨rfl,rfl⟩
 |k+1,a,l,B,hvl,hak=>by
  have ih:=aHk r vs hlen hvs hh hb hl k (a+1)
  rw[iW]
  show MCall _ _ _ _ (fun v o'=>v= .tup []∧o'=dM r vs l ((sO k a l (k+1)).foldl (jV r vs) B))
  generalize hR:(sO k a l (k+1)).foldl (jV r vs) B=R
  refine cL func75 call75 rfl (by simp[ntmps75]) ?_;simp only[ntmps75,results75]
  repeat' (first|(refine aC fun _ _=>?_)|refine zHg ?_|(refine zqd ?_ ?_<;>(intro h;first|(exfalso;omega)|(simp only[h,zT])))|simp(disch:=omega) [go_sem,dM,aH,aK,aJ,fL,oE,aL])
  all_goals(first|omega|skip)
  refine bR [0,1,3,4] [1110,1111,1112,1113,1101,1102,1103,1104,1105,1106] (fun x:Nat×Option Rl=> [(6,nt .i64 x.1)]) (fun x:Nat×Option Rl=>dM r vs l x.2) (fun x:Nat×Option Rl=>vs.length - x.1) (fun x:Nat×Option Rl=>a≤x.1∧x.1≤vs.length∧x.2=(sO k a l (x.1 - a)).foldl (jV r vs) B) ((a,B)) (Le.sub4 rfl (by simp[go_sem,dM,aH,aK,aJ,aL])) ⟨?_⟩ ?_
  ·exact⟨Nat.le_refl _,by omega,by rw[Nat.sub_self];rfl⟩
  intro⟨i,C⟩ ⟨hi1,hi2,hC⟩ AA hAA;simp only[kL,Nat.reduceBEq,Nat.reduceEqDiff,if_true,if_false,List.cons_append,List.nil_append,List.append_nil]
  dsimp only at*
  by_cases hlt:i<vs.length
  ·have b1:a<l.length:=by omega
   have b2:i<l.length:=by omega
   have hsw1:=(vR b1 b2).symm
   have hWl:(fC l a i).length=l.length:=vQ _ _ _
   have hsw2:=cH0 b1 b2
   have hnx:=cH2 (k:=k) (a:=a) (l:=l) (d:=i - a)
   rw[show a+(i - a)=i by omega]at hnx
   have ih:=ih (fC l a i) C (by omega) (by omega)
   have hC':(iW k (a+1) (fC l a i)).foldl (jV r vs) C=(sO k a l (i - a+1)).foldl (jV r vs) B:=by rw[hnx,List.foldl_append,←hC]
   rw[hC']at ih
   generalize hC2:(sO k a l (i - a+1)).foldl (jV r vs) B=C' at*
   generalize fC l a i=W at*
   have c1:a<W.length:=by omega
   have c2:i<W.length:=by omega
   rw[vR c1 c2]at hsw2
   have hst1:=aHj (a:=a) b2
   have hst2:=aHj (a:=a) c2
   clear hnx hC' hR
   repeat' (first|(refine aC fun _ _=>?_)|refine zHg ?_|simp(disch:=omega) [go_sem,dM,aH,aK,aJ,fL,oE,aL,hlt,b1,b2,aI,hst1]|refine zAo ?_|refine zAny bE ?_|refine gH ?_|refine zDone ?_|refine bI 0 rfl (by decide+kernel) (by decide+kernel) rfl rfl rfl ?_|refine bI 1 rfl (by decide+kernel) (by decide+kernel) rfl rfl rfl ?_|refine bI 2 rfl (by decide+kernel) (by decide+kernel) rfl rfl rfl ?_|refine bI 3 rfl (by decide+kernel) (by decide+kernel) rfl rfl rfl ?_|refine bI 4 rfl (by decide+kernel) (by decide+kernel) rfl rfl rfl ?_|refine bI 5 rfl (by decide+kernel) (by decide+kernel) rfl rfl rfl ?_|refine bI 6 rfl (by decide+kernel) (by decide+kernel) rfl rfl rfl ?_|refine bI 8 rfl (by decide+kernel) (by decide+kernel) rfl rfl rfl ?_|refine bI 9 rfl (by decide+kernel) (by decide+kernel) rfl rfl rfl ?_|refine bI 10 rfl (by decide+kernel) (by decide+kernel) rfl rfl rfl ?_|refine bI 12 rfl (by decide+kernel) (by decide+kernel) rfl rfl rfl ?_|refine bI 14 rfl (by decide+kernel) (by decide+kernel) rfl rfl rfl ?_|(refine zAll ?_;show eN _ _ _ _ _ _ _)|exact gI|refine zSkip ?_|refine gJ rfl ?_ ?_)
   all_goals refine bC [] [] 10000 _ _ (Fits.mk' (by simp[go_sem,dM,aH,aK,aJ,aL,rH,hsw1,-List.map_set]) (by simp[go_sem,dM,aH,aK,aJ,aL,rH,hsw1,-List.map_set])) (by simp[go_sem,dM,aH,aK,aJ,aL,rH,hsw1,-List.map_set]) (by simp[go_sem,dM,aH,aK,aJ,aL,rH,hsw1,-List.map_set]) (ih) (by simp[go_sem,dM,aH,aK,aJ,aL,rH,hsw1,-List.map_set]) (by simp[go_sem,dM,aH,aK,aJ,aL,rH,hsw1,-List.map_set]) ?_
   all_goals repeat' (first|refine zHg ?_|(refine(hAA.next ((i+1,C')) (Le.sub4 rfl (by simp[go_sem,dM,aH,aK,aJ,aL,rH,hsw2,-List.map_set])) (by(try dsimp only);omega) ?_))|simp(disch:=omega) [go_sem,dM,aH,aK,aJ,fL,oE,aL,c1,c2,aI,hst2]|refine zAo ?_|refine zAny bE ?_|refine gH ?_|refine zDone ?_|refine bI 0 rfl (by decide+kernel) (by decide+kernel) rfl rfl rfl ?_|refine bI 1 rfl (by decide+kernel) (by decide+kernel) rfl rfl rfl ?_|refine bI 2 rfl (by decide+kernel) (by decide+kernel) rfl rfl rfl ?_|refine bI 3 rfl (by decide+kernel) (by decide+kernel) rfl rfl rfl ?_|refine bI 4 rfl (by decide+kernel) (by decide+kernel) rfl rfl rfl ?_|refine bI 5 rfl (by decide+kernel) (by decide+kernel) rfl rfl rfl ?_|refine bI 6 rfl (by decide+kernel) (by decide+kernel) rfl rfl rfl ?_|refine bI 8 rfl (by decide+kernel) (by decide+kernel) rfl rfl rfl ?_|refine bI 9 rfl (by decide+kernel) (by decide+kernel) rfl rfl rfl ?_|refine bI 10 rfl (by decide+kernel) (by decide+kernel) rfl rfl rfl ?_|refine bI 12 rfl (by decide+kernel) (by decide+kernel) rfl rfl rfl ?_|refine bI 14 rfl (by decide+kernel) (by decide+kernel) rfl rfl rfl ?_|(refine zAll ?_;show eN _ _ _ _ _ _ _)|exact gI|refine zSkip ?_|refine gJ rfl ?_ ?_)
   all_goals(first|omega|skip)
   all_goals exact⟨⟨by omega,hlt,by rw[show i+1 - a=i - a+1 by omega,hC2]⟩⟩
  ·obtain rfl:i=vs.length:=by omega
   rw[show vs.length - a=k+1 by omega,hR]at hC
   subst hC
   repeat' (first|(refine aC fun _ _=>?_)|refine zHg ?_|simp(disch:=omega) [go_sem,dM,aH,aK,aJ,fL,oE,aL])
   refine eR ⟨51,[],dM r vs l C⟩ [] (Le.renSub [] [] (by simp[go_sem,dM,aH,aK,aJ,aL]) (by simp[go_sem,dM,aH,aK,aJ,aL]) (Le.sub4 rfl (by simp[go_sem,dM,aH,aK,aJ,aL]))) (by simp[go_sem,dM,aH,aK,aJ,aL]) ⟨rfl,rfl⟩
theorem Z3 {lv:Int} {v:Bool} (l:List Tm):gS lv v l=l.all (eW lv v):=by
 induction l with
 |nil=>rfl
 |cons t r ih=>
  rw[List.all_cons,←ih]
  rfl
theorem cH3 {f:ByteArray→ByteArray}: ∀(t:Tm) (lv:Int),(∀v∈cX t,cA v=true→cA (f v)=true)→eW lv true (dP f t)=eW lv true t:=by
 refine dS fun t ih lv h=>?_
 obtain⟨n,ts⟩:=t
 simp only[cT]at ih
 rw[oX]
 by_cases h0:ts.length=0
 ·obtain rfl:=List.eq_nil_of_length_eq_zero h0
  simp only[List.length_nil,if_true]
  rw[tW,tW]
  by_cases hv:cA n=true
  ·have:=h n (by rw[lK,if_pos h0];simp) hv
   rw[if_pos hv,this,hv]
   simp
  ·rw[if_neg hv]
 ·rw[if_neg h0,tW,tW,List.length_map]
  split
  ·rfl
  ·rw[Z3,Z3,List.all_map]
   congr 1
   refine Bool.eq_iff_iff.2 ?_
   rw[List.all_eq_true,List.all_eq_true]
   have e: ∀u∈ts,eW (lv - 1) true (dP f u)=eW (lv - 1) true u:=fun u hu=>ih u hu _ fun v hv=>h v (by
    rw[lK,if_neg h0]
    exact zB.2 ⟨u,hu,hv⟩)
   exact⟨fun q u hu=>(e u hu).symm.trans (q u hu),fun q u hu=>(e u hu).trans (q u hu)⟩
def gN (t:Tm):Bool:=lI t.name&&eW 4 true t
theorem aHl {f:ByteArray→ByteArray} {t:Tm} (h: ∀v∈cX t,cA v=true→cA (f v)=true) (ht:gN t=true):gN (dP f t)=true:=by
 unfold gN at*
 rw[Bool.and_eq_true]at ht ⊢
 refine⟨?_,(cH3 t 4 h).trans ht.2⟩
 obtain⟨n,ts⟩:=t
 rw[oX]
 have hn:lI n=true:=ht.1
 split
 ·have hv:cA n=false:=cGg (by unfold pT;rw[hn];rfl)
  rw[if_neg (by rw[hv];simp)]
  exact hn
 ·exact hn
def pB (r:Rl):Bool:=decide (r.body.length≤8)&&(jJ r).all gN
theorem uL {r:Rl}:pB r=true↔r.body.length≤8∧gN r.head=true∧ ∀b∈r.body,gN b.atom=true:=by
 unfold pB jJ
 rw[Bool.and_eq_true,decide_eq_true_eq,List.all_eq_true]
 simp
def dB (r:Rl):Int:=if pB r=true then(if 5<(bQ r).length then 11 else 0)else 13
theorem rI {r:Rl}:dB r=0↔pB r=true∧(bQ r).length≤5:=by
 unfold dB
 split
 ·rename_i h
  split
  ·simp[h];omega
  ·simp[h];omega
 ·rename_i h
  simp[h]
theorem aHm {r r':Rl} {f:ByteArray→ByteArray} (hi: ∀v∈bQ r,∀w∈bQ r,f v=f w→v=w) (hv: ∀v∈bQ r,cA (f v)=true)
 (hh:r'.head=dP f r.head) (hb: ∀b,b∈r'.body↔b∈(fK f r).body) (hl:r'.body.length≤8) (h0:dB r=0):dB r'=0∧eU r'=eU r:=by
 rw[rI,uL]at h0
 obtain⟨⟨h1,h2,h3⟩,h4⟩:=h0
 have hp:=aGe hi hv hh hb
 refine⟨rI.2 ⟨uL.2 ⟨hl,?_,fun b hb'=>?_⟩,by rw[hp.length_eq,List.length_map];exact h4⟩,cGm fun x=>(cFj hi hv hh hb x)⟩
 ·rw[hh]
  exact aHl (fun v hm hvv=>hv v (pY.2 ⟨.inl hm,hvv⟩)) h2
 ·obtain⟨b0,hb0,rfl⟩:=List.mem_map.1 ((hb b).1 hb')
  exact aHl (fun v hm hvv=>hv v (pY.2 ⟨.inr ⟨b0,hb0,hm⟩,hvv⟩)) (h3 b0 hb0)
theorem cH4 {i:Nat} (h:i<5):cA (zC i)=true:=by
 have:i=0∨i=1∨i=2∨i=3∨i=4:=by omega
 rcases this with rfl|rfl|rfl|rfl|rfl<;>decide+kernel
theorem Z4 {r:Rl} (h0:dB r=0):dB (eU r)=0∧eU (eU r)=eU r:=by
 obtain⟨f,h1,h2⟩:=aGv r
 have hz:=h0
 rw[rI,uL]at hz
 have hn:((bQ r).map f).Nodup:=h1.nodup_iff.2 (I2 List.nodup_range fun a ha b hb e=>by
  rw[List.mem_range]at ha hb
  have h5:a<5:=by omega
  have h6:b<5:=by omega
  have h7:(a=0∨a=1∨a=2∨a=3∨a=4)∧(b=0∨b=1∨b=2∨b=3∨b=4):=by omega
  rcases h7 with⟨rfl|rfl|rfl|rfl|rfl,rfl|rfl|rfl|rfl|rfl⟩<;>first|rfl|(exact absurd e (by decide+kernel)))
 refine aHm (f:=f) (X0 hn) (fun v hv=>?_) (by rw[h2];rfl) (fun b=>?_) ?_ h0
 ·have:f v∈gT (bQ r).length:=h1.mem_iff.1 (List.mem_map.2 ⟨v,hv,rfl⟩)
  obtain⟨i,hi,e⟩:=List.mem_map.1 this
  rw[←e]
  rw[List.mem_range]at hi
  exact cH4 (by omega)
 ·rw[h2]
  exact sK oV _ _
 ·rw[h2]
  have:=sL (c:=bU) (fK f r).body
  have e:(fK f r).body.length=r.body.length:=by unfold fK;simp
  show(eH bU (fK f r).body).length≤8
  omega
def qC:List Rl→Int
 | []=>0
 |r::q=>if dB r=0 then qC q else dB r
theorem aHn: ∀{l:List Rl},qC l=0↔ ∀r∈l,dB r=0
 | []=>by simp[qC]
 |r::q=>by
  rw[qC]
  split
  ·rename_i h
   rw[aHn]
   simp[h]
  ·rename_i h
   simp[h]
def sP (l:List Rl):Int:=if 128<l.length then 2 else qC l
def K1 (l:List Rl):List Rl:=eH dJ (l.map eU)
structure SzR (r:Rl):Prop where
 head:r.head.size≤20
 body:r.body.length≤12
 atom: ∀b∈r.body,b.atom.size≤20
def nB (r:Rl) (i:Nat):List Tm:=r.head::(r.body.take i).map Lt.atom
theorem cH5 {r:Rl} {i:Nat} (h:i<r.body.length):nB r (i+1)=nB r i++ [r.body[i].atom]:=by
 unfold nB;rw[iT h,List.map_append];rfl
theorem cH6 {r:Rl} {i:Nat} (h:i≤r.body.length):(nB r i).length=i+1:=by
 unfold nB;rw[List.length_cons,List.length_map,List.length_take];omega
theorem cH7 (r:Rl):nB r r.body.length=jJ r:=by unfold nB jJ;rw[List.take_length]
theorem cH8 (r:Rl):nB r 0= [r.head]:=rfl
theorem aHo (r:Rl) (hl:r.body.length≤1000000):ACall prog 35 [bN r] (fun v=>v= .own 2 ((jJ r).map bO)):=by
 rw[←cH7]
 have hz:=cH8 r
 have hz2:(nB r 0).map bO= [eT r.head]:=by rw[hz];simp[G7]
 refine bD func35 call35 rfl (by simp[ntmps35]) ?_;simp only[ntmps35,results35]
 repeat' (first|(refine aC fun _ _=>?_)|refine zHg ?_|simp(disch:=omega) [go_sem])
 refine bR [10,11] [8] (fun i:Nat=> [(12,nt .i64 i),(3,.ref 8 0 (i+1))]) (fun i:Nat=> [(8,⟨true,false,false,2,(nB r i).map bO,0⟩)]) (fun i:Nat=>r.body.length - i) (fun i:Nat=>i≤r.body.length) (0) (Le.sub4 rfl (by simp[go_sem,hz2])) ⟨?_⟩ ?_
 ·exact Nat.zero_le _
 intro i hi AA hAA;simp only[kL,Nat.reduceBEq,Nat.reduceEqDiff,if_true,if_false,List.cons_append,List.nil_append,List.append_nil]
 have hal:=cH6 hi
 by_cases hlt:i<r.body.length
 ·have hnx:=cH5 hlt
  have hne:(nB r (i+1)).map bO=(nB r i).map bO++ [eT r.body[i].atom]:=by rw[hnx,List.map_append];simp[G7]
  generalize(nB r i)=A at*
  repeat' (first|(refine aC fun _ _=>?_)|refine zHg ?_|(refine(hAA.next (i+1) (Le.sub4 rfl (by simp[go_sem,hne,hal])) (by(try dsimp only);omega) ?_))|simp(disch:=omega) [go_sem,hlt,hal]|refine zAo ?_|fail)
  all_goals(first|omega|skip)
  exact⟨hlt⟩
 ·obtain rfl:i=r.body.length:=by omega
  rw[←hal]
  repeat' (first|(refine aC fun _ _=>?_)|refine zHg ?_|(refine aT [] ?_;simp[go_sem,hal])|simp(disch:=omega) [go_sem,hal])
theorem cH9 (r:Rl) (hl:r.body.length≤1000000):ACall prog 33 [bN r] (fun v=>v=bl (pB r)):=by
 have ha:=aHo r hl
 have hal:(jJ r).length=r.body.length+1:=by unfold jJ;simp
 generalize hV:pB r=V
 unfold pB at hV
 by_cases h8:r.body.length≤8
 ·have h8': ¬(8:Int)<r.body.length:=by omega
  rw[decide_eq_true h8,Bool.true_and]at hV
  generalize jJ r=L at*
  refine bD func33 call33 rfl (by simp[ntmps33]) ?_;simp only[ntmps33,results33]
  repeat' (first|(refine aC fun _ _=>?_)|refine zHg ?_|refine aP rfl (ha) (by simp) ?_|simp(disch:=omega) [go_sem,h8'])
  refine bR [10,11] [] (fun i:Nat=> [(12,nt .i64 i)]) (fun i:Nat=> []) (fun i:Nat=>L.length - i) (fun i:Nat=>i≤L.length∧ ∀(k:Nat) (hk:k<L.length),k<i→gN L[k]=true) (0) (Le.sub4 rfl (by simp[go_sem])) ⟨?_⟩ ?_
  ·exact⟨Nat.zero_le _,fun k _ hk=>absurd hk (Nat.not_lt_zero _)⟩
  intro i ⟨hi,hn⟩ AA hAA;simp only[kL,Nat.reduceBEq,Nat.reduceEqDiff,if_true,if_false,List.cons_append,List.nil_append,List.append_nil]
  by_cases hlt:i<L.length
  ·have h1:=aE8 L[i].name
   have h2:=cD7 L[i]
   have hbad:gN L[i]=false→V=false:=fun h=>by
    rw[←hV,List.all_eq_false]
    exact⟨_,List.getElem_mem hlt,by rw[h];simp⟩
   have hgo:gN L[i]=true→ ∀(k:Nat) (hk:k<L.length),k<i+1→gN L[k]=true:=fun h k hk hki=>by
    rcases Nat.lt_or_eq_of_le (Nat.le_of_lt_succ hki)with h'|rfl
    ·exact hn k hk h'
    ·exact h
   unfold gN at hbad hgo
   clear hV hn
   cases q1:lI L[i].name
   ·rw[q1]at h1 hbad
    obtain rfl:=hbad rfl
    repeat' (first|(refine aC fun _ _=>?_)|refine zHg ?_|(refine aT [] ?_;simp[go_sem,hlt])|refine aP rfl (h1) (by simp) ?_|simp(disch:=omega) [go_sem,hlt])
   ·rw[q1]at h1 hbad hgo
    cases q2:eW 4 true L[i]
    ·rw[q2]at h2 hbad
     obtain rfl:=hbad rfl
     repeat' (first|(refine aC fun _ _=>?_)|refine zHg ?_|(refine aT [] ?_;simp[go_sem,hlt])|refine aP rfl (h1) (by simp) ?_|refine aP rfl (h2) (by simp) ?_|simp(disch:=omega) [go_sem,hlt])
    ·rw[q2]at h2 hgo
     have hgo:=hgo rfl
     repeat' (first|(refine aC fun _ _=>?_)|refine zHg ?_|refine aP rfl (h1) (by simp) ?_|refine aP rfl (h2) (by simp) ?_|(refine(hAA.next (i+1) (Le.sub4 rfl (by simp[go_sem])) (by(try dsimp only);omega) ?_))|simp(disch:=omega) [go_sem,hlt])
     all_goals(first|omega|skip)
     exact⟨hlt,hgo⟩
  ·obtain rfl:i=L.length:=by omega
   have hu:V=true:=by
    rw[←hV,List.all_eq_true]
    intro t ht
    obtain⟨k,hk,rfl⟩:=List.mem_iff_getElem.1 ht
    exact hn k hk hk
   subst hu
   repeat' (first|(refine aC fun _ _=>?_)|refine zHg ?_|(refine aT [] ?_;simp[go_sem])|simp(disch:=omega) [go_sem])
 ·have h8':(8:Int)<r.body.length:=by omega
  rw[decide_eq_false h8,Bool.false_and]at hV
  subst hV
  refine bD func33 call33 rfl (by simp[ntmps33]) ?_;simp only[ntmps33,results33]
  repeat' (first|(refine aC fun _ _=>?_)|refine zHg ?_|(refine aT [] ?_;simp[go_sem,h8'])|simp(disch:=omega) [go_sem,h8'])
def qD (n:Nat):ByteArray:=⟨#[UInt8.ofNat (48+n)]⟩
theorem cIa (n:Nat) (h:1≤n∧n≤5):ACall prog 169 [nt .i64 n] (fun r=>r= .sc (.string (qD n))):=by
 have hc:n=1∨n=2∨n=3∨n=4∨n=5:=by omega
 rcases hc with rfl|rfl|rfl|rfl|rfl
 all_goals refine bD func169 call169 rfl (by simp[ntmps169]) ?_;simp only[ntmps169,results169]
 all_goals repeat' (first|(refine aC fun _ _=>?_)|refine zHg ?_|(refine aT [] ?_;simp[go_sem])|simp(disch:=omega) [go_sem])
 all_goals kernel_rfl
theorem cIb (n:Nat) (h:1≤n∧n≤5):ACall prog 150 [nt .i64 n,nt .i64 10] (fun r=>r= .sc (.string (qD n))):=by
 have h1:=cIa n h
 have a1:(0:Int)≤n:=by omega
 have a2:(n:Int)<100:=by omega
 generalize qD n=q at*
 refine bD func150 call150 rfl (by simp[ntmps150]) ?_;simp only[ntmps150,results150]
 repeat' (first|(refine aC fun _ _=>?_)|refine zHg ?_|(refine aT [] ?_;simp[go_sem,a1,a2])|refine aP rfl (h1) (by simp) ?_|simp(disch:=omega) [go_sem,a1,a2])
theorem cIc (n:Nat) (h:1≤n∧n≤5):ACall prog 120 [nt .i64 n] (fun r=>r= .sc (.string (qD n))):=by
 have h1:=cIb n h
 generalize qD n=q at*
 refine bD func120 call120 rfl (by simp[ntmps120]) ?_;simp only[ntmps120,results120]
 repeat' (first|(refine aC fun _ _=>?_)|refine zHg ?_|(refine aT [] ?_;simp[go_sem])|refine aP rfl (h1) (by simp) ?_|simp(disch:=omega) [go_sem])
theorem cId (n:Nat) (h:1≤n∧n≤5):ACall prog 74 [nt .i64 n] (fun r=>r= .sc (.string (qD n))):=by
 have h1:=cIc n h
 generalize qD n=q at*
 refine bD func74 call74 rfl (by simp[ntmps74]) ?_;simp only[ntmps74,results74]
 repeat' (first|(refine aC fun _ _=>?_)|refine zHg ?_|(refine aT [] ?_;simp[go_sem])|refine aP rfl (h1) (by simp) ?_|simp(disch:=omega) [go_sem])
def nC (n i:Nat):List ByteArray:=(gT n).take i++List.replicate (n - i) ⟨#[]⟩
theorem cIe (n:Nat):nC n 0=List.replicate n ⟨#[]⟩:=by unfold nC;simp
theorem cIf (n:Nat):nC n n=gT n:=by unfold nC;rw[Nat.sub_self,List.take_of_length_le (by rw[pX];exact Nat.le_refl _)];simp
theorem cIg {n i:Nat} (h:i≤n):(nC n i).length=n:=by unfold nC;rw[List.length_append,List.length_take,pX,List.length_replicate];omega
theorem cIh {n i:Nat} (h:i<n):(nC n i).set i (zC i)=nC n (i+1):=by
 unfold nC
 have hl:((gT n).take i).length=i:=by rw[List.length_take,pX];omega
 have hi:i<(gT n).length:=by rw[pX];exact h
 rw[List.set_append_right _ _ (by omega),hl,Nat.sub_self,iT hi,List.append_assoc]
 congr 1
 rw[show n - i=n - (i+1)+1 by omega,List.replicate_succ,List.set_cons_zero]
 congr 1
 simp[gT]
theorem cIi {i:Nat} (h:i<5):(⟨#[86]⟩:ByteArray)++qD (i+1)=zC i:=by
 have hc:i=0∨i=1∨i=2∨i=3∨i=4:=by omega
 rcases hc with rfl|rfl|rfl|rfl|rfl<;>rfl
abbrev fS (r:Rl) (vs:List ByteArray) (B:Option Rl):aF:= [(1102,aJ 1 (.ref 1106 0 vs.length)),(1103,aJ 3 (bN r)),(1104,aJ 1 (bl B.isNone)),(1105,aJ 3 (aL B)),(1106,aK vs)]
theorem cIj (r:Rl) (vs:List ByteArray) (hlen:vs.length≤5) (hvs:gA cD vs) (hh:r.head.size≤1000000) (hb: ∀b∈r.body,b.atom.size≤1000000) (hl:r.body.length≤12):
 MCall prog 37 [nt .i64 vs.length,fL] (fS r vs none) (fun v o'=>v= .tup []∧o'=fS r vs ((iW vs.length 0 (gT vs.length)).foldl (jV r vs) none)):=by
 have hf:=aHk r vs hlen hvs hh hb hl vs.length 0 (gT vs.length) none (by rw[pX]) (by omega)
 generalize(iW vs.length 0 (gT vs.length)).foldl (jV r vs) none=C at*
 have hz:(nC vs.length 0).map aI=List.replicate vs.length (.sc (.string ⟨#[]⟩)):=by rw[cIe,List.map_replicate];rfl
 refine cL func37 call37 rfl (by simp[ntmps37]) ?_;simp only[ntmps37,results37]
 repeat' (first|(refine aC fun _ _=>?_)|refine zHg ?_|simp(disch:=omega) [go_sem,fS,aK,aJ,fL,aL,aN]|refine zAo ?_|fail)
 refine bR [2,3,4,10] [8,4] (fun i:Nat=> [(11,nt .i64 i)]) (fun i:Nat=> [(8,⟨true,false,false,1,(nC vs.length i).map aI,0⟩),(4,⟨false,true,false,1,[.ref 8 0 vs.length],0⟩)]) (fun i:Nat=>vs.length - i) (fun i:Nat=>i≤vs.length) (0) (by refine Le.trans ?_ (Le.frz 4 rfl (by show(0:Nat)≠1;decide));exact(Le.sub4 rfl (by simp[go_sem,hz,fS,aK,aJ,fL,aL,aN]))) ⟨?_⟩ ?_
 ·exact Nat.zero_le _
 intro i hi AA hAA;simp only[kL,Nat.reduceBEq,Nat.reduceEqDiff,if_true,if_false,List.cons_append,List.nil_append,List.append_nil]
 have hpl:=cIg hi
 by_cases hlt:i<vs.length
 ·have hit:=cId (i+1) ⟨by omega,by omega⟩
  have hct:=cIi (i:=i) (by omega)
  have hst:=cIh hlt
  have hlt2:i<(nC vs.length i).length:=by omega
  generalize nC vs.length i=P at*
  have hqs:(qD (i+1)).size=1:=rfl
  generalize qD (i+1)=q at*
  generalize zC i=w at*
  repeat' (first|(refine aC fun _ _=>?_)|refine zHg ?_|refine cP rfl (hit) rfl (by simp) ?_|(refine(hAA.next (i+1) (Le.sub4 rfl (by simp[go_sem,hst,rH,-List.map_set])) (by(try dsimp only);omega) ?_))|simp(disch:=omega) [go_sem,hlt,hlt2,hct,aI]|refine zAo ?_|refine zDr 7 bE ?_|fail)
  all_goals(first|omega|skip)
  all_goals exact⟨hlt⟩
 ·obtain rfl:i=vs.length:=by omega
  rw[cIf]at hpl ⊢
  repeat' (first|(refine aC fun _ _=>?_)|refine zHg ?_|simp(disch:=omega) [go_sem,fS,aK,aJ,fL,aL,aN,hpl])
  refine bC [(1110,2),(1111,3),(1112,4),(1113,6),(1101,8)] [(2,1110),(3,1111),(4,1112),(6,1113),(8,1101)] 10000 _ _ (Fits.mk' (by simp[go_sem,dM,aH,fS,aK,aJ,fL,oE,aL,aN]) (by simp[go_sem,dM,aH,fS,aK,aJ,fL,oE,aL,aN])) (by simp[go_sem,dM,aH,fS,aK,aJ,fL,oE,aL,aN]) (by simp[go_sem,dM,aH,fS,aK,aJ,fL,oE,aL,aN]) (hf) (by simp[go_sem,dM,aH,fS,aK,aJ,fL,oE,aL,aN]) (by simp[go_sem,dM,aH,fS,aK,aJ,fL,oE,aL,aN]) ?_
  repeat' (first|simp(disch:=omega) [go_sem,fS,aK,aJ,fL,aL,aN])
  refine eR ⟨25,[],fS r vs C⟩ [] (Le.renSub [] [] (by simp[go_sem,fS,aK,aJ,fL,aL,aN]) (by simp[go_sem,fS,aK,aJ,fL,aL,aN]) (Le.sub4 rfl (by simp[go_sem,fS,aK,aJ,fL,aL,aN]))) (by simp[go_sem,fS,aK,aJ,fL,aL,aN]) ⟨rfl,rfl⟩
theorem aHp (r:Rl) (vs:List ByteArray): ∀(L:List (List ByteArray)) (b:Rl),L.foldl (jV r vs) (some b)=some (jI dJ b (L.map (dF r vs)))
 | [],b=>rfl
 |l::L,b=>by
  rw[List.foldl_cons]
  show L.foldl (jV r vs) (some (if dJ (dF r vs l) b<0 then dF r vs l else b))=_
  rw[aHp r vs L]
  rfl
theorem cIk (r:Rl):(iW (bQ r).length 0 (gT (bQ r).length)).foldl (jV r (pZ r)) none=some (eU r):=by
 have hne:iW (bQ r).length 0 (gT (bQ r).length)≠ []:=fun h=>by
  have:gT (bQ r).length∈iW (bQ r).length 0 (gT (bQ r).length):=(vZ _ 0 _ _ (by rw[pX];omega)).2 ⟨.refl _,rfl⟩
  rw[h]at this
  simp at this
 unfold eU
 generalize iW (bQ r).length 0 (gT (bQ r).length)=L at*
 cases L with
 |nil=>exact absurd rfl hne
 |cons l L=>
  rw[List.foldl_cons]
  show L.foldl (jV r (pZ r)) (some (dF r (pZ r) l))=_
  rw[aHp]
  rfl
theorem cIl {r:Rl} {m:List ByteArray} (hp:m.Perm (bQ r)) (hs:SrtOn cD m 0 (bQ r).length):m=pZ r:=by
 have hn:m.Nodup:=hp.nodup_iff.2 (vX r)
 refine yW rC (List.pairwise_iff_getElem.2 fun i j hi hj hij=>?_) (uB rC _) fun x=>?_
 ·have h1:=hs i j m[i] m[j] (Nat.zero_le _) hij (by rw[←hp.length_eq];exact hj) (List.getElem?_eq_getElem hi) (List.getElem?_eq_getElem hj)
  rcases Int.lt_or_eq_of_le h1 with h|h
  ·exact h
  ·have e:=sH.1 h
   exact absurd e (List.pairwise_iff_getElem.1 hn i j hi hj hij)
 ·rw[hp.mem_iff];exact(sK rC _ x).symm
theorem cIm (r:Rl) (h:SzR r):(cE (jJ r)).length≤1000:=by
 have key: ∀l:List Tm,(∀t∈l,t.size≤20)→(cE l).length≤20*l.length:=by
  intro l
  induction l with
  |nil=>intro _;simp[cE]
  |cons t q ih=>
   intro hq
   have e:cE (t::q)=cX t++cE q:=rfl
   rw[e,List.length_append,List.length_cons]
   have h1:=zH t
   have h2:=hq t (by simp)
   have h3:=ih fun u hu=>hq u (by simp[hu])
   omega
 have h1:=key (jJ r) (fun t ht=>by
  rcases List.mem_cons.1 ht with rfl|ht
  ·exact h.head
  ·obtain⟨b,hb,rfl⟩:=List.mem_map.1 ht
   exact h.atom b hb)
 have h2:(jJ r).length=r.body.length+1:=by unfold jJ;simp
 have:=h.body
 omega
def iD (r:Rl):Rl:=if dB r=0 then eU r else zR
theorem sQ (r:Rl) (hz:SzR r):ACall prog 14 [bN r] (fun v=>v= .tup [bN (iD r),nt .i64 (dB r)]):=by
 have hb:=hz.body
 have hp:=cH9 r (by omega)
 have ha:=aHo r (by omega)
 have hv:=cFc (jJ r) true false (by have:=cIm r hz;omega)
 have e:kR (jJ r)=bQ r:=rfl
 rw[e]at hv
 unfold iD
 by_cases hvl:pB r=true
 ·rw[hvl]at hp
  by_cases h5:5<(bQ r).length
  ·have e1:dB r=11:=by unfold dB;rw[if_pos hvl,if_pos h5]
   rw[e1,if_neg (by decide)]
   have h5':(5:Int)<(bQ r).length:=by omega
   refine ACall.looseT (x:= .agg [.sc (.string ⟨#[]⟩),.list false true [],.list false true []]) rfl ?_
   generalize bQ r=V at*
   generalize jJ r=A at*
   have hlenT:True:=trivial
   refine bD func14 call14 rfl (by simp[ntmps14]) ?_;simp only[ntmps14,results14]
   repeat' (first|(refine aC fun _ _=>?_)|refine zHg ?_|(refine aT [] ?_;simp[go_sem,h5',hlenT])|refine aP rfl (hp) (by simp) ?_|refine aP rfl (ha) (by simp) ?_|(refine aP ?hl (hv) (by simp) ?_;(case hl=>(simp[go_sem,h5',hlenT];done)))|simp(disch:=omega) [go_sem,h5',hlenT])
  ·have e1:dB r=0:=by unfold dB;rw[if_pos hvl,if_neg h5]
   rw[e1,if_pos rfl]
   have h5': ¬(5:Int)<(bQ r).length:=by omega
   have hs:=cHk (bQ r) (by omega)
   have ho:=cIj r (pZ r) (by rw[(J3 r).length_eq];omega) (uB rC _) (by have:=hz.head;omega) (fun b hb=>by have:=hz.atom b hb;omega) hb
   rw[(J3 r).length_eq,cIk]at ho
   have hsv:=(J3 r).length_eq
   have hlenT:True:=trivial
   refine bD func14 call14 rfl (by simp[ntmps14]) ?_;simp only[ntmps14,results14]
   repeat' (first|(refine aC fun _ _=>?_)|refine zHg ?_|refine aP rfl (hp) (by simp) ?_|refine aP rfl (ha) (by simp) ?_|(refine aP ?hl (hv) (by simp) ?_;(case hl=>(simp[go_sem,h5',hlenT];done)))|simp(disch:=omega) [go_sem,h5',hlenT])
   refine qW [(1000,13)] [(13,1000)] 10000 _ _ (Fits.mk' (by simp[go_sem]) (by simp[go_sem])) (by simp[go_sem]) (by simp[go_sem]) (hs) (by simp[go_sem]) (by intros;simp[go_sem]) ?_;intro m hm
   obtain rfl:=cIl hm.1 hm.2
   repeat' (first|(refine aC fun _ _=>?_)|refine zHg ?_|simp(disch:=omega) [go_sem,h5'])
   refine bC [(1102,4),(1103,1),(1104,6),(1105,5),(1106,13)] [(4,1102),(1,1103),(6,1104),(5,1105),(13,1106)] 20000 _ _ (Fits.mk' (by simp[go_sem,fS,aK,aJ,fL,aL,aN,hsv]) (by simp[go_sem,fS,aK,aJ,fL,aL,aN,hsv])) (by simp[go_sem,fS,aK,aJ,fL,aL,aN,hsv]) (by simp[go_sem,fS,aK,aJ,fL,aL,aN,hsv]) (ho) (by simp[go_sem,fS,aK,aJ,fL,aL,aN,hsv]) (by simp[go_sem,fS,aK,aJ,fL,aL,aN,hsv]) ?_
   repeat' (first|(refine aC fun _ _=>?_)|refine zHg ?_|(refine aT [] ?_;simp[go_sem,fS,aK,aJ,aL,aN])|simp(disch:=omega) [go_sem,fS,aK,aJ,aL,aN])
 ·have e1:dB r=13:=by unfold dB;rw[if_neg hvl]
  rw[e1,if_neg (by decide)]
  rw[Bool.not_eq_true]at hvl
  rw[hvl]at hp
  refine ACall.looseT (x:= .agg [.sc (.string ⟨#[]⟩),.list false true [],.list false true []]) rfl ?_
  refine bD func14 call14 rfl (by simp[ntmps14]) ?_;simp only[ntmps14,results14]
  repeat' (first|(refine aC fun _ _=>?_)|refine zHg ?_|(refine aT [] ?_;simp[go_sem])|refine aP rfl (hp) (by simp) ?_|simp(disch:=omega) [go_sem])
set_option maxHeartbeats 8000000
theorem cIn (s:List Bd) (v:ByteArray) (le fu:Bool):ACall prog 128 [.list le fu (s.map bK),.sc (.string v)] (fun r=>r= .tup [eT (kU s v).1,bl (kU s v).2]):=by
 refine ACall.bound (i:=0) rfl call128 fun hb=>?_
 rw[List.length_map]at hb
 have hb:s.length≤140737488355328:=hb
 have hx: ∃x:AV,x.pure=true∧ACall prog 128 [.list le fu (s.map bK),.sc (.string v)] (fun r=>r= .tup [x,bl (kU s v).2])∧eT (kU s v).1=Ab.loose x:=by
  cases hq:fH s v with
  |some t=>
   have e:kU s v=(t,true):=by unfold kU;rw[hq]
   rw[e]
   refine⟨eT t,rfl,?_,rfl⟩
   dsimp only
   refine bD func128 call128 rfl (by simp[ntmps128]) ?_;simp only[ntmps128,results128]
   repeat' (first|(refine aC fun _ _=>?_)|refine zHg ?_|simp(disch:=omega) [go_sem])
   refine bR [0,1,4] [4] (fun i:Nat=> [(6,nt .i64 i)]) (fun i:Nat=>(4,⟨false,false,false,2,[.agg [.sc (.string ⟨#[]⟩),.list false true []]],0⟩):: []) (fun i:Nat=>s.length - i) (fun i:Nat=>i≤s.length∧ ∀(k:Nat) (hk:k<s.length),k<i→ ¬s[k].v=v) (0) (Le.sub4 rfl (by simp[go_sem])) ⟨?_⟩ ?_
   ·exact⟨Nat.zero_le _,fun k _ hk=>absurd hk (Nat.not_lt_zero _)⟩
   intro i ⟨hi,hn⟩ AA hAA;simp only[kL,Nat.reduceBEq,Nat.reduceEqDiff,if_true,if_false,List.cons_append,List.nil_append,List.append_nil]
   by_cases hlt:i<s.length
   ·by_cases hv:s[i].v=v
    ·rw[J8 hlt hv hn]at hq
     obtain rfl:=Option.some.inj hq
     repeat' (first|(refine aC fun _ _=>?_)|refine zHg ?_|(refine aT [] ?_;simp[go_sem,hlt,hv])|simp(disch:=omega) [go_sem,hlt,hv])
    ·repeat' (first|(refine aC fun _ _=>?_)|refine zHg ?_|(refine(hAA.next (i+1) (Le.sub4 rfl (by simp[go_sem])) (by(try dsimp only);omega) ?_))|simp(disch:=omega) [go_sem,hlt,hv])
     all_goals(first|omega|skip)
     exact⟨hlt,fun k hk hki=>by rcases Nat.lt_or_eq_of_le (Nat.le_of_lt_succ hki)with h|rfl;exact hn k hk h;exact hv⟩
   ·obtain rfl:i=s.length:=by omega
    rw[J9 hn]at hq
    cases hq
  |none=>
   have e:kU s v=(.mk ⟨#[]⟩ [],false):=by unfold kU;rw[hq]
   rw[e]
   refine⟨.agg [.sc (.string ⟨#[]⟩),.list false true []],rfl,?_,rfl⟩
   dsimp only
   refine bD func128 call128 rfl (by simp[ntmps128]) ?_;simp only[ntmps128,results128]
   repeat' (first|(refine aC fun _ _=>?_)|refine zHg ?_|simp(disch:=omega) [go_sem])
   refine bR [0,1,4] [4] (fun i:Nat=> [(6,nt .i64 i)]) (fun i:Nat=>(4,⟨false,false,false,2,[.agg [.sc (.string ⟨#[]⟩),.list false true []]],0⟩):: []) (fun i:Nat=>s.length - i) (fun i:Nat=>i≤s.length) (0) (Le.sub4 rfl (by simp[go_sem])) ⟨?_⟩ ?_
   ·exact Nat.zero_le _
   intro i hi AA hAA;simp only[kL,Nat.reduceBEq,Nat.reduceEqDiff,if_true,if_false,List.cons_append,List.nil_append,List.append_nil]
   by_cases hlt:i<s.length
   ·have hv: ¬s[i].v=v:=fun h=>by
     unfold fH at hq
     rw[Option.map_eq_none_iff,List.find?_eq_none]at hq
     exact hq _ (List.getElem_mem hlt) (by simp[h])
    repeat' (first|(refine aC fun _ _=>?_)|refine zHg ?_|(refine(hAA.next (i+1) (Le.sub4 rfl (by simp[go_sem])) (by(try dsimp only);omega) ?_))|simp(disch:=omega) [go_sem,hlt,hv])
    all_goals(first|omega|skip)
    exact⟨hlt⟩
   ·obtain rfl:i=s.length:=by omega
    repeat' (first|(refine aC fun _ _=>?_)|refine zHg ?_|(refine aT [] ?_;simp[go_sem])|simp(disch:=omega) [go_sem])
 obtain⟨x,h1,h2,h3⟩:=hx
 rw[h3]
 exact ACall.looseT h1 h2
theorem aHq (s:List Bd) (le fu:Bool): ∀t:Tm,t.size≤1000000→ACall prog 84 [.list le fu (s.map bK),eT t] (fun r=>r=eT (cF s t)):=by
 refine dS fun t ih hsz=>?_
 obtain⟨n,ts⟩:=t
 simp only[cT]at ih
 rw[iA,cT]at hsz
 have hlen:=sG ts
 have ih': ∀(i:Nat) (h:i<ts.length),ACall prog 84 [.list le fu (s.map bK),eT ts[i]] (fun r=>r=eT (cF s ts[i])):=fun i h=>ih _ (List.getElem_mem h) (by have:=vT h;omega)
 clear ih
 have hv:=Z2 n ts
 have hb:=cIn s n le fu
 rw[Y5]
 by_cases hvar:ts.length=0∧cA n=true
 ·rw[if_pos hvar]
  rw[decide_eq_true hvar]at hv
  obtain rfl:=List.eq_nil_of_length_eq_zero hvar.1
  unfold kU at hb
  cases hq:fH s n with
  |some t=>
   rw[hq]at hb
   dsimp only at hb
   show ACall _ _ _ (fun r=>r=eT t)
   clear ih' hlen hsz hvar hq
   refine bD func84 call84 rfl (by simp[ntmps84]) ?_;simp only[ntmps84,results84]
   repeat' (first|(refine aC fun _ _=>?_)|refine zHg ?_|(refine aT [] ?_;simp[go_sem])|refine aP rfl (hv) (by simp) ?_|refine aP rfl (hb) (by simp) ?_|simp(disch:=omega) [go_sem])
  |none=>
   rw[hq]at hb
   dsimp only at hb
   show ACall _ _ _ (fun r=>r=eT (.mk n []))
   clear ih' hlen hsz hvar hq
   refine bD func84 call84 rfl (by simp[ntmps84]) ?_;simp only[ntmps84,results84]
   repeat' (first|(refine aC fun _ _=>?_)|refine zHg ?_|(refine aT [] ?_;simp[go_sem])|refine aP rfl (hv) (by simp) ?_|refine aP rfl (hb) (by simp) ?_|simp(disch:=omega) [go_sem])
 ·rw[if_neg hvar]
  rw[decide_eq_false hvar]at hv
  clear hb hvar
  refine ACall.loose (x:= .agg [.sc (.string n),.list false (decide (ts.length=0)) ((ts.map (cF s)).map bO)]) rfl ?_
  generalize hL:ts.map (cF s)=L at*
  have hLl:L.length=ts.length:=by rw[←hL,List.length_map]
  have ih2: ∀(i:Nat) (h:i<ts.length),∃x,ACall prog 84 [.list le fu (s.map bK),eT ts[i]] (fun r=>r=eT x)∧L.drop i=x::L.drop (i+1):=fun i h=>⟨_,ih' i h,by
   have h':i<L.length:=by omega
   rw[List.drop_eq_getElem_cons h']
   congr 1
   subst hL
   rw[List.getElem_map]⟩
  clear ih' hL
  refine bD func84 call84 rfl (by simp[ntmps84]) ?_;simp only[ntmps84,results84]
  repeat' (first|(refine aC fun _ _=>?_)|refine zHg ?_|refine aP rfl (hv) (by simp) ?_|simp(disch:=omega) [go_sem])
  refine bR [0,3,4,7] [7,900] (fun y:Nat×List Tm=> [(8,nt .i64 y.1)]) (fun y:Nat×List Tm=>(7,⟨false,false,false,2,[.agg [.sc (.string n),if y.2.length=0 then .list false true []else .ref 900 0 y.2.length]],0⟩)::(if y.2.length=0 then[]else[(900,⟨true,false,false,2,y.2.map bO,0⟩)])) (fun y:Nat×List Tm=>ts.length - y.1) (fun y:Nat×List Tm=>y.1≤ts.length∧y.2.length=y.1∧y.2++L.drop y.1=L) ((0,[])) (Le.sub4 rfl (by simp[go_sem])) ⟨?_⟩ ?_
  ·exact⟨Nat.zero_le _,rfl,rfl⟩
  intro⟨i,a⟩ ⟨hi,ha,hinv⟩ AA hAA;simp only[kL,Nat.reduceBEq,Nat.reduceEqDiff,if_true,if_false,List.cons_append,List.nil_append,List.append_nil]
  dsimp only at*
  by_cases hlt:i<ts.length
  ·obtain⟨x,hu,hd⟩:=ih2 i hlt
   rw[hd]at hinv
   clear ih2 hd
   by_cases h0:i=0
   ·subst h0
    obtain rfl:=List.eq_nil_of_length_eq_zero ha
    repeat' (first|(refine aC fun _ _=>?_)|refine zHg ?_|refine cP rfl (hu) rfl (by simp) ?_|(refine(hAA.next ((0+1,[x])) (Le.renSub [(41,900)] [(900,41)] (by simp[go_sem]) (by simp[go_sem]) (Le.sub4 rfl (by simp[go_sem]))) (by(try dsimp only);omega) ?_))|simp(disch:=omega) [go_sem,hlt]|refine zDr 9 bE ?_|fail)
    all_goals(first|omega|skip)
    all_goals exact⟨hlt,rfl,hinv⟩
   ·repeat' (first|(refine aC fun _ _=>?_)|refine zHg ?_|refine cP rfl (hu) rfl (by simp) ?_|(refine(hAA.next ((i+1,a++ [x])) (Le.sub4 rfl (by simp[go_sem,ha])) (by(try dsimp only);omega) ?_))|simp(disch:=omega) [go_sem,hlt,h0,ha]|refine zAo ?_|refine zDr 9 bE ?_|fail)
    all_goals(first|omega|skip)
    all_goals exact⟨hlt,by simp[ha],by rw[List.append_assoc];exact hinv⟩
  ·obtain rfl:i=ts.length:=by omega
   rw[←hLl,List.drop_length,List.append_nil]at hinv
   subst hinv
   clear ih2
   by_cases h0:ts.length=0
   ·obtain rfl:=List.eq_nil_of_length_eq_zero (hLl.trans h0)
    repeat' (first|(refine aC fun _ _=>?_)|refine zHg ?_|(refine aT [] ?_;simp[go_sem,h0])|simp(disch:=omega) [go_sem,h0])
   ·repeat' (first|(refine aC fun _ _=>?_)|refine zHg ?_|(refine aT [] ?_;simp[go_sem,h0,ha])|simp(disch:=omega) [go_sem,h0,ha])
theorem cIo (s:List Bd) (le fu:Bool) (r:Rl) (hr:r.head.size≤1000000) (hb: ∀b∈r.body,b.atom.size≤1000000) (hl:r.body.length≤1000000):
 ACall prog 46 [.list le fu (s.map bK),bN r] (fun v=>v=bN (iC s r)):=by
 obtain⟨h,bs⟩:=r
 dsimp only at*
 have h1:=aHq s le fu h hr
 show ACall _ _ _ (fun v=>v=bN ⟨cF s h,bs.map (dA s)⟩)
 refine ACall.loose (x:= .agg [.sc (.string (cF s h).name),.list false false ((cF s h).args.map bO),.list false (decide (bs.length=0)) ((bs.map (dA s)).map bW)]) rfl ?_
 generalize cF s h=H at*
 generalize hL:bs.map (dA s)=L at*
 have hLl:L.length=bs.length:=by rw[←hL,List.length_map]
 have ih2: ∀(i:Nat) (hi:i<bs.length),∃x,ACall prog 84 [.list le fu (s.map bK),eT bs[i].atom] (fun r=>r=eT x)∧L.drop i=⟨bs[i].neg,x⟩::L.drop (i+1):=fun i hi=>⟨_,aHq s le fu bs[i].atom (hb _ (List.getElem_mem hi)),by
  have h':i<L.length:=by omega
  rw[List.drop_eq_getElem_cons h']
  congr 1
  subst hL
  rw[List.getElem_map];rfl⟩
 clear hL hb
 refine bD func46 call46 rfl (by simp[ntmps46]) ?_;simp only[ntmps46,results46]
 repeat' (first|(refine aC fun _ _=>?_)|refine zHg ?_|refine aP rfl (h1) (by simp) ?_|simp(disch:=omega) [go_sem])
 refine bR [0,3,4,5] [5,900] (fun y:Nat×List Lt=> [(6,nt .i64 y.1)]) (fun y:Nat×List Lt=>(5,⟨false,false,false,3,[.agg [.sc (.string H.name),.list false false (H.args.map bO),if y.2.length=0 then .list false true []else .ref 900 0 y.2.length]],0⟩)::(if y.2.length=0 then[]else[(900,⟨true,false,false,3,y.2.map bW,0⟩)])) (fun y:Nat×List Lt=>bs.length - y.1) (fun y:Nat×List Lt=>y.1≤bs.length∧y.2.length=y.1∧y.2++L.drop y.1=L) ((0,[])) (Le.sub4 rfl (by simp[go_sem])) ⟨?_⟩ ?_
 ·exact⟨Nat.zero_le _,rfl,rfl⟩
 intro⟨i,a⟩ ⟨hi,ha,hinv⟩ AA hAA;simp only[kL,Nat.reduceBEq,Nat.reduceEqDiff,if_true,if_false,List.cons_append,List.nil_append,List.append_nil]
 dsimp only at*
 by_cases hlt:i<bs.length
 ·obtain⟨x,hu,hd⟩:=ih2 i hlt
  rw[hd]at hinv
  clear ih2 hd
  by_cases h0:i=0
  ·subst h0
   obtain rfl:=List.eq_nil_of_length_eq_zero ha
   repeat' (first|(refine aC fun _ _=>?_)|refine zHg ?_|refine cP rfl (hu) rfl (by simp) ?_|(refine(hAA.next ((0+1,[⟨bs[0].neg,x⟩])) (Le.renSub [(37,900)] [(900,37)] (by simp[go_sem]) (by simp[go_sem]) (Le.sub4 rfl (by simp[go_sem]))) (by(try dsimp only);omega) ?_))|simp(disch:=omega) [go_sem,hlt]|refine zDr 17 bE ?_|fail)
   all_goals(first|omega|skip)
   all_goals exact⟨hlt,rfl,hinv⟩
  ·repeat' (first|(refine aC fun _ _=>?_)|refine zHg ?_|refine cP rfl (hu) rfl (by simp) ?_|(refine(hAA.next ((i+1,a++ [⟨bs[i].neg,x⟩])) (Le.sub4 rfl (by simp[go_sem,ha])) (by(try dsimp only);omega) ?_))|simp(disch:=omega) [go_sem,hlt,h0,ha]|refine zAo ?_|refine zDr 17 bE ?_|fail)
   all_goals(first|omega|skip)
   all_goals exact⟨hlt,by simp[ha],by rw[List.append_assoc];exact hinv⟩
 ·obtain rfl:i=bs.length:=by omega
  rw[←hLl,List.drop_length,List.append_nil]at hinv
  subst hinv
  clear ih2
  by_cases h0:bs.length=0
  ·obtain rfl:=List.eq_nil_of_length_eq_zero (hLl.trans h0)
   repeat' (first|(refine aC fun _ _=>?_)|refine zHg ?_|(refine aT [] ?_;simp[go_sem,h0])|simp(disch:=omega) [go_sem,h0])
  ·repeat' (first|(refine aC fun _ _=>?_)|refine zHg ?_|(refine aT [] ?_;simp[go_sem,h0,ha])|simp(disch:=omega) [go_sem,h0,ha])
end Go.Proofs.YtkbglbcphjmiiaaGreatDoor
