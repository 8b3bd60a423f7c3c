import Derived.Test.YtkbglbcphjmiiaaGreatDoorS3
import Derived.Test.YtkbglbcphjmiiaaGreatDoorS2
import Derived.Test.YtkbglbcphjmiiaaGreatDoorA5
set_option linter.unusedSimpArgs false
set_option linter.unusedVariables false
open Go.Proofs.Tryz
namespace Go.Proofs.YtkbglbcphjmiiaaGreatDoor
open Go.Ab
set_option maxRecDepth 100000
set_option maxHeartbeats 8000000
def pW (l:List ByteArray) (s:ByteArray):Int:=if l.findIdx (fun u=>decide (u=s))<l.length then l.findIdx (fun u=>decide (u=s))else -1
theorem cE2 {l:List ByteArray} {s:ByteArray} {i:Nat} (h:i<l.length) (he:l[i]=s) (hn: ∀(k:Nat) (hk:k<l.length),k<i→ ¬l[k]=s):pW l s=i:=by
 have e:l.findIdx (fun u=>decide (u=s))=i:=by
  rw[List.findIdx_eq h]
  exact⟨by simp[he],fun j hj=>by simpa using hn j (by omega) hj⟩
 unfold pW
 rw[e,if_pos h]
theorem cE3 {l:List ByteArray} {s:ByteArray} (hn: ∀(k:Nat) (hk:k<l.length),k<l.length→ ¬l[k]=s):pW l s= -1:=by
 unfold pW
 rw[if_neg]
 intro h
 have:=List.findIdx_getElem (w:=h)
 simp only[decide_eq_true_eq]at this
 exact hn _ h h this
theorem cE4 {l:List ByteArray} {s:ByteArray}:0≤pW l s↔s∈l:=by
 unfold pW
 by_cases h:s∈l
 ·have:l.findIdx (fun u=>decide (u=s))<l.length:=by
   rw[List.findIdx_lt_length];exact⟨s,h,by simp⟩
  rw[if_pos this]
  simp[h]
 ·rw[if_neg]
  ·simp[h]
  ·rw[List.findIdx_lt_length]
   rintro⟨u,hu,he⟩
   simp only[decide_eq_true_eq]at he
   exact h (he▸hu)
theorem cE5 (l:List ByteArray) (s:ByteArray) (le fu:Bool):ACall prog 108 [.list le fu (l.map aI),.sc (.string s)] (fun r=>r=nt .i64 (pW l s)):=by
 refine ACall.bound (i:=0) rfl call108 fun hb=>?_
 rw[List.length_map]at hb
 have hb:l.length≤140737488355328:=hb
 generalize hR:pW l s=R
 refine bD func108 call108 rfl (by simp[ntmps108]) ?_;simp only[ntmps108,results108]
 repeat' (first|(refine aC fun _ _=>?_)|refine zHg ?_|simp(disch:=omega) [go_sem])
 refine bR [0,1,7] [] (fun i:Nat=> [(8,nt .i64 i)]) (fun i:Nat=> []) (fun i:Nat=>l.length - i) (fun i:Nat=>i≤l.length∧ ∀(k:Nat) (hk:k<l.length),k<i→ ¬l[k]=s) (0) (Le.sub4 rfl (by simp[go_sem])) ⟨?_⟩ ?_
 ·exact⟨Nat.zero_le _,fun k _ hk=>absurd hk (Nat.not_lt_zero _)⟩
 intro i ⟨hi,hn⟩ AA hAA;simp only[kL,Nat.reduceBEq,Nat.reduceEqDiff,if_true,if_false,List.cons_append,List.nil_append,List.append_nil]
 by_cases hlt:i<l.length
 ·by_cases hq:l[i]=s
  ·have hu:=cE2 hlt hq hn
   rw[hR]at hu
   subst hu
   have hq':s=l[i]:=hq.symm
   repeat' (first|(refine aC fun _ _=>?_)|refine zHg ?_|(refine aT [] ?_;simp[go_sem,hlt,aI,hq'])|simp(disch:=omega) [go_sem,hlt,aI,hq'])
  ·have hq': ¬s=l[i]:=fun h=>hq h.symm
   repeat' (first|(refine aC fun _ _=>?_)|refine zHg ?_|(refine(hAA.next (i+1) (Le.sub4 rfl (by simp[go_sem])) (by(try dsimp only);omega) ?_))|simp(disch:=omega) [go_sem,hlt,aI,hq'])
   all_goals(first|omega|skip)
   exact⟨hlt,fun k hk hki=>by rcases Nat.lt_or_eq_of_le (Nat.le_of_lt_succ hki)with h|rfl;exact hn k hk h;exact hq⟩
 ·obtain rfl:i=l.length:=by omega
  have hu:=cE3 hn
  rw[hR]at hu
  subst hu
  repeat' (first|(refine aC fun _ _=>?_)|refine zHg ?_|(refine aT [] ?_;simp[go_sem])|simp(disch:=omega) [go_sem])
def oU (l:List ByteArray) (s:ByteArray):Bool:=l.any fun u=>decide (u=s)
theorem yZ {l:List ByteArray} {s:ByteArray}:oU l s=true↔s∈l:=by
 unfold oU
 rw[List.any_eq_true]
 constructor
 ·rintro⟨u,hu,he⟩
  simp only[decide_eq_true_eq]at he
  exact he▸hu
 ·intro h
  exact⟨s,h,by simp⟩
theorem cE6 (l:List ByteArray) (s:ByteArray) (le fu:Bool):ACall prog 71 [.list le fu (l.map aI),.sc (.string s)] (fun r=>r=bl (oU l s)):=by
 have h:=cE5 l s le fu
 rw[show oU l s=decide (0≤pW l s)from by rw[Bool.eq_iff_iff,yZ,decide_eq_true_eq];exact cE4.symm]
 generalize pW l s=R at*
 refine bD func71 call71 rfl (by simp[ntmps71]) ?_;simp only[ntmps71,results71]
 repeat' (first|(refine aC fun _ _=>?_)|refine zHg ?_|(refine aT [] ?_;simp[go_sem])|refine aP rfl (h) (by simp) ?_|simp(disch:=omega) [go_sem])
def dQ (acc:List ByteArray) (s:ByteArray):List ByteArray:=if cA s=true∧oU acc s=false then acc++ [s]else acc
def kR (l:List Tm):List ByteArray:=(cE l).foldl dQ []
def iU (acc:List ByteArray) (l:List ByteArray) (i:Nat):List ByteArray:=(l.take i).foldl dQ acc
theorem W7 {acc l}:iU acc l 0=acc:=rfl
theorem aGa {acc l} {i:Nat} (h:i<l.length):iU acc l (i+1)=dQ (iU acc l i) l[i]:=by
 unfold iU
 rw[iT h,List.foldl_append];rfl
theorem zA {acc l}:iU acc l l.length=l.foldl dQ acc:=by unfold iU;rw[List.take_length]
theorem cE7 {l:List Tm} {i:Nat} (h:i<l.length):kR (l.take (i+1))=iU (kR (l.take i)) (cX l[i]) (cX l[i]).length:=by
 unfold kR
 rw[vW h,List.foldl_append,zA]
theorem cE8 (acc:List ByteArray) (s:ByteArray):(dQ acc s).length≤acc.length+1:=by
 unfold dQ;split<;>simp
theorem uF {acc l:List ByteArray}: ∀i,(iU acc l i).length≤acc.length+i
 |0=>Nat.le_refl _
 |i+1=>by
  by_cases h:i<l.length
  ·rw[aGa h]
   have:=cE8 (iU acc l i) l[i]
   have:=uF (acc:=acc) (l:=l) i
   omega
  ·have e:iU acc l (i+1)=iU acc l i:=by unfold iU;rw[List.take_of_length_le (by omega),List.take_of_length_le (by omega)]
   rw[e]
   have:=uF (acc:=acc) (l:=l) i
   omega
theorem cE9 (l:List Tm):(kR l).length≤(cE l).length:=by
 have:=uF (acc:= []) (l:=cE l) (cE l).length
 rw[zA]at this
 unfold kR
 simpa using this
theorem cFa:kR []= []:=rfl
theorem cFb {l:List Tm} {i:Nat} (h:i<l.length):(cX l[i]).length≤(cE l).length:=by
 have:=I0 l (i+1)
 rw[vW h,List.length_append]at this
 omega
theorem cFc (l:List Tm) (le fu:Bool) (hb:(cE l).length≤1000000):ACall prog 34 [.list le fu (l.map bO)] (fun r=>r= .own 1 ((kR l).map aI)):=by
 have hge:=I1 l
 refine ACall.own_nil ?_
 refine bD func34 call34 rfl (by simp[ntmps34]) ?_;simp only[ntmps34,results34]
 repeat' (first|(refine aC fun _ _=>?_)|refine zHg ?_|simp(disch:=omega) [go_sem])
 refine bR [8,9] [900] (fun i:Nat=> [(10,nt .i64 i),(3,.ref 900 0 (kR (l.take i)).length)]) (fun i:Nat=> [(900,⟨true,false,false,1,(kR (l.take i)).map aI,0⟩)]) (fun i:Nat=>l.length - i) (fun i:Nat=>i≤l.length) (0) (by refine Le.trans ?_ (Le.nil (i:=3) (T:=900) (es:=1) rfl);exact(Le.sub4 rfl (by simp[go_sem,cFa,List.take_zero,List.map_nil]))) ⟨?_⟩ ?_
 ·exact Nat.zero_le _
 intro i hi AA hAA;simp only[kL,Nat.reduceBEq,Nat.reduceEqDiff,if_true,if_false,List.cons_append,List.nil_append,List.append_nil]
 by_cases hlt:i<l.length
 ·have hB:=hAA
  have hlv:=cFb hlt
  have hcl:=cE1 l[i] (by omega)
  have hn:=cE7 hlt
  have hl0:=cE9 (l.take i)
  have hl2:=I0 l (i+1)
  rw[vW hlt,List.length_append]at hl2
  generalize kR (l.take i)=A at*
  generalize cX l[i]=L at*
  repeat' (first|(refine aC fun _ _=>?_)|refine zHg ?_|refine aP rfl (hcl) (by simp) ?_|simp(disch:=omega) [go_sem,hlt])
  refine bR [8,9,10,15,16] [900,5] (fun j:Nat=> [(17,nt .i64 j),(3,.ref 900 0 (iU A L j).length)]) (fun j:Nat=> [(900,⟨true,false,false,1,(iU A L j).map aI,0⟩)]) (fun j:Nat=>L.length - j) (fun j:Nat=>j≤L.length) (0) (Le.renSub [] [] (by simp[go_sem,W7]) (by simp[go_sem,W7]) (Le.sub4 rfl (by simp[go_sem,W7]))) ⟨?_⟩ ?_
  ·exact Nat.zero_le _
  intro j hj AA hAA;simp only[kL,Nat.reduceBEq,Nat.reduceEqDiff,if_true,if_false,List.cons_append,List.nil_append,List.append_nil]
  by_cases hjl:j<L.length
  ·have hlenT:True:=trivial
   have h1:=H0 L[j]
   have h2:=cE6 (iU A L j) L[j] true false
   have hz:=aGa (acc:=A) hjl
   have hfl:=uF (acc:=A) (l:=L) j
   unfold dQ at hz
   by_cases hv:cA L[j]=true
   ·by_cases hm:oU (iU A L j) L[j]=true
    ·rw[if_neg (by simp[hm])]at hz
     rw[hv]at h1
     rw[hm]at h2
     generalize iU A L j=X at*
     repeat' (first|(refine aC fun _ _=>?_)|refine zHg ?_|refine aP rfl (h1) (by simp) ?_|(refine aP ?hl (h2) (by simp) ?_;(case hl=>(simp[go_sem,hjl,aI,hlenT];done)))|(refine(hAA.next (j+1) (Le.sub4 rfl (by simp[go_sem,hz])) (by(try dsimp only);omega) ?_))|simp(disch:=omega) [go_sem,hjl,aI,hlenT])
     all_goals(first|omega|skip)
     exact⟨hjl⟩
    ·have hm:=Bool.eq_false_iff.2 hm
     rw[if_pos ⟨hv,hm⟩]at hz
     rw[hv]at h1
     rw[hm]at h2
     generalize iU A L j=X at*
     repeat' (first|(refine aC fun _ _=>?_)|refine zHg ?_|refine aP rfl (h1) (by simp) ?_|(refine aP ?hl (h2) (by simp) ?_;(case hl=>(simp[go_sem,hjl,aI,hlenT];done)))|(refine(hAA.next (j+1) (Le.sub4 rfl (by simp[go_sem,hz,aI])) (by(try dsimp only);omega) ?_))|simp(disch:=omega) [go_sem,hjl,aI,hlenT]|refine zAo ?_|fail)
     all_goals(first|omega|skip)
     exact⟨hjl⟩
   ·rw[if_neg (by simp[hv])]at hz
    rw[show cA L[j]=false from by simpa using hv]at h1
    generalize iU A L j=X at*
    repeat' (first|(refine aC fun _ _=>?_)|refine zHg ?_|refine aP rfl (h1) (by simp) ?_|(refine(hAA.next (j+1) (Le.sub4 rfl (by simp[go_sem,hz])) (by(try dsimp only);omega) ?_))|simp(disch:=omega) [go_sem,hjl,aI,hlenT])
    all_goals(first|omega|skip)
    exact⟨hjl⟩
  ·obtain rfl:j=L.length:=by omega
   rw[←hn]
   repeat' (first|(refine aC fun _ _=>?_)|refine zHg ?_|(refine(hB.next (i+1) (Le.sub4 rfl (by simp[go_sem])) (by(try dsimp only);omega) ?_))|simp(disch:=omega) [go_sem])
   all_goals(first|omega|skip)
   exact⟨hlt⟩
 ·obtain rfl:i=l.length:=by omega
  rw[List.take_length]
  repeat' (first|(refine aC fun _ _=>?_)|refine zHg ?_|(refine aT [] ?_;simp[go_sem])|simp(disch:=omega) [go_sem])
def nb (b:Bool):Int:=if b=true then 1 else 0
theorem cFd:Tot (fun a b:Bool=>dI (nb a) (nb b)):=
 ⟨fun a b=>H4 _ _,fun a b=>H5 _ _,fun a b d=>H6 _ _ _,fun a b=>by rw[sJ];cases a<;>cases b<;>decide⟩
def bU (a b:Lt):Int:=eA (dI (nb a.neg) (nb b.neg)) (eF a.atom b.atom)
theorem oV:Tot bU:=cFd.two aFt Lt.neg Lt.atom fun x y h k=>by cases x;cases y;cases h;cases k;rfl
def dJ (a b:Rl):Int:=eA (eF a.head b.head) (eG bU a.body b.body)
theorem qZ:Tot dJ:=aFt.two oV.lex Rl.head Rl.body fun x y h k=>by cases x;cases y;cases h;cases k;rfl
def jJ (r:Rl):List Tm:=r.head::r.body.map Lt.atom
def bQ (r:Rl):List ByteArray:=kR (jJ r)
theorem W8: ∀(l acc:List ByteArray),acc.Nodup→(l.foldl dQ acc).Nodup∧ ∀x,x∈l.foldl dQ acc↔x∈acc∨(x∈l∧cA x=true)
 | [],acc,h=>⟨h,fun x=>by simp⟩
 |s::l,acc,h=>by
  have h1:(dQ acc s).Nodup∧ ∀x,x∈dQ acc s↔x∈acc∨(x=s∧cA x=true):=by
   unfold dQ
   split
   ·rename_i hc
    have hn:s∉acc:=fun hm=>by rw[yZ.2 hm]at hc;exact absurd hc.2 (by simp)
    refine⟨List.nodup_append.2 ⟨h,by simp,fun a ha b hb=>?_⟩,fun x=>?_⟩
    ·simp only[List.mem_singleton]at hb
     subst hb
     rintro rfl
     exact hn ha
    ·rw[List.mem_append,List.mem_singleton]
     constructor
     ·rintro(e|rfl)
      ·exact .inl e
      ·exact .inr ⟨rfl,hc.1⟩
     ·rintro(e|⟨e,_⟩)
      ·exact .inl e
      ·exact .inr e
   ·rename_i hc
    refine⟨h,fun x=>⟨.inl,?_⟩⟩
    rintro(e|⟨rfl,hv⟩)
    ·exact e
    ·rw[←yZ]
     cases hh:oU acc x
     ·exact absurd ⟨hv,hh⟩ hc
     ·rfl
  obtain⟨h2,h3⟩:=W8 l (dQ acc s) h1.1
  refine⟨h2,fun x=>?_⟩
  rw[List.foldl_cons,h3 x,h1.2 x,List.mem_cons]
  constructor
  ·rintro((e|⟨e,v⟩)|⟨e,v⟩)
   ·exact .inl e
   ·exact .inr ⟨.inl e,v⟩
   ·exact .inr ⟨.inr e,v⟩
  ·rintro(e|⟨e|e,v⟩)
   ·exact .inl (.inl e)
   ·exact .inl (.inr ⟨e,v⟩)
   ·exact .inr ⟨e,v⟩
theorem cFe (l:List Tm):(kR l).Nodup:=(W8 _ [] List.nodup_nil).1
theorem cFf {l:List Tm} {x:ByteArray}:x∈kR l↔x∈cE l∧cA x=true:=by
 unfold kR
 rw[(W8 _ [] List.nodup_nil).2 x]
 simp
mutual
def dP (f:ByteArray→ByteArray):Tm→Tm
 | .mk n ts=>if ts.length=0 then .mk (if cA n=true then f n else n) []else .mk n (renL f ts)
def renL (f:ByteArray→ByteArray):List Tm→List Tm
 | []=> []
 |t::r=>dP f t::renL f r
end
theorem rS {f:ByteArray→ByteArray}: ∀{l:List Tm},renL f l=l.map (dP f)
 | []=>rfl
 |t::r=>by rw[renL,rS];rfl
theorem oX {f:ByteArray→ByteArray} {n:ByteArray} {ts:List Tm}:dP f (.mk n ts)=if ts.length=0 then .mk (if cA n=true then f n else n) []else .mk n (ts.map (dP f)):=by
 rw[dP,rS]
theorem zB {x:ByteArray}: ∀{l:List Tm},x∈cE l↔ ∃t∈l,x∈cX t
 | []=>by simp[cE]
 |t::r=>by
  have h:cE (t::r)=cX t++cE r:=rfl
  rw[h,List.mem_append,zB]
  simp
theorem cFg {f:ByteArray→ByteArray}: ∀t:Tm,cX (dP f t)=(cX t).map fun s=>if cA s=true then f s else s:=by
 refine dS fun t ih=>?_
 obtain⟨n,ts⟩:=t
 simp only[cT]at ih
 rw[oX,lK]
 by_cases h0:ts.length=0
 ·rw[if_pos h0,if_pos h0,lK];rfl
 ·rw[if_neg h0,if_neg h0,lK,if_neg (by simpa using h0)]
  have key: ∀l:List Tm,(∀u∈l,cX (dP f u)=(cX u).map fun s=>if cA s=true then f s else s)→cE (l.map (dP f))=(cE l).map fun s=>if cA s=true then f s else s:=by
   intro l
   induction l with
   |nil=>intro _;rfl
   |cons t r ihr=>
    intro h
    have e1:cE (t::r)=cX t++cE r:=rfl
    have e2:cE ((t::r).map (dP f))=cX (dP f t)++cE (r.map (dP f)):=rfl
    rw[e1,e2,List.map_append,h t (by simp),ihr fun u hu=>h u (by simp[hu])]
  exact key ts ih
theorem aGb {f g:ByteArray→ByteArray}: ∀t:Tm,(∀v∈cX t,cA v=true→f v=g v)→dP f t=dP g t:=by
 refine dS fun t ih h=>?_
 obtain⟨n,ts⟩:=t
 simp only[cT]at ih
 rw[oX,oX]
 by_cases h0:ts.length=0
 ·rw[if_pos h0,if_pos h0]
  by_cases hv:cA n=true
  ·rw[if_pos hv,if_pos hv,h n (by rw[lK,if_pos h0];simp) hv]
  ·rw[if_neg hv,if_neg hv]
 ·rw[if_neg h0,if_neg h0]
  congr 1
  refine List.map_congr_left fun u hu=>ih u hu fun v hv=>h v ?_
  rw[lK,if_neg h0]
  exact zB.2 ⟨u,hu,hv⟩
theorem aGc {f g:ByteArray→ByteArray}: ∀t:Tm,(∀v∈cX t,cA v=true→cA (f v)=true)→dP g (dP f t)=dP (fun v=>g (f v)) t:=by
 refine dS fun t ih h=>?_
 obtain⟨n,ts⟩:=t
 simp only[cT]at ih
 rw[oX,oX]
 by_cases h0:ts.length=0
 ·rw[if_pos h0,if_pos h0,oX]
  simp only[List.length_nil,if_true]
  by_cases hv:cA n=true
  ·rw[if_pos hv,if_pos hv,if_pos (h n (by rw[lK,if_pos h0];simp) hv)]
  ·rw[if_neg hv,if_neg hv,if_neg hv]
 ·rw[if_neg h0,if_neg h0,oX,if_neg (by simpa using h0),List.map_map]
  congr 1
  refine List.map_congr_left fun u hu=>ih u hu fun v hv=>h v ?_
  rw[lK,if_neg h0]
  exact zB.2 ⟨u,hu,hv⟩
def uG (f:ByteArray→ByteArray) (b:Lt):Lt:=⟨b.neg,dP f b.atom⟩
def fK (f:ByteArray→ByteArray) (r:Rl):Rl:=⟨dP f r.head,r.body.map (uG f)⟩
def iV (r:Rl):Rl:=⟨r.head,eH bU r.body⟩
theorem cFh {a b:Rl} (h:a.head=b.head) (hb: ∀x,x∈a.body↔x∈b.body):iV a=iV b:=by
 unfold iV;rw[h,cEr oV hb]
def zC (i:Nat):ByteArray:=⟨#[86,UInt8.ofNat (49+i)]⟩
def gT (n:Nat):List ByteArray:=(List.range n).map zC
theorem pX (n:Nat):(gT n).length=n:=by simp[gT]
def uH (r x:Rl):Prop:= ∃f:ByteArray→ByteArray,((bQ r).map f).Perm (gT (bQ r).length)∧x=iV (fK f r)
theorem pY {r:Rl} {x:ByteArray}:x∈bQ r↔(x∈cX r.head∨ ∃b∈r.body,x∈cX b.atom)∧cA x=true:=by
 unfold bQ
 rw[cFf,zB]
 refine and_congr_left fun _=>?_
 unfold jJ
 constructor
 ·rintro⟨t,ht,hx⟩
  rcases List.mem_cons.1 ht with rfl|ht
  ·exact .inl hx
  ·obtain⟨b,hb,rfl⟩:=List.mem_map.1 ht
   exact .inr ⟨b,hb,hx⟩
 ·rintro(hx|⟨b,hb,hx⟩)
  ·exact⟨_,List.mem_cons_self,hx⟩
  ·exact⟨_,List.mem_cons_of_mem _ (List.mem_map.2 ⟨b,hb,rfl⟩),hx⟩
theorem vX (r:Rl):(bQ r).Nodup:=cFe _
theorem aGd {f g:ByteArray→ByteArray} {r:Rl} (h: ∀v∈bQ r,f v=g v):fK f r=fK g r:=by
 unfold fK
 congr 1
 ·exact aGb _ fun v hv k=>h v (pY.2 ⟨.inl hv,k⟩)
 ·refine List.map_congr_left fun b hb=>?_
  unfold uG
  congr 1
  exact aGb _ fun v hv k=>h v (pY.2 ⟨.inr ⟨b,hb,hv⟩,k⟩)
theorem cFi {f g:ByteArray→ByteArray} {r:Rl} (h: ∀v∈bQ r,cA (f v)=true):fK g (fK f r)=fK (fun v=>g (f v)) r:=by
 unfold fK
 simp only[List.map_map]
 congr 1
 ·exact aGc _ fun v hv k=>h v (pY.2 ⟨.inl hv,k⟩)
 ·refine List.map_congr_left fun b hb=>?_
  unfold uG
  show(⟨b.neg,dP g (dP f b.atom)⟩:Lt)=⟨b.neg,_⟩
  congr 1
  exact aGc _ fun v hv k=>h v (pY.2 ⟨.inr ⟨b,hb,hv⟩,k⟩)
theorem W9 {α:Type} [DecidableEq α]: ∀{A B:List α},A.Nodup→B.Nodup→(∀x,x∈A↔x∈B)→A.Perm B
 | [],B,_,_,hm=>by
  cases B with
  |nil=>exact .refl _
  |cons y q=>exact absurd ((hm y).2 (by simp)) (by simp)
 |x::A,B,ha,hb,hm=>by
  obtain⟨a1,a2⟩:=List.nodup_cons.1 ha
  have hx:=(hm x).1 (by simp)
  refine .trans (.cons x (W9 a2 (hb.erase x) fun y=>?_)) (List.perm_cons_erase hx).symm
  rw[hb.mem_erase_iff]
  constructor
  ·intro hy
   exact⟨by rintro rfl;exact a1 hy,(hm y).1 (by simp[hy])⟩
  ·rintro⟨h1,h2⟩
   exact(List.mem_cons.1 ((hm y).2 h2)).resolve_left h1
theorem I2 {α β:Type} {f:α→β}: ∀{l:List α},l.Nodup→(∀x∈l,∀y∈l,f x=f y→x=y)→(l.map f).Nodup
 | [],_,_=>by simp
 |x::r,hn,hi=>by
  obtain⟨h1,h2⟩:=List.nodup_cons.1 hn
  rw[List.map_cons,List.nodup_cons]
  refine⟨fun hm=>?_,I2 h2 fun a ha b hb=>hi a (by simp[ha]) b (by simp[hb])⟩
  obtain⟨y,hy,he⟩:=List.mem_map.1 hm
  have:=hi y (by simp[hy]) x (by simp) he
  subst this
  exact h1 hy
theorem X0 {α β:Type} {f:α→β}: ∀{l:List α},(l.map f).Nodup→ ∀x∈l,∀y∈l,f x=f y→x=y
 | [],_,x,h,_,_,_=>by simp at h
 |z::r,hn,x,hx,y,hy,he=>by
  rw[List.map_cons,List.nodup_cons]at hn
  rcases List.mem_cons.1 hx with ex|mx
  ·rcases List.mem_cons.1 hy with ey|my
   ·rw[ex,ey]
   ·exact absurd (List.mem_map.2 ⟨y,my,by rw[←he,ex]⟩) hn.1
  ·rcases List.mem_cons.1 hy with ey|my
   ·exact absurd (List.mem_map.2 ⟨x,mx,by rw[he,ey]⟩) hn.1
   ·exact X0 hn.2 x mx y my he
theorem aGe {r r':Rl} {f:ByteArray→ByteArray} (hi: ∀v∈bQ r,∀w∈bQ r,f v=f w→v=w) (hv: ∀v∈bQ r,cA (f v)=true)
 (hh:r'.head=dP f r.head) (hb: ∀b,b∈r'.body↔b∈(fK f r).body):(bQ r').Perm ((bQ r).map f):=by
 refine W9 (vX _) (I2 (vX _) hi) fun x=>?_
 have hl: ∀t:Tm,(x∈cX (dP f t)∧cA x=true)↔((∃v∈cX t,cA v=true∧f v=x)∧cA x=true):=by
  intro t
  rw[cFg,List.mem_map]
  constructor
  ·rintro⟨⟨v,hv1,e⟩,hx⟩
   by_cases hvv:cA v=true
   ·rw[if_pos hvv]at e;exact⟨⟨v,hv1,hvv,e⟩,hx⟩
   ·rw[if_neg hvv]at e;subst e;exact absurd hx hvv
  ·rintro⟨⟨v,hv1,hvv,e⟩,hx⟩
   exact⟨⟨v,hv1,by rw[if_pos hvv];exact e⟩,hx⟩
 rw[pY,List.mem_map,hh]
 constructor
 ·rintro⟨e|⟨b,hb1,hx⟩,hxv⟩
  ·obtain⟨⟨v,h1,h2,h3⟩,_⟩:=(hl _).1 ⟨e,hxv⟩
   exact⟨v,pY.2 ⟨.inl h1,h2⟩,h3⟩
  ·obtain⟨b0,hb0,rfl⟩:=List.mem_map.1 ((hb b).1 hb1)
   obtain⟨⟨v,h1,h2,h3⟩,_⟩:=(hl _).1 ⟨hx,hxv⟩
   exact⟨v,pY.2 ⟨.inr ⟨b0,hb0,h1⟩,h2⟩,h3⟩
 ·rintro⟨v,hm,rfl⟩
  have hvf:=hv v hm
  obtain⟨e|⟨b,hb1,hx⟩,hxv⟩:=pY.1 hm
  ·exact⟨.inl ((hl _).2 ⟨⟨v,e,hxv,rfl⟩,hvf⟩).1,hvf⟩
  ·exact⟨.inr ⟨uG f b,(hb _).2 (List.mem_map.2 ⟨b,hb1,rfl⟩),((hl _).2 ⟨⟨v,hx,hxv,rfl⟩,hvf⟩).1⟩,hvf⟩
theorem cFj {r r':Rl} {f:ByteArray→ByteArray} (hi: ∀v∈bQ r,∀w∈bQ r,f v=f w→v=w) (hv: ∀v∈bQ r,cA (f v)=true)
 (hh:r'.head=dP f r.head) (hb: ∀b,b∈r'.body↔b∈(fK f r).body) (x:Rl):uH r' x↔uH r x:=by
 have hp:=aGe hi hv hh hb
 have hlen:(bQ r').length=(bQ r).length:=by rw[hp.length_eq,List.length_map]
 have hre: ∀h:ByteArray→ByteArray,iV (fK h r')=iV (fK (fun v=>h (f v)) r):=fun h=>by
  rw[←cFi hv]
  refine cFh ?_ fun b=>?_
  ·show dP h r'.head=dP h (dP f r.head);rw[hh]
  ·show b∈r'.body.map (uG h)↔b∈(fK f r).body.map (uG h)
   rw[List.mem_map,List.mem_map]
   constructor
   ·rintro⟨a,h1,h2⟩;exact⟨a,(hb a).1 h1,h2⟩
   ·rintro⟨a,h1,h2⟩;exact⟨a,(hb a).2 h1,h2⟩
 constructor
 ·rintro⟨h,h1,h2⟩
  refine⟨fun v=>h (f v),?_,by rw[h2,hre]⟩
  have e:(bQ r).map (fun v=>h (f v))=((bQ r).map f).map h:=by rw[List.map_map];rfl
  rw[e,←hlen]
  exact(hp.symm.map h).trans h1
 ·rintro⟨g,h1,h2⟩
  let inv:ByteArray→ByteArray:=fun w=>((bQ r).find? fun v=>decide (f v=w)).getD w
  have hinv: ∀v∈bQ r,inv (f v)=v:=by
   intro v hm
   show((bQ r).find? fun u=>decide (f u=f v)).getD (f v)=v
   cases hq:(bQ r).find? fun u=>decide (f u=f v)with
   |none=>
    have:=List.find?_eq_none.1 hq v hm
    simp at this
   |some u=>
    have h3:=List.find?_some hq
    have h4:=List.mem_of_find?_eq_some hq
    simp only[decide_eq_true_eq]at h3
    exact hi u h4 v hm h3
  refine⟨fun w=>g (inv w),?_,?_⟩
  ·rw[hlen]
   refine .trans (hp.map _) ?_
   rw[List.map_map]
   have e:(bQ r).map ((fun w=>g (inv w))∘f)=(bQ r).map g:=List.map_congr_left fun v hm=>by
    show g (inv (f v))=g v
    rw[hinv v hm]
   rw[e];exact h1
  ·rw[h2,hre]
   congr 1
   refine aGd fun v hm=>?_
   show g v=g (inv (f v))
   rw[hinv v hm]
open Go.Ab
set_option maxRecDepth 100000
set_option maxHeartbeats 4000000
theorem cFk (x:Value) (w:World):(callFunc 163 #[x]).run prog w= .ok (.value x) w:=by kernel_rfl
theorem I3:xP prog 122 183 124 2=true:=by kernel_rfl
theorem I4:xP prog 183 122 124 2=true:=by kernel_rfl
theorem I5:C8 prog 122=true:=by kernel_rfl
theorem cFl {P:Program} {op:BinOp} {t:TypeId} {b:AV}:iZ P op t (.sc (.pointer none)) b=none:=by unfold iZ;rfl
theorem cFm {P:Program} {op:BinOp} {t:TypeId} {y:Operand}:gE P op t (.sc (.pointer none)) y=none:=by
 unfold gE
 rw[if_neg]
 rintro⟨h1,h2,h3⟩
 exact h1 h3.symm
theorem cFn {P:Program} {op:BinOp} {t:TypeId} {b:AV}:dO P op t (.sc (.pointer none)) b=none:=by
 unfold dO;rfl
theorem cFo {d:Option Nat} {x:Operand} {ty:TypeId} {pos:String} {af g} {ρ:Operand→Option AV} (hx:ρ x=some (.sc (.pointer none))) (hy:ρ (.const (.pointer none))=some (.sc (.pointer none))):
 dR prog ⟨d,.binOp .eql 122 x (.const (.pointer none)) 122,ty,pos,af,g⟩ ρ=some ⟨true,bl true⟩:=by
 unfold dR
 rw[if_pos ⟨rfl,by simp[Op.operands,hx,hy,eQ,jZ]⟩]
 have e:nG prog (execOp (fun z=>kC ((ρ z).bind eQ)) ⟨d,.binOp .eql 122 x (.const (.pointer none)) 122,ty,pos,af,g⟩)=some (.value (.bool true)):=by
  simp only[execOp,hx,hy]
  kernel_rfl
 rw[e]
 rfl
def zD (z:Option Sv):Option AV→Option Sv
 |some (.sc (.pointer none))=>some ⟨true,bl true⟩
 |some (.ptr _ _ _)=>some ⟨true,bl false⟩
 |_=>z
theorem cFp {z:Option Sv}:zD z (some (.sc (.pointer none)))=some ⟨true,bl true⟩:=rfl
theorem cFq {z:Option Sv} {L i o:Nat}:zD z (some (.ptr L i o))=some ⟨true,bl false⟩:=rfl
theorem cFr {z:Option Sv} {y:Option AV} (h1:y=some (.sc (.pointer none))→z=some ⟨true,bl true⟩) (h2: ∀L i o,y=some (.ptr L i o)→z=some ⟨true,bl false⟩):z=zD z y:=by
 unfold zD
 split
 ·exact h1 rfl
 ·exact h2 _ _ _ rfl
 ·rfl
theorem kdB:bH prog 122=2:=by kernel_rfl
theorem cFt {d:Nat} {x:Operand} {ty:TypeId} {pos:String} {af g} {s:ASt}:bF prog ⟨some d,.binOp .eql 122 x (.const (.pointer none)) 122,ty,pos,af,g⟩ s=
 dE (zD (match bX prog s.t x,bX prog s.t (.const (.pointer none))with
 |some a,some b=>match iZ prog .eql 122 a b with
  |some r=>some r
  |none=>match gE prog .eql 122 a (.const (.pointer none))with
   |some r=>some r
   |none=>match dO prog .eql 122 a b with
    |some r=>some r
    |none=>dR prog ⟨some d,.binOp .eql 122 x (.const (.pointer none)) 122,ty,pos,af,g⟩ (bX prog s.t)
 |_,_=>none) (bX prog s.t x)):=by
 rw[aDq]
 refine congrArg dE (cFr (fun hx=>?_) (fun L i o hx=>?_))
 ·have hy:bX prog s.t (.const (.pointer none))=some (.sc (.pointer none)):=rfl
  simp only[hx,hy,cFl,cFm,cFn,cFo hx hy]
 ·have hy:bX prog s.t (.const (.pointer none))=some (.sc (.pointer none)):=rfl
  have e:gE prog .eql 122 (.ptr L i o) (.const (.pointer none))=some ⟨true,bl false⟩:=by
   unfold gE
   rw[if_pos ⟨by decide,kdB,rfl⟩]
  have e0:iZ prog .eql 122 (.ptr L i o) (.sc (.pointer none))=none:=by unfold iZ;rfl
  simp only[hx,hy,e,e0]
attribute [go_sem high] cFt
attribute [go_sem] cFp cFq
abbrev uI (p v:AV):AObj:=⟨false,false,true,2,[.agg [p,v]],124+2⟩
abbrev rA:aF:= [(1000,uI (.sc (.pointer none)) (.sc (.slice none 0 0)))]
abbrev nY:aF:= [(1000,uI (.ptr 1000 0 0) (.sc (.slice none 0 0)))]
abbrev rB (l:List UInt8):aF:= [(1000,uI (.ptr 1000 0 0) (.ref 1001 0 l.length)),(1001,⟨true,false,true,1,l.map eC,5+2⟩)]
abbrev iJ (l:List UInt8):aF:= [(1000,uI (.ptr 1000 0 0) (.ref 1001 0 l.length)),(1001,⟨true,false,false,1,l.map eC,5+2⟩)]
theorem aGf:MCall prog 131 [.ptr 1000 0 0] rA (fun r o'=>r= .tup []∧o'=nY):=by
 refine cL func131 call131 rfl (by simp[ntmps131]) ?_;simp only[ntmps131,results131]
 repeat' (first|(refine aC fun _ _=>?_)|refine zHg ?_|simp(disch:=omega) [go_sem,I3,I4,I5])
 refine aOb cFk (by simp) ?_
 repeat' (first|simp(disch:=omega) [go_sem,I3,I4,I5])
 refine eR ⟨20,[],nY⟩ [] (Le.renSub [] [] (by simp[go_sem]) (by simp[go_sem]) (Le.sub4 rfl (by simp[go_sem]))) (by simp[go_sem]) ⟨rfl,rfl⟩
theorem cFu:MCall prog 131 [.ptr 1000 0 0] nY (fun r o'=>r= .tup []∧o'=nY):=by
 refine cL func131 call131 rfl (by simp[ntmps131]) ?_;simp only[ntmps131,results131]
 repeat' (first|(refine aC fun _ _=>?_)|refine zHg ?_|simp(disch:=omega) [go_sem,I3,I4,I5])
 refine eR ⟨20,[],nY⟩ [] (Le.renSub [] [] (by simp[go_sem]) (by simp[go_sem]) (Le.sub4 rfl (by simp[go_sem]))) (by simp[go_sem]) ⟨rfl,rfl⟩
theorem aGg (l:List UInt8):MCall prog 131 [.ptr 1000 0 0] (rB l) (fun r o'=>r= .tup []∧o'=rB l):=by
 refine cL func131 call131 rfl (by simp[ntmps131]) ?_;simp only[ntmps131,results131]
 repeat' (first|(refine aC fun _ _=>?_)|refine zHg ?_|simp(disch:=omega) [go_sem,I3,I4,I5])
 refine eR ⟨20,[],rB l⟩ [] (Le.renSub [] [] (by simp[go_sem]) (by simp[go_sem]) (Le.sub4 rfl (by simp[go_sem]))) (by simp[go_sem]) ⟨rfl,rfl⟩
def cV (s:ByteArray):List UInt8:=s.data.toList
theorem vY (s:ByteArray):s.data.toList=cV s:=rfl
theorem oY (s:ByteArray):(cV s).length=s.size:=by unfold cV;rw[Array.length_toList];rfl
theorem X1 (s:ByteArray) (hs:s.size≤4000000) (c:UInt8) (r:List UInt8) (h0:cV s=c::r):MCall prog 92 [.ptr 1000 0 0,.sc (.string s)] rA (fun x o'=>x= .tup [nt .i64 s.size,.sc .nilIface]∧o'=iJ (c::r)):=by
 have hl:=oY s
 rw[h0,List.length_cons]at hl
 refine cL func92 call92 rfl (by simp[ntmps92]) ?_;simp only[ntmps92,results92]
 repeat' (first|(refine aC fun _ _=>?_)|refine zHg ?_|simp(disch:=omega) [go_sem,vY,h0])
 refine bC [] [] 10000 _ _ (Fits.mk' (by simp[go_sem]) (by simp[go_sem])) (by simp[go_sem]) (by simp[go_sem]) (aGf) (by simp[go_sem]) (by simp[go_sem]) ?_
 repeat' (first|(refine aC fun _ _=>?_)|refine zHg ?_|simp(disch:=omega) [go_sem,vY,h0]|refine zAo ?_|fail)
 refine cS ⟨19,[(4,nt .i64 s.size),(5,.sc .nilIface)],iJ (c::r)⟩ [nt .i64 s.size,.sc .nilIface] (Le.renSub [(14,1001),(1001,14)] [(1001,14),(14,1001)] (by simp[go_sem,hl]) (by simp[go_sem,hl]) (Le.sub4 rfl (by simp[go_sem,hl]))) (by simp[go_sem,hl]) ⟨rfl,rfl⟩
theorem aGh (s:ByteArray) (h0:cV s= []):MCall prog 92 [.ptr 1000 0 0,.sc (.string s)] rA (fun x o'=>x= .tup [nt .i64 s.size,.sc .nilIface]∧o'=nY):=by
 refine cL func92 call92 rfl (by simp[ntmps92]) ?_;simp only[ntmps92,results92]
 repeat' (first|(refine aC fun _ _=>?_)|refine zHg ?_|simp(disch:=omega) [go_sem,vY,h0])
 refine bC [] [] 10000 _ _ (Fits.mk' (by simp[go_sem]) (by simp[go_sem])) (by simp[go_sem]) (by simp[go_sem]) (aGf) (by simp[go_sem]) (by simp[go_sem]) ?_
 repeat' (first|(refine aC fun _ _=>?_)|refine zHg ?_|simp(disch:=omega) [go_sem,vY,h0])
 refine cS ⟨19,[(4,nt .i64 s.size),(5,.sc .nilIface)],nY⟩ [nt .i64 s.size,.sc .nilIface] (Le.renSub [] [] (by simp[go_sem]) (by simp[go_sem]) (Le.sub4 rfl (by simp[go_sem]))) (by simp[go_sem]) ⟨rfl,rfl⟩
theorem zE (l:List UInt8) (s:ByteArray) (hs:l.length+s.size≤4000000):MCall prog 92 [.ptr 1000 0 0,.sc (.string s)] (rB l) (fun r o'=>r= .tup [nt .i64 s.size,.sc .nilIface]∧o'=iJ (l++cV s)):=by
 have hl:=oY s
 refine cL func92 call92 rfl (by simp[ntmps92]) ?_;simp only[ntmps92,results92]
 repeat' (first|(refine aC fun _ _=>?_)|refine zHg ?_|simp(disch:=omega) [go_sem,vY])
 refine bC [] [] 10000 _ _ (Fits.mk' (by simp[go_sem]) (by simp[go_sem])) (by simp[go_sem]) (by simp[go_sem]) (aGg l) (by simp[go_sem]) (by simp[go_sem]) ?_
 repeat' (first|(refine aC fun _ _=>?_)|refine zHg ?_|simp(disch:=omega) [go_sem,vY,hl]|refine zAo ?_|fail)
 refine cS ⟨19,[(4,nt .i64 s.size),(5,.sc .nilIface)],iJ (l++cV s)⟩ [nt .i64 s.size,.sc .nilIface] (Le.renSub [(14,1001)] [(1001,14)] (by simp[go_sem,hl]) (by simp[go_sem,hl]) (Le.sub4 rfl (by simp[go_sem,hl]))) (by simp[go_sem,hl]) ⟨rfl,rfl⟩
theorem sM (l:List UInt8) (c:UInt8) (hs:l.length≤4000000):MCall prog 164 [.ptr 1000 0 0,nt .u8 (c.toNat:Int)] (rB l) (fun r o'=>r= .sc .nilIface∧o'=iJ (l++ [c])):=by
 refine cL func164 call164 rfl (by simp[ntmps164]) ?_;simp only[ntmps164,results164]
 repeat' (first|(refine aC fun _ _=>?_)|refine zHg ?_|simp(disch:=omega) [go_sem])
 refine bC [] [] 10000 _ _ (Fits.mk' (by simp[go_sem]) (by simp[go_sem])) (by simp[go_sem]) (by simp[go_sem]) (aGg l) (by simp[go_sem]) (by simp[go_sem]) ?_
 repeat' (first|(refine aC fun _ _=>?_)|refine zHg ?_|simp(disch:=omega) [go_sem]|refine zAo ?_|fail)
 refine cS ⟨17,[(4,.sc .nilIface)],iJ (l++ [c])⟩ [.sc .nilIface] (Le.renSub [(14,1001),(1001,14)] [(1001,14),(14,1001)] (by simp[go_sem,eC]) (by simp[go_sem,eC]) (Le.sub4 rfl (by simp[go_sem,eC]))) (by simp[go_sem,eC]) ⟨rfl,rfl⟩
theorem cFv (c:UInt8):MCall prog 164 [.ptr 1000 0 0,nt .u8 (c.toNat:Int)] nY (fun r o'=>r= .sc .nilIface∧o'=iJ [c]):=by
 refine cL func164 call164 rfl (by simp[ntmps164]) ?_;simp only[ntmps164,results164]
 repeat' (first|(refine aC fun _ _=>?_)|refine zHg ?_|simp(disch:=omega) [go_sem])
 refine bC [] [] 10000 _ _ (Fits.mk' (by simp[go_sem]) (by simp[go_sem])) (by simp[go_sem]) (by simp[go_sem]) (cFu) (by simp[go_sem]) (by simp[go_sem]) ?_
 repeat' (first|(refine aC fun _ _=>?_)|refine zHg ?_|simp(disch:=omega) [go_sem])
 refine cS ⟨17,[(4,.sc .nilIface)],iJ [c]⟩ [.sc .nilIface] (Le.renSub [(14,1001),(1001,14)] [(1001,14),(14,1001)] (by simp[go_sem,eC]) (by simp[go_sem,eC]) (Le.sub4 rfl (by simp[go_sem,eC]))) (by simp[go_sem,eC]) ⟨rfl,rfl⟩
mutual
def cK:Tm→List UInt8
 | .mk s ts=>if ts.length=0 then cV s else cV s++40::((cZ ts).tail++ [41])
def cZ:List Tm→List UInt8
 | []=> []
 |t::r=>44::(cK t++cZ r)
end
theorem nZ {s:ByteArray} {ts:List Tm}:cK (.mk s ts)=if ts.length=0 then cV s else cV s++40::((cZ ts).tail++ [41]):=rfl
theorem I6: ∀a b:List Tm,cZ (a++b)=cZ a++cZ b
 | [],b=>by simp[cZ]
 |t::r,b=>by simp[cZ,I6 r b]
theorem cFw {l:List Tm} (h:l≠ []):cZ l≠ []:=by
 cases l with
 |nil=>exact absurd rfl h
 |cons t r=>simp[cZ]
theorem cFx {ts:List Tm} (h:0<ts.length):(cZ (ts.take 1)).tail=cK ts[0]:=by
 cases ts with
 |nil=>simp at h
 |cons t r=>simp[cZ]
theorem cFy {ts:List Tm} {i:Nat} (h:i<ts.length) (h0:0<i):(cZ (ts.take (i+1))).tail=(cZ (ts.take i)).tail++44::cK ts[i]:=by
 rw[iT h,I6,List.tail_append_of_ne_nil]
 ·simp[cZ]
 ·refine cFw fun e=>?_
  have:=congrArg List.length e
  rw[List.length_take]at this
  simp only[List.length_nil]at this
  omega
theorem cFz (ts:List Tm) (i:Nat):(cZ (ts.take i)).tail.length≤(cZ ts).tail.length:=by
 have:=I6 (ts.take i) (ts.drop i)
 rw[List.take_append_drop]at this
 simp only[List.length_tail,this,List.length_append];omega
theorem cF0:C9 prog 161 (5+2)=true:=by kernel_rfl
theorem aGi (l:List UInt8) (hne:l≠ []) (hs:l.length≤4000000):MCall prog 94 [.ptr 1000 0 0] (rB l) (fun x o'=>x= .sc (.string ⟨l.toArray⟩)∧o'= []):=by
 have h0: ¬l.length=0:=fun h=>hne (List.eq_nil_of_length_eq_zero h)
 have hst:=cF0
 simp only[Nat.reduceAdd]at hst
 refine cL func94 call94 rfl (by simp[ntmps94]) ?_;simp only[ntmps94,results94]
 repeat' (first|(refine aC fun _ _=>?_)|refine zHg ?_|simp(disch:=omega) [go_sem,hne,h0,hst]|refine zDr 10 bE ?_|fail)
 refine cS ⟨14,[(2,.sc (.string ⟨l.toArray⟩))],[]⟩ [.sc (.string ⟨l.toArray⟩)] (Le.renSub [] [] (by simp[go_sem]) (by simp[go_sem]) (Le.sub4 rfl (by simp[go_sem]))) (by simp[go_sem]) ⟨rfl,rfl⟩
theorem cF1 {d:Option Nat} {x:Operand} {ts:Array TypeId} {ty:TypeId} {pos:String} {af g} {ρ:Operand→Option AV} (hx:ρ x=some (.sc (.slice none 0 0))):
 dR prog ⟨d,.call ⟨.builtin .unsafeSliceData,#[x],ts⟩,ty,pos,af,g⟩ ρ=some ⟨true,.sc (.pointer none)⟩:=by
 unfold dR
 rw[if_pos ⟨rfl,by simp[Op.operands,Call.operands,hx,eQ,jZ]⟩]
 have e:nG prog (execOp (fun z=>kC ((ρ z).bind eQ)) ⟨d,.call ⟨.builtin .unsafeSliceData,#[x],ts⟩,ty,pos,af,g⟩)=some (.value (.pointer none)):=by
  simp only[execOp,resolve,Array.map,hx]
  simp[hx,eQ,jZ,kC]
  rfl
 rw[e]
 rfl
def I7 (z:Option Sv):Option AV→Option Sv
 |some (.sc (.slice none 0 0))=>some ⟨true,.sc (.pointer none)⟩
 |_=>z
theorem cF2 {z:Option Sv}:I7 z (some (.sc (.slice none 0 0)))=some ⟨true,.sc (.pointer none)⟩:=rfl
theorem cF3 {z:Option Sv} {L lo n:Nat}:I7 z (some (.ref L lo n))=z:=rfl
theorem cF4 {d:Nat} {x:Operand} {ts:Array TypeId} {ty:TypeId} {pos:String} {af g} {s:ASt}:bF prog ⟨some d,.call ⟨.builtin .unsafeSliceData,#[x],ts⟩,ty,pos,af,g⟩ s=
 dE (I7 (vP (dR prog ⟨some d,.call ⟨.builtin .unsafeSliceData,#[x],ts⟩,ty,pos,af,g⟩ (bX prog s.t)) s.o (bX prog s.t x)) (bX prog s.t x)):=by
 rw[aEj]
 refine congrArg dE ?_
 unfold I7
 split
 ·rename_i hx
  rw[hx,aEi,cF1 hx]
 ·rfl
attribute [go_sem high] cF4
attribute [go_sem] cF2 cF3
theorem cF5 {d:Option Nat} {x y:Operand} {pt it:TypeId} {ty:TypeId} {pos:String} {af g} {ρ:Operand→Option AV} (hx:ρ x=some (.sc (.pointer none))) (hy:ρ y=some (.sc (.int .i64 0))):
 dR prog ⟨d,.call ⟨.builtin .unsafeString,#[x,y],#[pt,it]⟩,ty,pos,af,g⟩ ρ=some ⟨true,.sc (.string (ByteArray.mk #[]))⟩:=by
 unfold dR
 rw[if_pos ⟨rfl,by simp[Op.operands,Call.operands,hx,hy,eQ,jZ]⟩]
 have e:nG prog (execOp (fun z=>kC ((ρ z).bind eQ)) ⟨d,.call ⟨.builtin .unsafeString,#[x,y],#[pt,it]⟩,ty,pos,af,g⟩)=some (.value (.string .empty)):=by
  simp only[execOp,resolve,Array.map,hx,hy]
  simp[hx,hy,eQ,jZ,kC]
  rfl
 rw[e]
 rfl
def X2 (z:Option Sv):Option AV→Option AV→Option Sv
 |some (.sc (.pointer none)),some (.sc (.int .i64 0))=>some ⟨true,.sc (.string (ByteArray.mk #[]))⟩
 |_,_=>z
theorem cF6 {z:Option Sv}:X2 z (some (.sc (.pointer none))) (some (.sc (.int .i64 0)))=some ⟨true,.sc (.string (ByteArray.mk #[]))⟩:=rfl
theorem cF7 {d:Nat} {x y:Operand} {pt it:TypeId} {ty:TypeId} {pos:String} {af g} {s:ASt}:bF prog ⟨some d,.call ⟨.builtin .unsafeString,#[x,y],#[pt,it]⟩,ty,pos,af,g⟩ s=
 dE (X2 (dR prog ⟨some d,.call ⟨.builtin .unsafeString,#[x,y],#[pt,it]⟩,ty,pos,af,g⟩ (bX prog s.t)) (bX prog s.t x) (bX prog s.t y)):=by
 have e:bF prog ⟨some d,.call ⟨.builtin .unsafeString,#[x,y],#[pt,it]⟩,ty,pos,af,g⟩ s=dE (dR prog ⟨some d,.call ⟨.builtin .unsafeString,#[x,y],#[pt,it]⟩,ty,pos,af,g⟩ (bX prog s.t)):=rfl
 rw[e]
 refine congrArg dE ?_
 unfold X2
 split
 ·rename_i hx hy
  rw[cF5 hx hy]
 ·rfl
attribute [go_sem] cF7 cF6
theorem cF8:MCall prog 94 [.ptr 1000 0 0] nY (fun x o'=>x= .sc (.string (ByteArray.mk #[]))∧o'= []):=by
 refine cL func94 call94 rfl (by simp[ntmps94]) ?_;simp only[ntmps94,results94]
 repeat' (first|(refine aC fun _ _=>?_)|refine zHg ?_|simp(disch:=omega) [go_sem]|refine zDr 10 bE ?_|fail)
 refine cS ⟨14,[(2,.sc (.string (ByteArray.mk #[])))],[]⟩ [.sc (.string (ByteArray.mk #[]))] (Le.renSub [] [] (by simp[go_sem]) (by simp[go_sem]) (Le.sub4 rfl (by simp[go_sem]))) (by simp[go_sem]) ⟨rfl,rfl⟩
open Go.Ab
set_option maxRecDepth 100000
set_option maxHeartbeats 4000000
theorem X3 {ts:List Tm} {i:Nat} (h:i<ts.length):(cK ts[i]).length≤(cZ ts).tail.length:=by
 have h1:=I6 (ts.take i) (ts.drop i)
 rw[List.take_append_drop,List.drop_eq_getElem_cons h]at h1
 simp only[cZ]at h1
 simp only[List.length_tail,h1,List.length_append,List.length_cons];omega
def dW (ts:List Tm) (i:Nat):List UInt8:=(cZ (ts.take i)).tail
theorem iB (ts:List Tm):dW ts 0= []:=rfl
theorem X4 {ts:List Tm} (h:0<ts.length):dW ts 1=cK ts[0]:=cFx h
theorem X5 {ts:List Tm} {i:Nat} (h:i<ts.length) (h0:0<i):dW ts (i+1)=dW ts i++44::cK ts[i]:=cFy h h0
theorem X6 (ts:List Tm):dW ts ts.length=(cZ ts).tail:=by unfold dW;rw[List.take_length]
theorem X7 (ts:List Tm) (i:Nat):(dW ts i).length≤(cZ ts).tail.length:=cFz ts i
theorem aGj: ∀ts:List Tm,ts.length≤(cZ ts).length
 | []=>by simp[cZ]
 |t::r=>by have:=aGj r;simp only[cZ,List.length_cons,List.length_append];omega
theorem X8 (ts:List Tm):ts.length≤(cZ ts).tail.length+1:=by have:=aGj ts;rw[List.length_tail];omega
theorem aGk: ∀(t:Tm) (l:List UInt8),l.length+(cK t).length≤3000000→MCall prog 132 [.ptr 1000 0 0,eT t] (rB l) (fun r o'=>r= .tup []∧o'=iJ (l++cK t)):=by
 refine dS fun t ih l hb=>?_
 obtain⟨s,ts⟩:=t
 rw[nZ]at*
 simp only[cT,yT]at*
 have hsl:=oY s
 by_cases h0:ts.length=0
 ·rw[if_pos h0]at*
  refine cL func132 call132 rfl (by simp[ntmps132]) ?_;simp only[ntmps132,results132]
  repeat' (first|(refine aC fun _ _=>?_)|refine zHg ?_|simp(disch:=omega) [go_sem])
  refine bC [] [] 10000 _ _ (Fits.mk' (by simp[go_sem]) (by simp[go_sem])) (by simp[go_sem]) (by simp[go_sem]) (zE l s (by omega)) (by simp[go_sem]) (by simp[go_sem]) ?_
  repeat' (first|(refine aC fun _ _=>?_)|refine zHg ?_|simp(disch:=omega) [go_sem,h0])
  refine cS ⟨34,[],iJ (l++cV s)⟩ [] (Le.renSub [(11001,1001),(1001,11001)] [(1001,11001),(11001,1001)] (by simp[go_sem]) (by simp[go_sem]) (Le.sub4 rfl (by simp[go_sem]))) (by simp[go_sem]) ⟨rfl,rfl⟩
 ·rw[if_neg h0]at*
  simp only[List.length_append,List.length_cons,List.length_nil]at hb
  have hq:=X8 ts
  have hall:=X6 ts
  rw[←hall]at hb hq ⊢
  have hle: ∀i,(dW ts i).length≤(dW ts ts.length).length:=fun i=>by rw[hall];exact X7 ts i
  have hge: ∀(i:Nat) (h:i<ts.length),(cK ts[i]).length≤(dW ts ts.length).length:=fun i h=>by rw[hall];exact X3 h
  clear hall
  refine cL func132 call132 rfl (by simp[ntmps132]) ?_;simp only[ntmps132,results132]
  repeat' (first|(refine aC fun _ _=>?_)|refine zHg ?_|simp(disch:=omega) [go_sem])
  refine bC [] [] 10000 _ _ (Fits.mk' (by simp[go_sem]) (by simp[go_sem])) (by simp[go_sem]) (by simp[go_sem]) (zE l s (by omega)) (by simp[go_sem]) (by simp[go_sem]) ?_
  repeat' (first|(refine aC fun _ _=>?_)|refine zHg ?_|simp(disch:=omega) [go_sem,h0])
  refine bC [(1001,11001)] [(11001,1001),(1001,11001)] 20000 _ _ (Fits.mk' (by simp[go_sem]) (by simp[go_sem])) (by simp[go_sem]) (by simp[go_sem]) (sM (l++cV s) 40 (by simp only[List.length_append];omega)) (by simp[go_sem]) (by simp[go_sem]) ?_
  repeat' (first|(refine aC fun _ _=>?_)|refine zHg ?_|simp(disch:=omega) [go_sem,h0])
  refine bR [0,17,18] [1000,1001,11001,21001] (fun i:Nat=> [(19,nt .i64 i)]) (fun i:Nat=> [(1000,uI (.ptr 1000 0 0) (.ref 1001 0 (l++cV s++40::dW ts i).length)),(1001,⟨true,false,false,1,(l++cV s++40::dW ts i).map eC,7⟩)]) (fun i:Nat=>ts.length - i) (fun i:Nat=>i≤ts.length) (0) (Le.renSub [(21001,1001),(1001,21001)] [(1001,21001),(21001,1001)] (by simp[go_sem,iB]) (by simp[go_sem,iB]) (Le.sub4 rfl (by simp[go_sem,iB]))) ⟨?_⟩ ?_
  ·exact Nat.zero_le _
  intro i hi AA hAA;simp only[kL,Nat.reduceBEq,Nat.reduceEqDiff,if_true,if_false,List.cons_append,List.nil_append,List.append_nil]
  by_cases hlt:i<ts.length
  ·have hu:=ih ts[i] (List.getElem_mem hlt)
   have hl1:=hle i
   have hl2:=hge i hlt
   have hl3:=hle (i+1)
   by_cases hi0:i=0
   ·subst hi0
    have hn:=X4 hlt
    have hl4:=congrArg List.length hn
    rw[show 0+1=1 from rfl]at hl3
    have hu:=hu (l++cV s++40::dW ts 0) (by simp only[List.length_append,List.length_cons,iB,List.length_nil];omega)
    repeat' (first|(refine aC fun _ _=>?_)|refine zHg ?_|simp(disch:=omega) [go_sem,hlt])
    refine bC [] [] 30000 _ _ (Fits.mk' (by simp[go_sem]) (by simp[go_sem])) (by simp[go_sem]) (by simp[go_sem]) (hu) (by simp[go_sem]) (by simp[go_sem]) ?_
    repeat' (first|refine zHg ?_|(refine(hAA.next (0+1) (Le.renSub [(31001,1001),(1001,31001)] [(1001,31001),(31001,1001)] (by simp[go_sem,iB,hn]) (by simp[go_sem,iB,hn]) (Le.sub4 rfl (by simp[go_sem,iB,hn]))) (by(try dsimp only);omega) ?_))|simp(disch:=omega) [go_sem,hlt])
    exact⟨by omega⟩
   ·have hn:=X5 hlt (by omega)
    have hl4:=congrArg List.length hn
    simp only[List.length_append,List.length_cons]at hl4
    have hu:=hu (l++cV s++40::dW ts i++ [44]) (by simp only[List.length_append,List.length_cons,List.length_nil];omega)
    have hi1:(0:Int)<i:=by omega
    repeat' (first|(refine aC fun _ _=>?_)|refine zHg ?_|(refine zqd ?_ ?_<;>(intro h;first|(exfalso;omega)|(simp only[h,zT])))|simp(disch:=omega) [go_sem,hlt,hi1])
    refine bC [] [] 30000 _ _ (Fits.mk' (by simp[go_sem]) (by simp[go_sem])) (by simp[go_sem]) (by simp[go_sem]) (sM (l++cV s++40::dW ts i) 44 (by simp only[List.length_append,List.length_cons];omega)) (by simp[go_sem]) (by simp[go_sem]) ?_
    repeat' (first|refine zHg ?_|simp(disch:=omega) [go_sem,hlt])
    refine bC [(1001,31001)] [(31001,1001),(1001,31001)] 40000 _ _ (Fits.mk' (by simp[go_sem]) (by simp[go_sem])) (by simp[go_sem]) (by simp[go_sem]) (hu) (by simp[go_sem]) (by simp[go_sem]) ?_
    repeat' (first|refine zHg ?_|(refine(hAA.next (i+1) (Le.renSub [(41001,1001),(1001,41001)] [(1001,41001),(41001,1001)] (by simp[go_sem,hn]) (by simp[go_sem,hn]) (Le.sub4 rfl (by simp[go_sem,hn]))) (by(try dsimp only);omega) ?_))|simp(disch:=omega) [go_sem,hlt])
    exact⟨by omega⟩
  ·obtain rfl:i=ts.length:=by omega
   repeat' (first|(refine aC fun _ _=>?_)|refine zHg ?_|simp(disch:=omega) [go_sem])
   refine bC [] [] 30000 _ _ (Fits.mk' (by simp[go_sem]) (by simp[go_sem])) (by simp[go_sem]) (by simp[go_sem]) (sM (l++cV s++40::dW ts ts.length) 41 (by simp only[List.length_append,List.length_cons];omega)) (by simp[go_sem]) (by simp[go_sem]) ?_
   repeat' (first|simp(disch:=omega) [go_sem])
   refine eR ⟨34,[],iJ (l++(cV s++40::(dW ts ts.length++ [41])))⟩ [] (Le.renSub [(31001,1001),(1001,31001)] [(1001,31001),(31001,1001)] (by simp[go_sem]) (by simp[go_sem]) (Le.sub4 rfl (by simp[go_sem]))) (by simp[go_sem]) ⟨rfl,rfl⟩
end Go.Proofs.YtkbglbcphjmiiaaGreatDoor
