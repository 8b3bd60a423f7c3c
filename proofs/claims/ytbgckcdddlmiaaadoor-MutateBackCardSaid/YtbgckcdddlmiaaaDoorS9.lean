import Derived.Test.YtbgckcdddlmiaaaDoorS1
import Derived.Shelf.SlGeneric
import Derived.Shelf.SlLaysF
import Derived.Ground.SlsfProg
import Derived.Test.YtbgckcdddlmiaaaDoorS5
import Derived.Shelf.SlSortCmp.Whole1
import Derived.Shelf.SlicesE.Compact
import Derived.Ground.SlgnProg
import Derived.Test.YtbgckcdddlmiaaaDoorS3
import Derived.Test.YtbgckcdddlmiaaaDoorS2
import Derived.Test.YtbgckcdddlmiaaaDoorA9
set_option linter.unusedSimpArgs false
set_option linter.unusedVariables false
open Go.Proofs.Tryd
namespace Go.Proofs.YtbgckcdddlmiaaaDoor
open Go.Shelf Go.Proofs
def Tryd.pdqS_ren:Go.Shelf.Ren:=⟨fun|6=>31|15=>51|14=>50|28=>65|29=>66|20=>57|21=>58|22=>59|23=>60|24=>61|25=>62|26=>63|27=>64|46=>76|47=>77|48=>78|49=>79|50=>80|57=>89|n=>n,fun|22=>47|24=>9|25=>77|3=>3|39=>95|0=>0|53=>110|55=>112|4=>4|46=>103|45=>102|50=>107|5=>5|9=>9|66=>123|70=>127|76=>136|77=>137|n=>n,fun|n=>n⟩
theorem Tryd.pdqS:Go.Proofs.SlLaysF.n6 prog Tryd.pdqS_ren:= {
 mixed:=by kernel_rfl
 f6:=⟨Tryd.f31.name,by decide,func31.trans (congrArg some (by kernel_rfl))⟩
 f14:=⟨Tryd.f50.name,by decide,func50.trans (congrArg some (by kernel_rfl))⟩
 f15:=func51.trans (congrArg some (by kernel_rfl))
 f20:=⟨Tryd.f57.name,by decide,func57.trans (congrArg some (by kernel_rfl))⟩
 f21:=⟨Tryd.f58.name,by decide,func58.trans (congrArg some (by kernel_rfl))⟩
 f22:=⟨Tryd.f59.name,by decide,func59.trans (congrArg some (by kernel_rfl))⟩
 f23:=⟨Tryd.f60.name,by decide,func60.trans (congrArg some (by kernel_rfl))⟩
 f24:=⟨Tryd.f61.name,by decide,func61.trans (congrArg some (by kernel_rfl))⟩
 f25:=⟨Tryd.f62.name,by decide,func62.trans (congrArg some (by kernel_rfl))⟩
 f26:=⟨Tryd.f63.name,by decide,func63.trans (congrArg some (by kernel_rfl))⟩
 f27:=⟨Tryd.f64.name,by decide,func64.trans (congrArg some (by kernel_rfl))⟩
 f28:=func65.trans (congrArg some (by kernel_rfl))
 f29:=func66.trans (congrArg some (by kernel_rfl))
 f46:=⟨Tryd.f76.name,by decide,func76.trans (congrArg some (by kernel_rfl))⟩
 f47:=func77.trans (congrArg some (by kernel_rfl))
 f48:=func78.trans (congrArg some (by kernel_rfl))
 f49:=⟨Tryd.f79.name,by decide,func79.trans (congrArg some (by kernel_rfl))⟩
 f50:=⟨Tryd.f80.name,by decide,func80.trans (congrArg some (by kernel_rfl))⟩
 f57:=⟨Tryd.f89.name,by decide,func89.trans (congrArg some (by kernel_rfl))⟩
 t0:=underlying0
 a0:=Tryd.isAgg0
 z0:=Tryd.sizeOf0
 v0:=Tryd.zeroValue0
 t3:=underlying3
 a3:=Tryd.isAgg3
 z3:=Tryd.sizeOf3
 v3:=Tryd.zeroValue3
 t4:=underlying4
 a4:=Tryd.isAgg4
 z4:=Tryd.sizeOf4
 v4:=Tryd.zeroValue4
 t5:=underlying5
 a5:=Tryd.isAgg5
 z5:=Tryd.sizeOf5
 v5:=Tryd.zeroValue5
 t9:=underlying9
 a9:=Tryd.isAgg9
 z9:=Tryd.sizeOf9
 v9:=Tryd.zeroValue9
 t22:=underlying47
 a22:=Tryd.isAgg47
 z22:=Tryd.sizeOf47
 v22:=Tryd.zeroValue47
 a24:=Tryd.isAgg9
 z24:=Tryd.sizeOf9
 t25:=underlying77
 a25:=Tryd.isAgg77
 z25:=Tryd.sizeOf77
 v25:=Tryd.zeroValue77
 t39:=underlying95
 a39:=Tryd.isAgg95
 z39:=Tryd.sizeOf95
 v39:=Tryd.zeroValue95
 t45:=underlying102
 a45:=Tryd.isAgg102
 z45:=Tryd.sizeOf102
 v45:=Tryd.zeroValue102
 t46:=underlying103
 a46:=Tryd.isAgg103
 z46:=Tryd.sizeOf103
 v46:=Tryd.zeroValue103
 t50:=underlying107
 a50:=Tryd.isAgg107
 z50:=Tryd.sizeOf107
 v50:=Tryd.zeroValue107
 t53:=underlying110
 a53:=Tryd.isAgg110
 z53:=Tryd.sizeOf110
 v53:=Tryd.zeroValue110
 t55:=underlying112
 a55:=Tryd.isAgg112
 z55:=Tryd.sizeOf112
 v55:=Tryd.zeroValue112
 t66:=underlying123
 a66:=Tryd.isAgg123
 z66:=Tryd.sizeOf123
 v66:=Tryd.zeroValue123
 t70:=underlying127
 a70:=Tryd.isAgg127
 z70:=Tryd.sizeOf127
 v70:=Tryd.zeroValue127
 t76:=underlying136
 a76:=Tryd.isAgg136
 z76:=Tryd.sizeOf136
 v76:=Tryd.zeroValue136
 t77:=underlying137
 a77:=Tryd.isAgg137
 z77:=Tryd.sizeOf137
 v77:=Tryd.zeroValue137}
open Go.Ab
set_option maxRecDepth 100000
set_option maxHeartbeats 8000000
theorem zY (x y:ByteArray):iD y x= -iD x y:=zJ _ _
theorem bWf (x:ByteArray):iD x x=0:=vX _
theorem bWg {x y z:ByteArray} (h:iD x y≤0) (k:iD y z≤0):iD x z≤0:=bUq.tr _ _ _ h k
theorem bWh {x y z:ByteArray} (h:iD x y<0) (k:iD y z<0):iD x z<0:=aCs h (Int.le_of_lt k)
theorem bWi:Go.Sort.SWO (ltOf iD) where
 irrefl x:=by unfold ltOf;rw[bWf];rfl
 trans x y z h1 h2:=by
  unfold ltOf at*
  simp only[decide_eq_true_eq]at*
  exact bWh h1 h2
 ntrans x y z h1 h2:=by
  unfold ltOf at*
  simp only[decide_eq_false_iff_not,Int.not_lt]at*
  have a:=zY x y
  have b:=zY y z
  have c:=zY x z
  have:=bWg (x:=z) (y:=y) (z:=x) (by omega) (by omega)
  omega
section
open Go.Shelf Go.Proofs
def Tryd.compS_ren:Go.Shelf.Ren:=⟨fun|43=>33|n=>n,fun|22=>47|23=>9|3=>3|4=>4|0=>0|n=>n,fun|n=>n⟩
theorem Tryd.compS:Go.Proofs.SlLaysE.n43 prog Tryd.compS_ren:= {
 mixed:=by kernel_rfl
 f43:=⟨Tryd.f33.name,by decide,func33.trans (congrArg some (by kernel_rfl))⟩
 t0:=underlying0
 a0:=Tryd.isAgg0
 z0:=Tryd.sizeOf0
 v0:=Tryd.zeroValue0
 t3:=underlying3
 a3:=Tryd.isAgg3
 z3:=Tryd.sizeOf3
 v3:=Tryd.zeroValue3
 t4:=underlying4
 a4:=Tryd.isAgg4
 z4:=Tryd.sizeOf4
 v4:=Tryd.zeroValue4
 t22:=underlying47
 a22:=Tryd.isAgg47
 z22:=Tryd.sizeOf47
 v22:=Tryd.zeroValue47
 a23:=Tryd.isAgg9
 z23:=Tryd.sizeOf9}
end
def rY (l:List ByteArray):List ByteArray:=Go.Lib.compactUpTo l.toArray l.length
theorem aEe (d:Array ByteArray) (i:Nat):Go.Lib.compactUpTo d (i+1)=Go.Lib.compactUpTo d i++(if Go.Lib.keeps d i=true then[d[i]!]else[]):=by
 unfold Go.Lib.compactUpTo
 rw[List.range_succ,List.filter_append,List.map_append]
 congr 1
 by_cases h:Go.Lib.keeps d i=true<;>simp[h]
theorem O4 (d:Array ByteArray): ∀i,(Go.Lib.compactUpTo d i).length≤i
 |0=>by simp[Go.Lib.compactUpTo]
 |i+1=>by
  rw[aEe,List.length_append]
  have:=O4 d i
  split<;>simp<;>omega
def zs:ByteArray:=ByteArray.mk #[]
theorem bWj (l:List ByteArray) (hb:l.length≤140737488355328):MCall prog 33 [.ref 1000 0 l.length] [(1000,cQ bM 1 0 l)]
 (fun r o'=>r= .ref 1001 0 (rY l).length∧o'= [(1001,⟨true,false,false,1,(rY l).map bM,0⟩)]):=by
 by_cases hl:l= []
 ·subst hl
  have e:rY []= []:=rfl
  rw[e]
  refine eM func33 call33 rfl (by simp[ntmps33]) ?_;simp only[ntmps33,results33]
  repeat' (first|(refine aC fun _ _=>?_)|refine zHg ?_|simp(disch:=omega) [go_sem])
  refine cV ⟨61,[(2,.ref 1001 0 0)],[(1001,⟨true,false,false,1,[],0⟩)]⟩ [.ref 1001 0 0] (by refine Le.trans ?_ (Le.move (i:=2) (T:=1000) (T':=1001) rfl (by show(0:Nat)≠1;decide) rfl rfl rfl);exact(Le.sub4 rfl (by simp[go_sem]))) (by simp[go_sem]) ⟨rfl,rfl⟩
 ·exact aY7 (P:=prog) (f:=33) Value.string (fun _=>rfl) (fun _=>rfl) 0 (by decide) l (rY l) zs hl (O4 _ _) call33
   (fun blk cap w hH hcap=>by
    have h:=AnyE.slices_Compact Tryd.compS Value.string (fun _=>rfl)
     ⟨fun x y w=>by rw[(EqlAt.string _ _).1 x y w];show _=Result.ok (Value.bool (decide (x=y))) w;rw[←aBy],(EqlAt.string _ _).2⟩ ⟨fun x y w=>by rw[(NeqAt.string _ _).1 x y w];show _=Result.ok (Value.bool (!decide (x=y))) w;rw[←aBy],(NeqAt.string _ _).2⟩ zs (fun w=>by rfl) blk 0 cap l.toArray w hH (by(try simp);omega) (by simpa using hcap)
    exact h)
def fL (s:ByteArray):Tm:= .mk s []
theorem bWk {x y:ByteArray}:fL x=fL y↔x=y:=⟨fun h=>congrArg Tm.name h,fun h=>by rw[h]⟩
theorem aEf (m:List ByteArray): ∀i,i≤m.length→(Go.Lib.compactUpTo m.toArray i).map fL=lM (m.map fL) i
 |0,_=>rfl
 |i+1,hi=>by
  have hi':i<m.length:=by omega
  have hl:i<(m.map fL).length:=by rw[List.length_map];exact hi'
  rw[aEe,List.map_append,aEf m i (by omega),aCx hl]
  have e1:m.toArray[i]! =m[i]:=by simp[hi']
  have e2:(m.map fL)[i]=fL m[i]:=by simp
  rw[e2]
  by_cases h0:i=0
  ·have hk:Go.Lib.keeps m.toArray i=true:=by simp[Go.Lib.keeps,h0]
   rw[if_pos hk,if_pos (.inl h0),e1];rfl
  ·have h1:i - 1<m.length:=by omega
   have e3:(m.map fL).getD (i - 1) (fL m[i])=fL m[i - 1]:=by
    rw[List.getD_eq_getElem?_getD,List.getElem?_eq_getElem (by simpa using h1)];simp
   have e4:m.toArray[i - 1]! =m[i - 1]:=by simp[h1]
   rw[e3]
   have hz:cT (fL m[i - 1]) (fL m[i])=0↔m[i - 1]=m[i]:=by rw[vW,bWk]
   by_cases hk:m[i - 1]=m[i]
   ·have hk': ¬Go.Lib.keeps m.toArray i=true:=by simp[Go.Lib.keeps,h0,e1,e4,hk]
    rw[if_neg hk',if_neg (by rw[hz.2 hk];simp[h0])];simp
   ·have hk':Go.Lib.keeps m.toArray i=true:=by
     unfold Go.Lib.keeps
     rw[decide_eq_true_eq,e1,e4]
     exact .inr fun e=>hk e.symm
    rw[if_pos hk',if_pos (.inr fun e=>hk (hz.1 e)),e1];rfl
def bL (l:List Tm):List ByteArray:=(nX l).filter lL
def zZ (l:List Tm):List ByteArray:=(rN ((bL l).map fL)).map Tm.name
theorem bWl {l:List Tm} {m:List ByteArray} (hp:m.Perm (bL l)) (hs:m.Pairwise (fun x y=>iD x y≤0)):rY m=zZ l:=by
 have h1:(m.map fL).Perm ((bL l).map fL):=hp.map _
 have h2:SrtOn cT (m.map fL) 0 ((bL l).map fL).length:=by
  rw[←h1.length_eq]
  intro i j x y _ hij hj hx hy
  rw[List.length_map]at hj
  have hi:i<m.length:=by omega
  rw[List.getElem?_map,List.getElem?_eq_getElem hi]at hx
  rw[List.getElem?_map,List.getElem?_eq_getElem hj]at hy
  simp only[Option.map_some,Option.some.injEq]at hx hy
  subst hx hy
  exact List.pairwise_iff_getElem.1 hs i j hi hj hij
 have h3:=bUr h1 h2
 unfold zZ rY
 rw[←h3,List.length_map,←aEf m m.length (Nat.le_refl _),List.map_map]
 have:Tm.name∘fL=id:=rfl
 rw[this,List.map_id]
theorem rZ:bL []= []:=rfl
open Go.Ab
set_option maxRecDepth 100000
def iP (t:Tm):List ByteArray:=(N5 t).filter lL
theorem A0 {s:ByteArray} {ts:List Tm}:iP (.mk s ts)=if ts.length=0 then(if lL s=true then[s]else[])else bL ts:=by
 unfold iP bL
 rw[bU6]
 split
 ·by_cases h:lL s=true<;>simp[h]
 ·rfl
theorem pO {t:Tm} {r:List Tm}:bL (t::r)=iP t++bL r:=by
 unfold bL iP
 rw[nX,List.filter_append]
theorem wJ (a b:List Tm):bL (a++b)=bL a++bL b:=by
 unfold bL
 rw[aDj,List.filter_append]
mutual
def wK (K:Nat) (c:ByteArray):Nat→Tm→Tm
 |k,.mk s ts=>if ts.length=0 then .mk (if lL s=true∧k=K then c else s) ts else .mk s (dE K c k ts)
def dE (K:Nat) (c:ByteArray):Nat→List Tm→List Tm
 |_,[]=> []
 |k,t::r=>wK K c k t::dE K c (k+(iP t).length) r
end
theorem aEg {K:Nat} {c:ByteArray} {k:Nat} {s:ByteArray} {ts:List Tm}:wK K c k (.mk s ts)=if ts.length=0 then .mk (if lL s=true∧k=K then c else s) ts else .mk s (dE K c k ts):=by rw[wK]
theorem O5 {K:Nat} {c:ByteArray}: ∀{ts:List Tm} {k:Nat},(dE K c k ts).length=ts.length
 | [],k=>by simp[dE]
 |t::r,k=>by simp[dE,O5]
theorem aEh {K:Nat} {c:ByteArray}: ∀{a b:List Tm} {k:Nat},dE K c k (a++b)=dE K c k a++dE K c (k+(bL a).length) b
 | [],b,k=>by simp[dE,rZ]
 |t::r,b,k=>by
  simp only[List.cons_append,dE,aEh,pO,List.length_append,Nat.add_assoc]
theorem bWm {K:Nat} {c:ByteArray} {ts:List Tm} {k i:Nat} (h:i<ts.length):dE K c k (ts.take (i+1))=dE K c k (ts.take i)++ [wK K c (k+(bL (ts.take i)).length) ts[i]]:=by
 rw[iX h,aEh];simp[dE]
theorem bWn {K:Nat} {c:ByteArray} {k:Nat}:dE K c k []= []:=by rw[dE]
theorem bWo {K:Nat} {c:ByteArray}: ∀(t:Tm) {k:Nat},wK K c k t=t→k≤K→K<k+(iP t).length→(iP t)[K - k]?=some c:=by
 refine fX fun t ih k h h1 h2=>?_
 obtain⟨s,ts⟩:=t
 simp only[cS]at ih
 rw[aEg]at h
 rw[A0]at h2 ⊢
 split at h
 ·rename_i h0
  rw[if_pos h0]at h2 ⊢
  by_cases hc:lL s=true
  ·rw[if_pos hc]at h2 ⊢
   have hk:k=K:=by simp at h2;omega
   subst hk
   rw[if_pos ⟨hc,rfl⟩]at h
   have:=congrArg Tm.name h
   simp only[qK]at this
   subst this
   simp
  ·rw[if_neg hc]at h2
   simp at h2;omega
 ·rename_i h0
  rw[if_neg h0]at h2 ⊢
  have h:=congrArg Tm.args h
  simp only[cS]at h
  have key: ∀(l:List Tm) (k:Nat),(∀u∈l,u∈ts)→dE K c k l=l→k≤K→K<k+(bL l).length→(bL l)[K - k]?=some c:=by
   intro l
   induction l with
   |nil=>intro k _ _ _ h;simp[rZ]at h;omega
   |cons u r ihl=>
    intro k hm h h1 h2
    rw[pO,List.length_append]at h2
    rw[dE]at h
    obtain⟨e1,e2⟩:=List.cons.inj h
    rw[pO]
    by_cases hk:K<k+(iP u).length
    ·rw[List.getElem?_append_left (by omega)]
     exact ih u (hm u (by simp)) e1 h1 hk
    ·rw[List.getElem?_append_right (by omega)]
     have:=ihl _ (fun v hv=>hm v (by simp[hv])) e2 (by omega) (by omega)
     rw[show K - k - (iP u).length=K - (k+(iP u).length) by omega]
     exact this
  exact key ts k (fun u hu=>hu) h h1 h2
theorem O6 {K:Nat} {c:ByteArray}: ∀{l:List Tm} {k:Nat},dE K c k l=l→k≤K→K<k+(bL l).length→(bL l)[K - k]?=some c
 | [],k,_,_,h=>by simp[rZ]at h;omega
 |u::r,k,h,h1,h2=>by
  rw[pO,List.length_append]at h2
  rw[dE]at h
  obtain⟨e1,e2⟩:=List.cons.inj h
  rw[pO]
  by_cases hk:K<k+(iP u).length
  ·rw[List.getElem?_append_left (by omega)]
   exact bWo u e1 h1 hk
  ·rw[List.getElem?_append_right (by omega)]
   have:=O6 e2 (by omega) (by omega)
   rw[show K - k - (iP u).length=K - (k+(iP u).length) by omega]
   exact this
def eX:List Lt→List ByteArray
 | []=> []
 |b::m=>bL b.atom.args++eX m
theorem aEi: ∀(a b:List Lt),eX (a++b)=eX a++eX b
 | [],b=>rfl
 |x::a,b=>by simp[eX,aEi a b]
theorem bWp {l:List Lt} {i:Nat} (h:i<l.length):eX (l.take (i+1))=eX (l.take i)++bL l[i].atom.args:=by
 rw[iX h,aEi];simp[eX]
def eC (r:Rl):List ByteArray:=bL r.head.args++eX r.body
def fM (K:Nat) (c:ByteArray):Nat→List Lt→List Lt
 |_,[]=> []
 |k,b::m=>⟨b.neg,.mk b.atom.name (dE K c k b.atom.args)⟩::fM K c (k+(bL b.atom.args).length) m
theorem O7 {K:Nat} {c:ByteArray}: ∀{a b:List Lt} {k:Nat},fM K c k (a++b)=fM K c k a++fM K c (k+(eX a).length) b
 | [],b,k=>by simp[fM,eX]
 |x::a,b,k=>by simp only[List.cons_append,fM,O7,eX,List.length_append,Nat.add_assoc]
theorem bWq {K:Nat} {c:ByteArray} {l:List Lt} {k i:Nat} (h:i<l.length):fM K c k (l.take (i+1))=fM K c k (l.take i)++ [⟨l[i].neg,.mk l[i].atom.name (dE K c (k+(eX (l.take i)).length) l[i].atom.args)⟩]:=by
 rw[iX h,O7];simp[fM]
theorem wL {K:Nat} {c:ByteArray}: ∀{l:List Lt} {k:Nat},(fM K c k l).length=l.length
 | [],k=>by simp[fM]
 |x::l,k=>by simp[fM,wL]
def sA (K:Nat) (c:ByteArray) (r:Rl):Rl:=⟨.mk r.head.name (dE K c 0 r.head.args),fM K c (bL r.head.args).length r.body⟩
theorem aEj {K:Nat} {c:ByteArray}: ∀{l:List Lt} {k:Nat},fM K c k l=l→k≤K→K<k+(eX l).length→(eX l)[K - k]?=some c
 | [],k,_,_,h=>by simp[eX]at h;omega
 |b::m,k,h,h1,h2=>by
  rw[eX,List.length_append]at h2
  rw[fM]at h
  obtain⟨e1,e2⟩:=List.cons.inj h
  have e1:=congrArg (fun z:Lt=>z.atom.args) e1
  simp only[cS]at e1
  rw[eX]
  by_cases hk:K<k+(bL b.atom.args).length
  ·rw[List.getElem?_append_left (by omega)]
   exact O6 e1 h1 hk
  ·rw[List.getElem?_append_right (by omega)]
   have:=aEj e2 (by omega) (by omega)
   rw[show K - k - (bL b.atom.args).length=K - (k+(bL b.atom.args).length) by omega]
   exact this
theorem bWr {K:Nat} {c:ByteArray} {r:Rl} (h:sA K c r=r) (hK:K<(eC r).length):(eC r)[K]?=some c:=by
 obtain⟨hd,bd⟩:=r
 unfold sA at h
 obtain⟨e1,e2⟩:=Rl.mk.inj h
 have e1:=congrArg Tm.args e1
 simp only[cS]at e1
 unfold eC at hK ⊢
 dsimp only at*
 rw[List.length_append]at hK
 by_cases hk:K<(bL hd.args).length
 ·rw[List.getElem?_append_left (by omega)]
  have:=O6 (k:=0) e1 (by omega) (by omega)
  simpa using this
 ·rw[List.getElem?_append_right (by omega)]
  exact aEj e2 (by omega) (by omega)
structure Mu where
 kind:Int
 rule:Int
 index:Int
 deriving DecidableEq
abbrev dM (m:Mu):AV:= .agg [nt .i64 m.kind,nt .i64 m.rule,nt .i64 m.index]
def zT:Tm:= .mk ⟨#[]⟩ []
def kR (i p:Nat) (C:List ByteArray) (s:ByteArray):Nat→List Mu
 |0=> []
 |k+1=>kR i p C s k++(if C.getD k zs=s then[]else[⟨4,i,(p*C.length+k:Nat)⟩])
def kS (i:Nat) (C S:List ByteArray):Nat→List Mu
 |0=> []
 |p+1=>kS i C S p++kR i p C (S.getD p zs) C.length
def oA (i:Nat):Nat→List Mu
 |0=> []
 |k+1=>oA i k++ [⟨2,i,k⟩,⟨3,i,k⟩]
def oB (t:Tm):Bool:=decide (2≤t.args.length)&& !decide (cT (t.args.getD 0 zT) (t.args.getD 1 zT)=0)
def kT (i:Nat) (A:List Tm):Nat→List Mu
 |0=> []
 |k+1=>kT i A k++(if oB (A.getD k zT)=true then[⟨5,i,k⟩]else[])
def kU (r:Rl):List Tm:=r.head::r.body.map Lt.atom
def gS (i:Nat) (r:Rl) (C:List ByteArray):List Mu:= [⟨1,i,0⟩]++oA i r.body.length++kS i C (eC r) (eC r).length++kT i (kU r) (kU r).length
def yR:Rl:=⟨zT,[]⟩
def lQ (C:List ByteArray) (l:List Rl):Nat→List Mu
 |0=> []
 |i+1=>lQ C l i++gS i (l.getD i yR) C
def kV:List Rl→List ByteArray
 | []=> []
 |r::l=>eC r++kV l
def A1:List Lt→List Tm
 | []=> []
 |b::m=>b.atom.args++A1 m
def qP:List Rl→List Tm
 | []=> []
 |r::l=>(r.head.args++A1 r.body)++qP l
theorem aEk: ∀l:List Lt,bL (A1 l)=eX l
 | []=>rfl
 |b::m=>by rw[A1,wJ,aEk m];rfl
theorem O8: ∀l:List Rl,bL (qP l)=kV l
 | []=>rfl
 |r::l=>by rw[qP,wJ,wJ,aEk,O8 l];rfl
def eD (l:List Rl):List ByteArray:=zZ (qP l)
def eR (l:List Rl):List Mu:=lQ (eD l) l l.length
theorem aEl {i p:Nat} {C:List ByteArray} {s:ByteArray} {m:Mu}: ∀{n:Nat},m∈kR i p C s n↔ ∃k,k<n∧C.getD k zs≠s∧m=⟨4,i,(p*C.length+k:Nat)⟩
 |0=>by simp[kR]
 |n+1=>by
  rw[kR,List.mem_append,aEl]
  constructor
  ·rintro(⟨k,h1,h2⟩|h)
   ·exact⟨k,by omega,h2⟩
   ·split at h
    ·simp at h
    ·rename_i hc
     exact⟨n,by omega,hc,by simpa using h⟩
  ·rintro⟨k,h1,h2,h3⟩
   by_cases hk:k=n
   ·subst hk
    refine .inr ?_
    rw[if_neg h2];simp[h3]
   ·exact .inl ⟨k,by omega,h2,h3⟩
theorem aEm {i:Nat} {C S:List ByteArray} {m:Mu}: ∀{n:Nat},m∈kS i C S n↔ ∃p k,p<n∧k<C.length∧C.getD k zs≠S.getD p zs∧m=⟨4,i,(p*C.length+k:Nat)⟩
 |0=>by simp[kS]
 |n+1=>by
  rw[kS,List.mem_append,aEm,aEl]
  constructor
  ·rintro(⟨p,k,h1,h2⟩|⟨k,h1,h2⟩)
   ·exact⟨p,k,by omega,h2⟩
   ·exact⟨n,k,by omega,h1,h2⟩
  ·rintro⟨p,k,h1,h2,h3⟩
   by_cases hk:p=n
   ·subst hk
    exact .inr ⟨k,h2,h3⟩
   ·exact .inl ⟨p,k,by omega,h2,h3⟩
theorem aEn {i:Nat} {m:Mu}: ∀{n:Nat},m∈oA i n↔ ∃k:Nat,k<n∧(m=⟨2,i,k⟩∨m=⟨3,i,k⟩)
 |0=>by simp[oA]
 |n+1=>by
  rw[oA,List.mem_append,aEn]
  constructor
  ·rintro(⟨k,h1,h2⟩|h)
   ·exact⟨k,by omega,h2⟩
   ·exact⟨n,by omega,by simpa using h⟩
  ·rintro⟨k,h1,h2⟩
   by_cases hk:k=n
   ·subst hk;exact .inr (by simpa using h2)
   ·exact .inl ⟨k,by omega,h2⟩
theorem aEo {i:Nat} {A:List Tm} {m:Mu}: ∀{n:Nat},m∈kT i A n↔ ∃k:Nat,k<n∧oB (A.getD k zT)=true∧m=⟨5,i,k⟩
 |0=>by simp[kT]
 |n+1=>by
  rw[kT,List.mem_append,aEo]
  constructor
  ·rintro(⟨k,h1,h2⟩|h)
   ·exact⟨k,by omega,h2⟩
   ·split at h
    ·rename_i hc;exact⟨n,by omega,hc,by simpa using h⟩
    ·simp at h
  ·rintro⟨k,h1,h2,h3⟩
   by_cases hk:k=n
   ·subst hk
    refine .inr ?_
    rw[if_pos h2];simp[h3]
   ·exact .inl ⟨k,by omega,h2,h3⟩
theorem A2 {i:Nat} {r:Rl} {C:List ByteArray} {m:Mu}:m∈gS i r C↔m=⟨1,i,0⟩∨(∃k:Nat,k<r.body.length∧(m=⟨2,i,k⟩∨m=⟨3,i,k⟩))∨
 (∃p k,p<(eC r).length∧k<C.length∧C.getD k zs≠(eC r).getD p zs∧m=⟨4,i,(p*C.length+k:Nat)⟩)∨ ∃k:Nat,k<(kU r).length∧oB ((kU r).getD k zT)=true∧m=⟨5,i,k⟩:=by
 unfold gS
 rw[List.mem_append,List.mem_append,List.mem_append,List.mem_singleton,aEn,aEm,aEo,or_assoc,or_assoc]
theorem wM {i:Nat} {r:Rl} {C:List ByteArray} {m:Mu} (h:m∈gS i r C):m.rule=i:=by
 rcases A2.1 h with rfl|⟨k,_,rfl|rfl⟩|⟨p,k,_,_,_,rfl⟩|⟨k,_,_,rfl⟩<;>rfl
theorem aEp {C:List ByteArray} {l:List Rl} {m:Mu}: ∀{n:Nat},m∈lQ C l n↔ ∃i,i<n∧m∈gS i (l.getD i yR) C
 |0=>by simp[lQ]
 |n+1=>by
  rw[lQ,List.mem_append,aEp]
  constructor
  ·rintro(⟨k,h1,h2⟩|h)
   ·exact⟨k,by omega,h2⟩
   ·exact⟨n,by omega,h⟩
  ·rintro⟨k,h1,h2⟩
   by_cases hk:k=n
   ·subst hk;exact .inr h2
   ·exact .inl ⟨k,by omega,h2⟩
theorem tL {l:List Rl} {m:Mu}:m∈eR l↔ ∃i,i<l.length∧m∈gS i (l.getD i yR) (eD l):=aEp
def jT (t:Tm):Tm:= .mk t.name ((t.args.set 0 (t.args.getD 1 zT)).set 1 (t.args.getD 0 zT))
def pP (b:Lt):Lt:=⟨b.neg,jT b.atom⟩
def oC (b:Lt):Lt:=⟨!b.neg,b.atom⟩
def fO (f:Lt→Lt) (k:Nat) (l:List Lt):List Lt:=l.modify k f
def eO (r:Rl) (m:Mu) (C:List ByteArray):Rl:=
 if m.kind=2 then⟨r.head,r.body.eraseIdx m.index.toNat⟩
 else if m.kind=3 then⟨r.head,fO oC m.index.toNat r.body⟩
 else if m.kind=4 then sA (m.index.toNat / C.length) (C.getD (m.index.toNat % C.length) zs) r
 else if m.kind=5 then(if m.index=0 then⟨jT r.head,r.body⟩else⟨r.head,fO pP (m.index.toNat - 1) r.body⟩)
 else r
def mP (m:Mu) (C:List ByteArray) (l:List Rl):Nat→List Rl
 |0=> []
 |i+1=>mP m C l i++(if m.rule=(i:Int)then(if m.kind=1 then[]else[eO (l.getD i yR) m C])else[l.getD i yR])
def jD (l:List Rl) (m:Mu):List Rl:=mP m (eD l) l l.length
open Go.Ab
set_option maxRecDepth 100000
theorem jU {α:Type} {l:List α} {i:Nat} {d:α} (h:i<l.length):l.getD i d=l[i]:=by
 rw[List.getD_eq_getElem?_getD,List.getElem?_eq_getElem h];rfl
theorem O9 {m:Mu} {C:List ByteArray} {l:List Rl} {i:Nat} (hr:m.rule=(i:Int)): ∀n,n≤l.length→mP m C l n=if n≤i then l.take n else if m.kind=1 then(l.take n).eraseIdx i else(l.take n).set i (eO (l.getD i yR) m C)
 |0,_=>by rw[if_pos (Nat.zero_le _)];rfl
 |n+1,h=>by
  rw[mP,O9 hr n (by omega),hr]
  have hn:n<l.length:=by omega
  rw[iX hn]
  by_cases h1:n+1≤i
  ·rw[if_pos h1,if_pos (show n≤i by omega),if_neg (show ¬(i:Int)=(n:Int) by omega),jU hn]
  ·rw[if_neg h1]
   have hl:(l.take n).length=n:=by rw[List.length_take];omega
   by_cases h2:i=n
   ·subst h2
    rw[if_pos (Nat.le_refl _),if_pos rfl]
    by_cases hk:m.kind=1
    ·rw[if_pos hk,if_pos hk,List.append_nil,List.eraseIdx_append_of_length_le (by omega),hl]
     simp
    ·rw[if_neg hk,if_neg hk,List.set_append_right _ _ (by omega),hl]
     simp
   ·rw[if_neg (show ¬n≤i by omega),if_neg (show ¬(i:Int)=(n:Int) by omega),jU hn]
    by_cases hk:m.kind=1
    ·rw[if_pos hk,if_pos hk,List.eraseIdx_append_of_lt_length (by omega)]
    ·rw[if_neg hk,if_neg hk,List.set_append_left _ _ (by omega)]
theorem aEq {l:List Rl} {m:Mu} {i:Nat} (hr:m.rule=(i:Int)) (hi:i<l.length) (hk:m.kind=1):jD l m=l.eraseIdx i:=by
 unfold jD
 rw[O9 hr _ (Nat.le_refl _),if_neg (by omega),if_pos hk,List.take_length]
theorem aEr {l:List Rl} {m:Mu} {i:Nat} (hr:m.rule=(i:Int)) (hi:i<l.length) (hk:m.kind≠1):jD l m=l.set i (eO (l.getD i yR) m (eD l)):=by
 unfold jD
 rw[O9 hr _ (Nat.le_refl _),if_neg (by omega),if_neg hk,List.take_length]
theorem P0 {t:Tm} (h:oB t=true):2≤t.args.length∧t.args.getD 0 zT≠t.args.getD 1 zT:=by
 unfold oB at h
 rw[Bool.and_eq_true,decide_eq_true_eq,Bool.not_eq_true',decide_eq_false_iff_not]at h
 exact⟨h.1,fun e=>h.2 ((vW _ _).2 e)⟩
theorem bWs {t:Tm} (h:2≤t.args.length):(jT t).args.length=t.args.length∧(jT t).args.getD 0 zT=t.args.getD 1 zT∧(jT t).args.getD 1 zT=t.args.getD 0 zT:=by
 obtain⟨s,ts⟩:=t
 simp only[cS]at h
 match ts,h with
 |a::b::r,_=>simp[jT,cS]
theorem aEs {t:Tm} (h:oB t=true):jT t≠t:=fun e=>by
 obtain⟨h1,h2⟩:=P0 h
 have:=(bWs h1).2.1
 rw[e]at this
 exact h2 this
theorem A3 (r:Rl):(kU r).length=r.body.length+1:=by simp[kU]
theorem bWt (r:Rl):(kU r).getD 0 zT=r.head:=rfl
theorem aEt {r:Rl} {k:Nat} (h:k<r.body.length):(kU r).getD (k+1) zT=r.body[k].atom:=by
 unfold kU
 rw[List.getD_eq_getElem?_getD,List.getElem?_cons_succ,List.getElem?_map,List.getElem?_eq_getElem h];rfl
theorem aEu {f:Lt→Lt} {k:Nat} {l:List Lt} (h:k<l.length):(fO f k l)[k]?=some (f l[k]):=by
 unfold fO
 rw[List.getElem?_modify,List.getElem?_eq_getElem h];simp
theorem A4 {f:Lt→Lt} {k:Nat} {l:List Lt}:(fO f k l).length=l.length:=by unfold fO;rw[List.length_modify]
theorem aEv {i:Nat} {r:Rl} {C:List ByteArray} {m:Mu} (h:m∈gS i r C) (hk:m.kind≠1):eO r m C≠r∧(m.kind=2→(eO r m C).body.length+1=r.body.length)∧(m.kind≠2→(eO r m C).body.length=r.body.length):=by
 rcases A2.1 h with rfl|⟨k,h1,rfl|rfl⟩|⟨p,k,h1,h2,h3,rfl⟩|⟨k,h1,h2,rfl⟩
 ·exact absurd rfl hk
 ·unfold eO
  rw[if_pos rfl]
  have e:(r.body.eraseIdx k).length+1=r.body.length:=by rw[List.length_eraseIdx,if_pos h1];omega
  refine⟨fun he=>?_,fun _=>e,fun h=>absurd rfl h⟩
  have:=congrArg (fun z:Rl=>z.body.length) he
  dsimp only[Int.toNat_natCast]at this
  omega
 ·unfold eO
  rw[if_neg (by simp),if_pos rfl]
  refine⟨fun he=>?_,fun h=>absurd h (by simp),fun _=>A4⟩
  have:=congrArg (fun z:Rl=>z.body[k]?) he
  dsimp only[Int.toNat_natCast]at this
  rw[aEu h1,List.getElem?_eq_getElem h1]at this
  have:=congrArg Lt.neg (Option.some.inj this)
  simp[oC]at this
 ·unfold eO
  rw[if_neg (by simp),if_neg (by simp),if_pos rfl]
  have hc:0<C.length:=by omega
  have e1:(p*C.length+k) / C.length=p:=by
   rw[Nat.mul_comm,Nat.mul_add_div hc,Nat.div_eq_of_lt h2,Nat.add_zero]
  have e2:(p*C.length+k) % C.length=k:=by
   rw[Nat.mul_comm,Nat.mul_add_mod,Nat.mod_eq_of_lt h2]
  dsimp only[Int.toNat_natCast]
  rw[e1,e2]
  refine⟨fun he=>?_,fun h=>absurd h (by simp),fun _=>wL⟩
  have:=bWr he h1
  rw[List.getD_eq_getElem?_getD,List.getD_eq_getElem?_getD,this]at h3
  simp only[Option.getD_some]at h3
  exact h3 rfl
 ·unfold eO
  rw[if_neg (by simp),if_neg (by simp),if_neg (by simp),if_pos rfl]
  rw[A3]at h1
  cases k with
  |zero=>
   rw[if_pos (show((0:Nat):Int)=0 from rfl)]
   refine⟨fun he=>?_,fun h=>absurd h (by simp),fun _=>rfl⟩
   exact aEs h2 (congrArg Rl.head he)
  |succ k=>
   have hk:k<r.body.length:=by omega
   rw[if_neg (by(try simp);omega)]
   refine⟨fun he=>?_,fun h=>absurd h (by simp),fun _=>A4⟩
   have:=congrArg (fun z:Rl=>z.body[k]?) he
   simp only[Int.toNat_natCast,Nat.add_sub_cancel]at this
   rw[aEu hk,List.getElem?_eq_getElem hk]at this
   have:=congrArg Lt.atom (Option.some.inj this)
   rw[aEt hk]at h2
   exact aEs h2 this
theorem bWu {l:List Rl} {m:Mu} (h:m∈eR l): ∃i:Nat,m.rule=(i:Int)∧i<l.length∧jD l m≠l∧(m.kind=1→(jD l m).length+1=l.length)∧
 (m.kind≠1→(jD l m).length=l.length∧(m.kind=2→((jD l m).getD i yR).body.length+1=(l.getD i yR).body.length)∧(m.kind≠2→((jD l m).getD i yR).body.length=(l.getD i yR).body.length)):=by
 obtain⟨i,hi,hm⟩:=tL.1 h
 have hr:=wM hm
 refine⟨i,hr,hi,?_⟩
 by_cases hk:m.kind=1
 ·rw[aEq hr hi hk]
  have e:(l.eraseIdx i).length+1=l.length:=by rw[List.length_eraseIdx,if_pos hi];omega
  refine⟨fun he=>?_,fun _=>e,fun h=>absurd hk h⟩
  rw[he]at e;omega
 ·rw[aEr hr hi hk]
  obtain⟨g1,g2,g3⟩:=aEv hm hk
  have e:(l.set i (eO (l.getD i yR) m (eD l))).getD i yR=eO (l.getD i yR) m (eD l):=by
   rw[List.getD_eq_getElem?_getD,List.getElem?_set_self hi];rfl
  refine⟨fun he=>?_,fun h=>absurd h hk,fun _=>⟨List.length_set,fun h=>by rw[e];exact g2 h,fun h=>by rw[e];exact g3 h⟩⟩
  rw[he]at e
  exact g1 e.symm
set_option maxHeartbeats 16000000
def cA:ByteArray:=⟨#[114,111,108,101,40,120,41,46,32,112,40,97,41,32,105,102,32,113,40,98,41,46]⟩
def jV:Rl:=⟨(.mk ⟨#[114,111,108,101]⟩ [(.mk ⟨#[120]⟩ [])]),[]⟩
def kW:Rl:=⟨(.mk ⟨#[112]⟩ [(.mk ⟨#[97]⟩ [])]),[⟨false,(.mk ⟨#[113]⟩ [(.mk ⟨#[98]⟩ [])])⟩]⟩
theorem aEw:bH cA 0=⟨#[114,111,108,101]⟩:=by kernel_rfl
theorem bWv:aK cA 0=4:=by kernel_rfl
theorem bWw:cN cA 40 4=true:=by kernel_rfl
theorem bWx:aM cA 40 4=5:=by kernel_rfl
theorem aEx:bH cA 5=⟨#[120]⟩:=by kernel_rfl
theorem aEy:aK cA 5=6:=by kernel_rfl
theorem bWy:cN cA 40 6=false:=by kernel_rfl
theorem bWz:aM cA 40 6=6:=by kernel_rfl
theorem aEz:cJ cA ⟨#[120]⟩ 6=((.mk ⟨#[120]⟩ []),6):=by rw[rO bWy,bWz]
theorem bW0:cN cA 44 6=false:=by kernel_rfl
theorem bW1:aM cA 44 6=6:=by kernel_rfl
theorem bW2:iB cA ([]:List Tm) 5=([(.mk ⟨#[120]⟩ [])],6):=by rw[rQ (by decide) (by rw[aEx,aEy,aEz];exact bW0),aEx,aEy,aEz];dsimp only;rw[bW1];rfl
theorem bW3:aM cA 41 6=7:=by kernel_rfl
theorem bW4:cJ cA ⟨#[114,111,108,101]⟩ 4=((.mk ⟨#[114,111,108,101]⟩ [(.mk ⟨#[120]⟩ [])]),7):=by rw[rP bWw,bWx,bW2];dsimp only;rw[bW3]
theorem bW5:cN cA 46 7=true:=by kernel_rfl
theorem bW6:aM cA 46 7=8:=by kernel_rfl
theorem bW7:gP cA ([]:List Lt) 7=([],8):=by rw[wC (by decide) bW5,bW6]
theorem bW8:iC cA ⟨#[114,111,108,101]⟩ 4=(jV,8):=by unfold iC;rw[bW4];dsimp only;rw[bW7];rfl
theorem aE0:bH cA 8=⟨#[112]⟩:=by kernel_rfl
theorem bW9:aK cA 8=10:=by kernel_rfl
theorem bXa:cN cA 40 10=true:=by kernel_rfl
theorem bXb:aM cA 40 10=11:=by kernel_rfl
theorem aE1:bH cA 11=⟨#[97]⟩:=by kernel_rfl
theorem aE2:aK cA 11=12:=by kernel_rfl
theorem bXc:cN cA 40 12=false:=by kernel_rfl
theorem bXd:aM cA 40 12=12:=by kernel_rfl
theorem aE3:cJ cA ⟨#[97]⟩ 12=((.mk ⟨#[97]⟩ []),12):=by rw[rO bXc,bXd]
theorem bXe:cN cA 44 12=false:=by kernel_rfl
theorem bXf:aM cA 44 12=12:=by kernel_rfl
theorem bXg:iB cA ([]:List Tm) 11=([(.mk ⟨#[97]⟩ [])],12):=by rw[rQ (by decide) (by rw[aE1,aE2,aE3];exact bXe),aE1,aE2,aE3];dsimp only;rw[bXf];rfl
theorem bXh:aM cA 41 12=13:=by kernel_rfl
theorem bXi:cJ cA ⟨#[112]⟩ 10=((.mk ⟨#[112]⟩ [(.mk ⟨#[97]⟩ [])]),13):=by rw[rP bXa,bXb,bXg];dsimp only;rw[bXh]
theorem bXj:cN cA 46 13=false:=by kernel_rfl
theorem aE4:aM cA 46 13=14:=by kernel_rfl
theorem aE5:dS cA 14=(false,⟨#[113]⟩,18):=by kernel_rfl
theorem bXk:cN cA 40 18=true:=by kernel_rfl
theorem bXl:aM cA 40 18=19:=by kernel_rfl
theorem aE6:bH cA 19=⟨#[98]⟩:=by kernel_rfl
theorem aE7:aK cA 19=20:=by kernel_rfl
theorem bXm:cN cA 40 20=false:=by kernel_rfl
theorem bXn:aM cA 40 20=20:=by kernel_rfl
theorem aE8:cJ cA ⟨#[98]⟩ 20=((.mk ⟨#[98]⟩ []),20):=by rw[rO bXm,bXn]
theorem bXo:cN cA 44 20=false:=by kernel_rfl
theorem bXp:aM cA 44 20=20:=by kernel_rfl
theorem bXq:iB cA ([]:List Tm) 19=([(.mk ⟨#[98]⟩ [])],20):=by rw[rQ (by decide) (by rw[aE6,aE7,aE8];exact bXo),aE6,aE7,aE8];dsimp only;rw[bXp];rfl
theorem bXr:aM cA 41 20=21:=by kernel_rfl
theorem bXs:cJ cA ⟨#[113]⟩ 18=((.mk ⟨#[113]⟩ [(.mk ⟨#[98]⟩ [])]),21):=by rw[rP bXk,bXl,bXq];dsimp only;rw[bXr]
theorem bXt:cN cA 46 21=true:=by kernel_rfl
theorem bXu:aM cA 46 21=22:=by kernel_rfl
theorem bXv:gP cA ([⟨false,(.mk ⟨#[113]⟩ [(.mk ⟨#[98]⟩ [])])⟩]:List Lt) 21=([⟨false,(.mk ⟨#[113]⟩ [(.mk ⟨#[98]⟩ [])])⟩],22):=by rw[wC (by decide) bXt,bXu]
theorem bXw:gP cA ([]:List Lt) 13=([⟨false,(.mk ⟨#[113]⟩ [(.mk ⟨#[98]⟩ [])])⟩],22):=by rw[N1 (by decide) bXj (by rw[aE4,aE5];decide),aE4,aE5];dsimp only;rw[bXs];exact bXv
theorem bXx:iC cA ⟨#[112]⟩ 10=(kW,22):=by unfold iC;rw[bXi];dsimp only;rw[bXw];rfl
theorem bXy:bH cA 22=⟨#[]⟩:=by kernel_rfl
theorem bXz:kO cA ([jV,kW]:List Rl) 22= [jV,kW]:=by rw[N4 (by rw[bXy];rfl)]
theorem bX0:kO cA ([jV]:List Rl) 8= [jV,kW]:=by rw[wD (by decide) (by rw[aE0];decide),aE0,bW9,bXx];exact bXz
theorem bX1:kO cA ([]:List Rl) 0= [jV,kW]:=by rw[wD (by decide) (by rw[aEw];decide),aEw,bWv,bW8];exact bX0
def cB:ByteArray:=⟨#[114,111,108,101,40,120,41,46,32,112,40,97,41,32,105,102,32,113,40,120,41,46]⟩
def oD:Rl:=⟨(.mk ⟨#[114,111,108,101]⟩ [(.mk ⟨#[120]⟩ [])]),[]⟩
def pQ:Rl:=⟨(.mk ⟨#[112]⟩ [(.mk ⟨#[97]⟩ [])]),[⟨false,(.mk ⟨#[113]⟩ [(.mk ⟨#[120]⟩ [])])⟩]⟩
theorem aE9:bH cB 0=⟨#[114,111,108,101]⟩:=by kernel_rfl
theorem bX2:aK cB 0=4:=by kernel_rfl
theorem bX3:cN cB 40 4=true:=by kernel_rfl
theorem bX4:aM cB 40 4=5:=by kernel_rfl
theorem aFa:bH cB 5=⟨#[120]⟩:=by kernel_rfl
theorem aFb:aK cB 5=6:=by kernel_rfl
theorem bX5:cN cB 40 6=false:=by kernel_rfl
theorem bX6:aM cB 40 6=6:=by kernel_rfl
theorem aFc:cJ cB ⟨#[120]⟩ 6=((.mk ⟨#[120]⟩ []),6):=by rw[rO bX5,bX6]
theorem bX7:cN cB 44 6=false:=by kernel_rfl
theorem bX8:aM cB 44 6=6:=by kernel_rfl
theorem bX9:iB cB ([]:List Tm) 5=([(.mk ⟨#[120]⟩ [])],6):=by rw[rQ (by decide) (by rw[aFa,aFb,aFc];exact bX7),aFa,aFb,aFc];dsimp only;rw[bX8];rfl
theorem bYa:aM cB 41 6=7:=by kernel_rfl
theorem bYb:cJ cB ⟨#[114,111,108,101]⟩ 4=((.mk ⟨#[114,111,108,101]⟩ [(.mk ⟨#[120]⟩ [])]),7):=by rw[rP bX3,bX4,bX9];dsimp only;rw[bYa]
theorem bYc:cN cB 46 7=true:=by kernel_rfl
theorem bYd:aM cB 46 7=8:=by kernel_rfl
theorem bYe:gP cB ([]:List Lt) 7=([],8):=by rw[wC (by decide) bYc,bYd]
theorem bYf:iC cB ⟨#[114,111,108,101]⟩ 4=(oD,8):=by unfold iC;rw[bYb];dsimp only;rw[bYe];rfl
theorem aFd:bH cB 8=⟨#[112]⟩:=by kernel_rfl
theorem bYg:aK cB 8=10:=by kernel_rfl
theorem bYh:cN cB 40 10=true:=by kernel_rfl
theorem bYi:aM cB 40 10=11:=by kernel_rfl
theorem aFe:bH cB 11=⟨#[97]⟩:=by kernel_rfl
theorem aFf:aK cB 11=12:=by kernel_rfl
theorem bYj:cN cB 40 12=false:=by kernel_rfl
theorem bYk:aM cB 40 12=12:=by kernel_rfl
theorem aFg:cJ cB ⟨#[97]⟩ 12=((.mk ⟨#[97]⟩ []),12):=by rw[rO bYj,bYk]
theorem bYl:cN cB 44 12=false:=by kernel_rfl
theorem bYm:aM cB 44 12=12:=by kernel_rfl
theorem bYn:iB cB ([]:List Tm) 11=([(.mk ⟨#[97]⟩ [])],12):=by rw[rQ (by decide) (by rw[aFe,aFf,aFg];exact bYl),aFe,aFf,aFg];dsimp only;rw[bYm];rfl
theorem bYo:aM cB 41 12=13:=by kernel_rfl
theorem bYp:cJ cB ⟨#[112]⟩ 10=((.mk ⟨#[112]⟩ [(.mk ⟨#[97]⟩ [])]),13):=by rw[rP bYh,bYi,bYn];dsimp only;rw[bYo]
theorem bYq:cN cB 46 13=false:=by kernel_rfl
theorem aFh:aM cB 46 13=14:=by kernel_rfl
theorem aFi:dS cB 14=(false,⟨#[113]⟩,18):=by kernel_rfl
theorem bYr:cN cB 40 18=true:=by kernel_rfl
theorem bYs:aM cB 40 18=19:=by kernel_rfl
theorem aFj:bH cB 19=⟨#[120]⟩:=by kernel_rfl
theorem aFk:aK cB 19=20:=by kernel_rfl
theorem bYt:cN cB 40 20=false:=by kernel_rfl
theorem bYu:aM cB 40 20=20:=by kernel_rfl
theorem aFl:cJ cB ⟨#[120]⟩ 20=((.mk ⟨#[120]⟩ []),20):=by rw[rO bYt,bYu]
theorem bYv:cN cB 44 20=false:=by kernel_rfl
theorem bYw:aM cB 44 20=20:=by kernel_rfl
theorem bYx:iB cB ([]:List Tm) 19=([(.mk ⟨#[120]⟩ [])],20):=by rw[rQ (by decide) (by rw[aFj,aFk,aFl];exact bYv),aFj,aFk,aFl];dsimp only;rw[bYw];rfl
theorem bYy:aM cB 41 20=21:=by kernel_rfl
theorem bYz:cJ cB ⟨#[113]⟩ 18=((.mk ⟨#[113]⟩ [(.mk ⟨#[120]⟩ [])]),21):=by rw[rP bYr,bYs,bYx];dsimp only;rw[bYy]
theorem bY0:cN cB 46 21=true:=by kernel_rfl
theorem bY1:aM cB 46 21=22:=by kernel_rfl
theorem bY2:gP cB ([⟨false,(.mk ⟨#[113]⟩ [(.mk ⟨#[120]⟩ [])])⟩]:List Lt) 21=([⟨false,(.mk ⟨#[113]⟩ [(.mk ⟨#[120]⟩ [])])⟩],22):=by rw[wC (by decide) bY0,bY1]
theorem bY3:gP cB ([]:List Lt) 13=([⟨false,(.mk ⟨#[113]⟩ [(.mk ⟨#[120]⟩ [])])⟩],22):=by rw[N1 (by decide) bYq (by rw[aFh,aFi];decide),aFh,aFi];dsimp only;rw[bYz];exact bY2
theorem bY4:iC cB ⟨#[112]⟩ 10=(pQ,22):=by unfold iC;rw[bYp];dsimp only;rw[bY3];rfl
theorem bY5:bH cB 22=⟨#[]⟩:=by kernel_rfl
theorem bY6:kO cB ([oD,pQ]:List Rl) 22= [oD,pQ]:=by rw[N4 (by rw[bY5];rfl)]
theorem bY7:kO cB ([oD]:List Rl) 8= [oD,pQ]:=by rw[wD (by decide) (by rw[aFd];decide),aFd,bYg,bY4];exact bY6
theorem bY8:kO cB ([]:List Rl) 0= [oD,pQ]:=by rw[wD (by decide) (by rw[aE9];decide),aE9,bX2,bYf];exact bY7
theorem P1:eR [jV,kW]= [⟨1,0,0⟩,⟨4,0,0⟩,⟨4,0,1⟩,⟨1,1,0⟩,⟨2,1,0⟩,⟨3,1,0⟩,⟨4,1,1⟩,⟨4,1,2⟩,⟨4,1,3⟩,⟨4,1,5⟩]:=by kernel_rfl
theorem bY9:jD [jV,kW] ⟨4,1,5⟩= [oD,pQ]:=by kernel_rfl
theorem P2 (t:Tm):ACall prog 71 [eT t] (fun r=>r=bl (vT t)):=by
 obtain⟨s,ts⟩:=t
 have h1:=aCh s
 have h2:=bT2 s
 have e:vT (.mk s ts)=(decide (ts.length=0)&&(vS s||(gF s).2)):=by
  unfold vT lL
  rw[cS,qK]
  cases ts<;>rfl
 rw[e]
 generalize gF s=q at*
 obtain⟨v,b⟩:=q
 generalize vS s=a at*
 dsimp only at*
 by_cases h0:ts.length=0
 ·rw[decide_eq_true h0,Bool.true_and]
  cases a<;>cases b
  all_goals refine bF func71 call71 rfl (by simp[ntmps71]) ?_;simp only[ntmps71,results71]
  all_goals repeat' (first|(refine aC fun _ _=>?_)|refine zHg ?_|(refine aU [] ?_;simp[go_sem,h0])|refine aV rfl (h1) (by simp) ?_|refine aV rfl (h2) (by simp) ?_|simp(disch:=omega) [go_sem,h0])
 ·rw[decide_eq_false h0,Bool.false_and]
  cases a<;>cases b
  all_goals refine bF func71 call71 rfl (by simp[ntmps71]) ?_;simp only[ntmps71,results71]
  all_goals repeat' (first|(refine aC fun _ _=>?_)|refine zHg ?_|(refine aU [] ?_;simp[go_sem,h0])|refine aV rfl (h1) (by simp) ?_|simp(disch:=omega) [go_sem,h0])
theorem P3 {s:ByteArray} {ts:List Tm}:vT (.mk s ts)=(decide (ts.length=0)&&lL s):=by
 unfold vT
 rw[cS,qK]
 cases ts<;>rfl
theorem mQ {L:List Tm}:(L.map aL).map loose=L.map aL:=by
 rw[List.map_map]
 refine List.map_congr_left fun t _=>?_
 show loose (aL t)=aL t
 rw[tB];rfl
theorem tM: ∀l:List Tm,(bL l).length≤cE l:=by
 have key: ∀t:Tm,(iP t).length≤t.size:=by
  refine fX fun t ih=>?_
  obtain⟨s,ts⟩:=t
  simp only[cS]at ih
  rw[A0,iK,cS]
  split
  ·split<;>simp
  ·have: ∀l:List Tm,(∀u∈l,(iP u).length≤u.size)→(bL l).length≤cE l:=by
    intro l
    induction l with
    |nil=>intro _;simp[rZ]
    |cons u r ihr=>
     intro h
     rw[pO,List.length_append]
     have:=h u (by simp)
     have:=ihr fun v hv=>h v (by simp[hv])
     simp only[cE]
     omega
   have:=this ts ih
   omega
 intro l
 induction l with
 |nil=>simp[rZ]
 |cons u r ihr=>
  rw[pO,List.length_append]
  have:=key u
  simp only[cE]
  omega
abbrev bA (n:Nat):AObj:=⟨false,false,true,1,[.ref 1001 0 n],0⟩
abbrev bD (S:List ByteArray):AObj:=⟨true,false,false,1,S.map bM,0⟩
abbrev eH (S:List ByteArray):aF:= [(1000,bA S.length),(1001,bD S)]
abbrev eP (S:List ByteArray):aF:= [(1000,bA S.length),(1001,⟨true,false,true,1,S.map bM,0⟩)]
abbrev wN:aF:= [(1000,⟨false,false,true,1,[.list false true []],0⟩)]
theorem A5 (S T:List ByteArray):eH (S++T)= [(1000,bA (S.length+T.length)),(1001,⟨true,false,false,1,S.map bM++T.map bM,0⟩)]:=by
 unfold eH bA bD
 rw[List.length_append,List.map_append]
theorem aFm (S T:List ByteArray):eP (S++T)= [(1000,bA (S.length+T.length)),(1001,⟨true,false,true,1,S.map bM++T.map bM,0⟩)]:=by
 unfold eP bA
 rw[List.length_append,List.map_append]
theorem aFn (S T U:List ByteArray):eH (S++T++U)= [(1000,bA (S.length+T.length+U.length)),(1001,⟨true,false,false,1,S.map bM++T.map bM++U.map bM,0⟩)]:=by
 rw[A5,List.length_append,List.map_append]
theorem bZa (S:List ByteArray) (s:ByteArray) (hS:S.length≤2000000):MCall prog 49 [.sc (.string s),.ptr 1000 0 0] (eP S) (fun r o'=>r= .sc (.string s)∧o'=eH (S++ [s])):=by
 rw[A5]
 refine eM func49 call49 rfl (by simp[ntmps49]) ?_;simp only[ntmps49,results49]
 repeat' (first|(refine aC fun _ _=>?_)|refine zHg ?_|simp(disch:=omega) [go_sem,eP,bA,bD,bM]|refine zAo ?_|fail)
 all_goals(first|omega|skip)
 refine cV ⟨9,[(3,.sc (.string s))],[(1000,bA (S.length+1)),(1001,⟨true,false,false,1,S.map bM++ [.sc (.string s)],0⟩)]⟩ [.sc (.string s)] (Le.renSub [(7,1001),(1001,7)] [(1001,7),(7,1001)] (by simp[go_sem,eP,bA,bD,bM]) (by simp[go_sem,eP,bA,bD,bM]) (Le.sub4 rfl (by simp[go_sem,eP,bA,bD,bM]))) (by simp[go_sem,eP,bA,bD,bM]) ⟨rfl,rfl⟩
theorem P4: ∀(n:Nat) (ts:List Tm) (le fu:Bool) (X:aF) (S:List ByteArray),cE ts<n→cE ts≤1000000→S.length+cE ts≤2000000→(X=eP S∧True∨X=wN∧S= [])→
 MCall prog 53 [.list le fu (ts.map aL),.clo 49 [.ptr 1000 0 0]] X (fun r o'=>r= .list false false (ts.map aL)∧o'=eH (S++bL ts))
 |0,ts,le,fu,X,S,hn,_,_,_=>absurd hn (Nat.not_lt_zero _)
 |n+1,ts,le,fu,X,S,hn,hz,hS,hX=>by
  have ih:=P4 n
  have hlen:=qL ts
  have key:MCall prog 53 [.list le fu (ts.map aL),.clo 49 [.ptr 1000 0 0]] X (fun r o'=>r= .ref 900 0 ts.length∧o'=(900,⟨true,false,false,2,ts.map aL,0⟩)::eH (S++bL ts)):=by
   have hcn:bL []= []:=rfl
   rw[A5]
   rcases hX with⟨rfl,hS0⟩|⟨rfl,hS0⟩
   all_goals refine eM func53 call53 rfl (by simp[ntmps53]) ?_;simp only[ntmps53,results53]
   all_goals skip
   all_goals repeat' (first|(refine aC fun _ _=>?_)|refine zHg ?_|simp(disch:=omega) [go_sem,eP,bA,bD])
   all_goals refine cL [1,8,9] [1000,1001,900] (fun i:Nat=> [(10,nt .i64 i),(5,.ref 900 0 i)]) (fun i:Nat=> [(1000,bA (S++bL (ts.take i)).length),(1001,bD (S++bL (ts.take i))),(900,⟨true,false,false,2,(ts.take i).map aL,0⟩)]) (fun i:Nat=>ts.length - i) (fun i:Nat=>i≤ts.length) (0) (by first|(refine Le.trans ?_ (Le.unpin 1001 rfl);refine Le.trans ?_ (Le.nil (i:=5) (T:=900) (es:=2) rfl);refine Le.sub4 rfl ?_;simp[go_sem,eP,bA,bD,hcn,hS0,List.append_nil,List.take_zero,List.map_nil,List.length_nil];done)|(refine Le.trans ?_ (Le.nilBox 1000 1001 1 rfl (by decide) (by decide));refine Le.trans ?_ (Le.nil (i:=5) (T:=900) (es:=2) rfl);refine Le.sub4 rfl ?_;simp[go_sem,eP,bA,bD,hcn,hS0,List.append_nil,List.take_zero,List.map_nil,List.length_nil];done)) ⟨?_⟩ ?_
   all_goals(first|exact Nat.zero_le _|skip)
   all_goals intro i hi AA hAA;simp only[kL,Nat.reduceBEq,Nat.reduceEqDiff,if_true,if_false,List.cons_append,List.nil_append,List.append_nil]
   all_goals(
    by_cases hlt:i<ts.length
    ·have hsz:=zC hlt
     have htk:=aB8 hlt
     have htl:=aB9 ts (i+1)
     have hct:=tM (ts.take i)
     have htn:=iX hlt
     have hcx:bL (ts.take (i+1))=bL (ts.take i)++iP ts[i]:=by
      rw[htn,wJ]
      congr 1
      rw[pO,rZ,List.append_nil]
     have hcc:=P2 ts[i]
     generalize bL (ts.take i)=C at*
     have hAl:(ts.take i).length=i:=by rw[List.length_take];omega
     generalize ts.take i=A at*
     generalize hti:ts[i]=t at*
     obtain⟨s,us⟩:=t
     rw[iK,cS]at hsz htk
     rw[A0,htn]at hcx
     rw[P3]at hcc
     by_cases h0:us.length=0
     ·rw[if_pos h0]at hcx
      rw[decide_eq_true h0,Bool.true_and]at hcc
      obtain rfl:=List.eq_nil_of_length_eq_zero h0
      by_cases hc:lL s=true
      ·rw[if_pos hc]at hcx
       rw[hc]at hcc
       have hcl:=bZa (S++C) s (by rw[List.length_append];omega)
       rw[aFm,aFn]at hcl
       repeat' (first|(refine aC fun _ _=>?_)|refine zHg ?_|refine aV rfl (hcc) (by simp) ?_|simp(disch:=omega) [go_sem,hlt,hti,hAl,bA,bD])
       refine bG [] [] 10000 _ _ (Fits.mk' (by simp[go_sem,bA,bD,List.length_append,List.map_append]) (by simp[go_sem,bA,bD,List.length_append,List.map_append])) (by simp[go_sem,bA,bD,List.length_append,List.map_append]) (by simp[go_sem,bA,bD,List.length_append,List.map_append]) (hcl) (by simp[go_sem,bA,bD,List.length_append,List.map_append]) (by simp[go_sem,bA,bD,List.length_append,List.map_append]) ?_
       repeat' (first|(refine aC fun _ _=>?_)|refine zHg ?_|(refine(hAA.next (i+1) (by refine Le.trans ?_ (Le.looseRow 900 rfl (by show(0:Nat)≠1;decide));exact(Le.renSub [(11001,1001),(1001,11001)] [(11001,1001),(1001,11001)] (by simp[go_sem,hAl,hcx,htn,mQ,bM,Nat.add_assoc]) (by simp[go_sem,hAl,hcx,htn,mQ,bM,Nat.add_assoc]) (Le.sub4 rfl (by simp[go_sem,hAl,hcx,htn,mQ,bM,Nat.add_assoc])))) (by(try dsimp only);omega) ?_))|simp(disch:=omega) [go_sem,hlt,hti,hAl,bA,bD]|refine zAo ?_|fail)
       all_goals(first|omega|skip)
       all_goals exact⟨hlt⟩
      ·rw[if_neg hc,List.append_nil]at hcx
       rw[Bool.not_eq_true]at hc
       rw[hc]at hcc
       repeat' (first|(refine aC fun _ _=>?_)|refine zHg ?_|refine aV rfl (hcc) (by simp) ?_|(refine(hAA.next (i+1) (by refine Le.trans ?_ (Le.looseRow 900 rfl (by show(0:Nat)≠1;decide));exact(Le.sub4 rfl (by simp[go_sem,hAl,hcx,htn,mQ,bM,Nat.add_assoc]))) (by(try dsimp only);omega) ?_))|simp(disch:=omega) [go_sem,hlt,hti,hAl,bA,bD]|refine zAo ?_|fail)
       all_goals(first|omega|skip)
       all_goals exact⟨hlt⟩
     ·rw[if_neg h0]at hcx
      rw[decide_eq_false h0,Bool.false_and]at hcc
      have hcu:=tM us
      have hr:=ih us false false (eP (S++C)) (S++C) (by omega) (by omega) (by rw[List.length_append];omega) (.inl ⟨rfl,trivial⟩)
      generalize bL us=D at*
      rw[aFm,aFn]at hr
      repeat' (first|(refine aC fun _ _=>?_)|refine zHg ?_|(with_reducible refine dA ?_;first|(exact cX)|(refine zSkip ?_)|(refine cY rfl ?_ ?_))|(with_reducible refine cZ ?_;first|(refine zDone ?_)|(refine aD 0 rfl (by decide+kernel) (by decide+kernel) rfl rfl rfl ?_)|(refine aD 1 rfl (by decide+kernel) (by decide+kernel) rfl rfl rfl ?_)|(refine aD 2 rfl (by decide+kernel) (by decide+kernel) rfl rfl rfl ?_)|(refine aD 3 rfl (by decide+kernel) (by decide+kernel) rfl rfl rfl ?_)|(refine aD 4 rfl (by decide+kernel) (by decide+kernel) rfl rfl rfl ?_)|(refine zAll ?_;show cG _ _ _ _ _ _ _))|with_reducible refine dD ?_|(refine zqd ?_ ?_<;>(intro h;first|(exfalso;omega)|(simp only[h,zT])))|refine aV rfl (hcc) (by simp) ?_|simp(disch:=omega) [go_sem,hlt,hti,hAl,h0,bA,bD]|refine zAny aT ?_|fail)
      all_goals refine bG [] [] 10000 _ _ (Fits.mk' (by simp[go_sem,bA,bD,List.length_append,List.map_append]) (by simp[go_sem,bA,bD,List.length_append,List.map_append])) (by simp[go_sem,bA,bD,List.length_append,List.map_append]) (by simp[go_sem,bA,bD,List.length_append,List.map_append]) (hr) (by simp[go_sem,bA,bD,List.length_append,List.map_append]) (by simp[go_sem,bA,bD,List.length_append,List.map_append]) ?_
      all_goals repeat' (first|(refine aC fun _ _=>?_)|refine zHg ?_|(with_reducible refine dA ?_;first|(exact cX)|(refine zSkip ?_)|(refine cY rfl ?_ ?_))|(with_reducible refine cZ ?_;first|(refine zDone ?_)|(refine aD 0 rfl (by decide+kernel) (by decide+kernel) rfl rfl rfl ?_)|(refine aD 1 rfl (by decide+kernel) (by decide+kernel) rfl rfl rfl ?_)|(refine aD 2 rfl (by decide+kernel) (by decide+kernel) rfl rfl rfl ?_)|(refine aD 3 rfl (by decide+kernel) (by decide+kernel) rfl rfl rfl ?_)|(refine aD 4 rfl (by decide+kernel) (by decide+kernel) rfl rfl rfl ?_)|(refine zAll ?_;show cG _ _ _ _ _ _ _))|with_reducible refine dD ?_|(refine(hAA.next (i+1) (by refine Le.trans ?_ (Le.looseRow 900 rfl (by show(0:Nat)≠1;decide));exact(Le.renSub [(11001,1001),(1001,11001)] [(11001,1001),(1001,11001)] (by simp[go_sem,hAl,hcx,htn,mQ,bM,Nat.add_assoc]) (by simp[go_sem,hAl,hcx,htn,mQ,bM,Nat.add_assoc]) (Le.sub4 rfl (by simp[go_sem,hAl,hcx,htn,mQ,bM,Nat.add_assoc])))) (by(try dsimp only);omega) ?_))|simp(disch:=omega) [go_sem,hlt,hti,hAl,h0,bA,bD]|refine zAo ?_|fail)
      all_goals(first|omega|skip)
      all_goals exact⟨hlt⟩
    ·obtain rfl:i=ts.length:=by omega
     rw[List.take_length]
     repeat' (first|(refine aC fun _ _=>?_)|refine zHg ?_|simp(disch:=omega) [go_sem,eH,bA,bD])
     refine cV ⟨40,[(4,.ref 900 0 ts.length)],(900,⟨true,false,false,2,ts.map aL,0⟩):: [(1000,bA (S.length+(bL ts).length)),(1001,⟨true,false,false,1,S.map bM++(bL ts).map bM,0⟩)]⟩ [.ref 900 0 ts.length] (Le.renSub [] [] (by simp[go_sem,eH,bA,bD]) (by simp[go_sem,eH,bA,bD]) (Le.sub4 rfl (by simp[go_sem,eH,bA,bD]))) (by simp[go_sem,eH,bA,bD]) ⟨rfl,rfl⟩)
  refine key.shared (s':=?_) (y:= .list false false (ts.map aL)) (by simp[go_sem,bS];rfl) (by simp[go_sem]) (by simp[go_sem]) (by simp[go_sem])
end Go.Proofs.YtbgckcdddlmiaaaDoor
