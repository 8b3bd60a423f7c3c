import Derived.Shelf.SlGeneric
import Derived.Shelf.SlLaysF
import Derived.Ground.SlsfProg
import Derived.Test.YtbgckcdddlmiaaaGreatDoorS2
import Derived.Shelf.SlSortCmp.Whole1
import Derived.Shelf.SlicesE.Compact
import Derived.Ground.SlgnProg
import Derived.Test.YtbgckcdddlmiaaaGreatDoorA9
set_option linter.unusedSectionVars false
set_option linter.unusedSimpArgs false
set_option linter.unusedVariables false
open Go.Proofs.Tryz
namespace Go.Proofs.YtbgckcdddlmiaaaGreatDoor
open Go.Shelf Go.Proofs
def Tryz.pdqS_ren:Go.Shelf.Ren:=⟨fun|6=>27|15=>63|14=>62|28=>111|29=>112|20=>103|21=>104|22=>105|23=>106|24=>107|25=>108|26=>109|27=>110|46=>139|47=>140|48=>141|49=>142|50=>143|57=>169|n=>n,fun|22=>29|24=>9|25=>59|3=>3|39=>104|0=>0|53=>151|55=>114|4=>4|46=>145|45=>144|50=>121|5=>5|9=>9|66=>180|70=>184|76=>207|77=>208|n=>n,fun|n=>n⟩
theorem Tryz.pdqS:Go.Proofs.SlLaysF.n6 prog Tryz.pdqS_ren:= {
 mixed:=by kernel_rfl
 f6:=⟨Tryz.f27.name,by decide,func27.trans (congrArg some (by kernel_rfl))⟩
 f14:=⟨Tryz.f62.name,by decide,func62.trans (congrArg some (by kernel_rfl))⟩
 f15:=func63.trans (congrArg some (by kernel_rfl))
 f20:=⟨Tryz.f103.name,by decide,func103.trans (congrArg some (by kernel_rfl))⟩
 f21:=⟨Tryz.f104.name,by decide,func104.trans (congrArg some (by kernel_rfl))⟩
 f22:=⟨Tryz.f105.name,by decide,func105.trans (congrArg some (by kernel_rfl))⟩
 f23:=⟨Tryz.f106.name,by decide,func106.trans (congrArg some (by kernel_rfl))⟩
 f24:=⟨Tryz.f107.name,by decide,func107.trans (congrArg some (by kernel_rfl))⟩
 f25:=⟨Tryz.f108.name,by decide,func108.trans (congrArg some (by kernel_rfl))⟩
 f26:=⟨Tryz.f109.name,by decide,func109.trans (congrArg some (by kernel_rfl))⟩
 f27:=⟨Tryz.f110.name,by decide,func110.trans (congrArg some (by kernel_rfl))⟩
 f28:=func111.trans (congrArg some (by kernel_rfl))
 f29:=func112.trans (congrArg some (by kernel_rfl))
 f46:=⟨Tryz.f139.name,by decide,func139.trans (congrArg some (by kernel_rfl))⟩
 f47:=func140.trans (congrArg some (by kernel_rfl))
 f48:=func141.trans (congrArg some (by kernel_rfl))
 f49:=⟨Tryz.f142.name,by decide,func142.trans (congrArg some (by kernel_rfl))⟩
 f50:=⟨Tryz.f143.name,by decide,func143.trans (congrArg some (by kernel_rfl))⟩
 f57:=⟨Tryz.f169.name,by decide,func169.trans (congrArg some (by kernel_rfl))⟩
 t0:=underlying0
 a0:=Tryz.isAgg0
 z0:=Tryz.sizeOf0
 v0:=Tryz.zeroValue0
 t3:=underlying3
 a3:=Tryz.isAgg3
 z3:=Tryz.sizeOf3
 v3:=Tryz.zeroValue3
 t4:=underlying4
 a4:=Tryz.isAgg4
 z4:=Tryz.sizeOf4
 v4:=Tryz.zeroValue4
 t5:=underlying5
 a5:=Tryz.isAgg5
 z5:=Tryz.sizeOf5
 v5:=Tryz.zeroValue5
 t9:=underlying9
 a9:=Tryz.isAgg9
 z9:=Tryz.sizeOf9
 v9:=Tryz.zeroValue9
 t22:=underlying29
 a22:=Tryz.isAgg29
 z22:=Tryz.sizeOf29
 v22:=Tryz.zeroValue29
 a24:=Tryz.isAgg9
 z24:=Tryz.sizeOf9
 t25:=underlying59
 a25:=Tryz.isAgg59
 z25:=Tryz.sizeOf59
 v25:=Tryz.zeroValue59
 t39:=underlying104
 a39:=Tryz.isAgg104
 z39:=Tryz.sizeOf104
 v39:=Tryz.zeroValue104
 t45:=underlying144
 a45:=Tryz.isAgg144
 z45:=Tryz.sizeOf144
 v45:=Tryz.zeroValue144
 t46:=underlying145
 a46:=Tryz.isAgg145
 z46:=Tryz.sizeOf145
 v46:=Tryz.zeroValue145
 t50:=underlying121
 a50:=Tryz.isAgg121
 z50:=Tryz.sizeOf121
 v50:=Tryz.zeroValue121
 t53:=underlying151
 a53:=Tryz.isAgg151
 z53:=Tryz.sizeOf151
 v53:=Tryz.zeroValue151
 t55:=underlying114
 a55:=Tryz.isAgg114
 z55:=Tryz.sizeOf114
 v55:=Tryz.zeroValue114
 t66:=underlying180
 a66:=Tryz.isAgg180
 z66:=Tryz.sizeOf180
 v66:=Tryz.zeroValue180
 t70:=underlying184
 a70:=Tryz.isAgg184
 z70:=Tryz.sizeOf184
 v70:=Tryz.zeroValue184
 t76:=underlying207
 a76:=Tryz.isAgg207
 z76:=Tryz.sizeOf207
 v76:=Tryz.zeroValue207
 t77:=underlying208
 a77:=Tryz.isAgg208
 z77:=Tryz.sizeOf208
 v77:=Tryz.zeroValue208}
open Go.Ab
variable [Glob prog]
set_option maxRecDepth 100000
set_option maxHeartbeats 8000000
theorem F6 (x y:ByteArray):iW y x= -iW x y:=D6 _ _
theorem bJo (x:ByteArray):iW x x=0:=uZ _
theorem bJp {x y z:ByteArray} (h:iW x y<=0) (k:iW y z<=0):iW x z<=0:=bHq.tr _ _ _ h k
theorem bJq {x y z:ByteArray} (h:iW x y<0) (k:iW y z<0):iW x z<0:=aFu h (Int.le_of_lt k)
theorem bJr:Go.Sort.SWO (ltOf iW) where
 irrefl x:=by unfold ltOf;rw[bJo];rfl
 trans x y z h1 h2:=by
  unfold ltOf at*
  simp only[decide_eq_true_eq]at*
  exact bJq h1 h2
 ntrans x y z h1 h2:=by
  unfold ltOf at*
  simp only[decide_eq_false_iff_not,Int.not_lt]at*
  have a:=F6 x y
  have b:=F6 y z
  have c:=F6 x z
  have:=bJp (x:=z) (y:=y) (z:=x) (by omega) (by omega)
  omega
section
open Go.Shelf Go.Proofs
def Tryz.compS_ren:Go.Shelf.Ren:=⟨fun|43=>29|n=>n,fun|22=>29|23=>9|3=>3|4=>4|0=>0|n=>n,fun|n=>n⟩
theorem Tryz.compS:Go.Proofs.SlLaysE.n43 prog Tryz.compS_ren:= {
 mixed:=by kernel_rfl
 f43:=⟨Tryz.f29.name,by decide,func29.trans (congrArg some (by kernel_rfl))⟩
 t0:=underlying0
 a0:=Tryz.isAgg0
 z0:=Tryz.sizeOf0
 v0:=Tryz.zeroValue0
 t3:=underlying3
 a3:=Tryz.isAgg3
 z3:=Tryz.sizeOf3
 v3:=Tryz.zeroValue3
 t4:=underlying4
 a4:=Tryz.isAgg4
 z4:=Tryz.sizeOf4
 v4:=Tryz.zeroValue4
 t22:=underlying29
 a22:=Tryz.isAgg29
 z22:=Tryz.sizeOf29
 v22:=Tryz.zeroValue29
 a23:=Tryz.isAgg9
 z23:=Tryz.sizeOf9}
end
def tH (l:List ByteArray):List ByteArray:=Go.Lib.compactUpTo l.toArray l.length
theorem aHc (d:Array ByteArray) (i:Nat):Go.Lib.compactUpTo d (i+1)=Go.Lib.compactUpTo d i++(if Go.Lib.keeps d i=true then[d[i]!]else[]):=by
 unfold Go.Lib.compactUpTo
 rw[List.range_succ,List.filter_append,List.map_append]
 congr 1
 by_cases h:Go.Lib.keeps d i=true<;>simp[h]
theorem V8 (d:Array ByteArray): ∀i,(Go.Lib.compactUpTo d i).length<=i
 |0=>by simp[Go.Lib.compactUpTo]
 |i+1=>by
  rw[aHc,List.length_append]
  have:=V8 d i
  split<;>simp<;>omega
def zs:ByteArray:=ByteArray.mk #[]
theorem bJs (l:List ByteArray) (hb:l.length<=140737488355328):MCall prog 29 [.ref 1000 0 l.length] [(1000,cY bG 1 0 l)]
 (fun r o'=>r= .ref 1001 0 (tH l).length/\o'= [(1001,⟨true,false,false,1,(tH l).map bG,0⟩)]):=by
 by_cases hl:l= []
 ·subst hl
  have e:tH []= []:=rfl
  rw[e]
  refine eW func29 call29 rfl (by simp[ntmps29]) ?_;simp only[ntmps29,results29]
  repeat' (first|(refine aC fun _ _=>?_)|refine zHg ?_|simp(disch:=omega) [go_sem])
  refine cV ⟨61,[(2,.ref 1001 0 0)],[(1001,⟨true,false,false,1,[],0⟩)]⟩ [.ref 1001 0 0] (by refine Le.trans ?_ (Le.move (i:=2) (T:=1000) (T':=1001) rfl (by show(0:Nat)≠1;decide) rfl rfl rfl);exact(Le.sub4 rfl (by simp[go_sem]))) (by simp[go_sem]) ⟨rfl,rfl⟩
 ·exact bC4 (P:=prog) (f:=29) Value.string (fun _=>rfl) (fun _=>rfl) 0 (by decide) l (tH l) zs hl (V8 _ _) call29
   (fun blk cap w hH hcap=>by
    have h:=AnyE.slices_Compact Tryz.compS Value.string (fun _=>rfl)
     ⟨fun x y w=>by rw[(EqlAt.string _ _).1 x y w];show _=Result.ok (Value.bool (decide (x=y))) w;rw[<-aEu],(EqlAt.string _ _).2⟩ ⟨fun x y w=>by rw[(NeqAt.string _ _).1 x y w];show _=Result.ok (Value.bool (!decide (x=y))) w;rw[<-aEu],(NeqAt.string _ _).2⟩ zs (fun w=>by rfl) blk 0 cap l.toArray w hH (by(try simp);omega) (by simpa using hcap)
    exact h)
def eF (s:ByteArray):Tm:= .mk s []
theorem bJt {x y:ByteArray}:eF x=eF y↔x=y:=⟨fun h=>congrArg Tm.name h,fun h=>by rw[h]⟩
theorem aHd (m:List ByteArray): ∀i,i<=m.length->(Go.Lib.compactUpTo m.toArray i).map eF=mK (m.map eF) i
 |0,_=>rfl
 |i+1,hi=>by
  have hi':i<m.length:=by omega
  have hl:i<(m.map eF).length:=by rw[List.length_map];exact hi'
  rw[aHc,List.map_append,aHd m i (by omega),aFy hl]
  have e1:m.toArray[i]! =m[i]:=by simp[hi']
  have e2:(m.map eF)[i]=eF m[i]:=by simp
  rw[e2]
  by_cases h0:i=0
  ·have hk:Go.Lib.keeps m.toArray i=true:=by simp[Go.Lib.keeps,h0]
   rw[if_pos hk,if_pos (.inl h0),e1];rfl
  ·have h1:i - 1<m.length:=by omega
   have e3:(m.map eF).getD (i - 1) (eF m[i])=eF m[i - 1]:=by
    rw[List.getD_eq_getElem?_getD,List.getElem?_eq_getElem (by simpa using h1)];simp
   have e4:m.toArray[i - 1]! =m[i - 1]:=by simp[h1]
   rw[e3]
   have hz:cJ (eF m[i - 1]) (eF m[i])=0↔m[i - 1]=m[i]:=by rw[uY,bJt]
   by_cases hk:m[i - 1]=m[i]
   ·have hk': ¬Go.Lib.keeps m.toArray i=true:=by simp[Go.Lib.keeps,h0,e1,e4,hk]
    rw[if_neg hk',if_neg (by rw[hz.2 hk];simp[h0])];simp
   ·have hk':Go.Lib.keeps m.toArray i=true:=by
     unfold Go.Lib.keeps
     rw[decide_eq_true_eq,e1,e4]
     exact .inr fun e=>hk e.symm
    rw[if_pos hk',if_pos (.inr fun e=>hk (hz.1 e)),e1];rfl
def aW (l:List Tm):List ByteArray:=(eD l).filter fH
def rQ (l:List Tm):List ByteArray:=(fP ((aW l).map eF)).map Tm.name
theorem bJu {l:List Tm} {m:List ByteArray} (hp:m.Perm (aW l)) (hs:m.Pairwise (fun x y=>iW x y<=0)):tH m=rQ l:=by
 have h1:(m.map eF).Perm ((aW l).map eF):=hp.map _
 have h2:SrtOn cJ (m.map eF) 0 ((aW l).map eF).length:=by
  rw[<-h1.length_eq]
  intro i j x y _ hij hj hx hy
  rw[List.length_map]at hj
  have hi:i<m.length:=by omega
  rw[List.getElem?_map,List.getElem?_eq_getElem hi]at hx
  rw[List.getElem?_map,List.getElem?_eq_getElem hj]at hy
  simp only[Option.map_some,Option.some.injEq]at hx hy
  subst hx hy
  exact List.pairwise_iff_getElem.1 hs i j hi hj hij
 have h3:=bHr h1 h2
 unfold rQ tH
 rw[<-h3,List.length_map,<-aHd m m.length (Nat.le_refl _),List.map_map]
 have:Tm.name∘eF=id:=rfl
 rw[this,List.map_id]
theorem bJv {p:ByteArray->Bool} {L:List ByteArray} {j:Nat} (h:j<L.length):(L.take (j+1)).filter p=(L.take j).filter p++(if p L[j]=true then[L[j]]else[]):=by
 rw[fC h,List.filter_append]
 congr 1
 by_cases hp:p L[j]=true<;>simp[hp]
def nL (A L:List ByteArray) (j:Nat):List ByteArray:=A++(L.take j).filter fH
theorem bJw (A L:List ByteArray):nL A L 0=A:=by simp[nL]
theorem bJx (A L:List ByteArray):nL A L L.length=A++L.filter fH:=by simp[nL]
theorem bJy {A L:List ByteArray} {j:Nat} (h:j<L.length):nL A L (j+1)=nL A L j++(if fH L[j]=true then[L[j]]else[]):=by
 unfold nL;rw[bJv h,List.append_assoc]
theorem bJz (A L:List ByteArray) (j:Nat):(nL A L j).length<=A.length+j:=by
 unfold nL
 rw[List.length_append]
 have:=List.length_filter_le fH (L.take j)
 rw[List.length_take]at this
 omega
theorem bJ0 {l:List Tm} {i:Nat} (h:i<l.length):aW (l.take (i+1))=aW (l.take i)++(nG l[i]).filter fH:=by
 unfold aW;rw[E0 h,List.filter_append]
theorem aHe (l:List Tm):(aW l).length<=(eD l).length:=List.length_filter_le _ _
theorem pE:aW []= []:=rfl
open Go.Ab
set_option maxRecDepth 100000
def gP (t:Tm):List ByteArray:=(nG t).filter fH
theorem tI {s:ByteArray} {ts:List Tm}:gP (.mk s ts)=if ts.length=0 then(if fH s=true then[s]else[])else aW ts:=by
 unfold gP aW
 rw[D8]
 split
 ·by_cases h:fH s=true<;>simp[h]
 ·rfl
theorem qM {t:Tm} {r:List Tm}:aW (t::r)=gP t++aW r:=by
 unfold aW gP
 rw[eD,List.filter_append]
theorem tJ (a b:List Tm):aW (a++b)=aW a++aW b:=by
 unfold aW
 rw[D9,List.filter_append]
mutual
def yB (K:Nat) (c:ByteArray):Nat->Tm->Tm
 |k,.mk s ts=>if ts.length=0 then .mk (if fH s=true/\k=K then c else s) ts else .mk s (dR K c k ts)
def dR (K:Nat) (c:ByteArray):Nat->List Tm->List Tm
 |_,[]=> []
 |k,t::r=>yB K c k t::dR K c (k+(gP t).length) r
end
theorem aHf {K:Nat} {c:ByteArray} {k:Nat} {s:ByteArray} {ts:List Tm}:yB K c k (.mk s ts)=if ts.length=0 then .mk (if fH s=true/\k=K then c else s) ts else .mk s (dR K c k ts):=by rw[yB]
theorem F7 {K:Nat} {c:ByteArray}: ∀{ts:List Tm} {k:Nat},(dR K c k ts).length=ts.length
 | [],k=>by simp[dR]
 |t::r,k=>by simp[dR,F7]
theorem aHg {K:Nat} {c:ByteArray}: ∀{a b:List Tm} {k:Nat},dR K c k (a++b)=dR K c k a++dR K c (k+(aW a).length) b
 | [],b,k=>by simp[dR,pE]
 |t::r,b,k=>by
  simp only[List.cons_append,dR,aHg,qM,List.length_append,Nat.add_assoc]
theorem aHh {K:Nat} {c:ByteArray} {ts:List Tm} {k i:Nat} (h:i<ts.length):dR K c k (ts.take (i+1))=dR K c k (ts.take i)++ [yB K c (k+(aW (ts.take i)).length) ts[i]]:=by
 rw[fC h,aHg];simp[dR]
theorem bJ1 {K:Nat} {c:ByteArray} {k:Nat}:dR K c k []= []:=by rw[dR]
def cZ:List Lt->List ByteArray
 | []=> []
 |b::m=>aW b.atom.args++cZ m
theorem aHi: ∀(a b:List Lt),cZ (a++b)=cZ a++cZ b
 | [],b=>rfl
 |x::a,b=>by simp[cZ,aHi a b]
theorem aHj {l:List Lt} {i:Nat} (h:i<l.length):cZ (l.take (i+1))=cZ (l.take i)++aW l[i].atom.args:=by
 rw[fC h,aHi];simp[cZ]
def dS (r:Rl):List ByteArray:=aW r.head.args++cZ r.body
def gQ (K:Nat) (c:ByteArray):Nat->List Lt->List Lt
 |_,[]=> []
 |k,b::m=>⟨b.neg,.mk b.atom.name (dR K c k b.atom.args)⟩::gQ K c (k+(aW b.atom.args).length) m
theorem V9 {K:Nat} {c:ByteArray}: ∀{a b:List Lt} {k:Nat},gQ K c k (a++b)=gQ K c k a++gQ K c (k+(cZ a).length) b
 | [],b,k=>by simp[gQ,cZ]
 |x::a,b,k=>by simp only[List.cons_append,gQ,V9,cZ,List.length_append,Nat.add_assoc]
theorem aHk {K:Nat} {c:ByteArray} {l:List Lt} {k i:Nat} (h:i<l.length):gQ K c k (l.take (i+1))=gQ K c k (l.take i)++ [⟨l[i].neg,.mk l[i].atom.name (dR K c (k+(cZ (l.take i)).length) l[i].atom.args)⟩]:=by
 rw[fC h,V9];simp[gQ]
theorem yC {K:Nat} {c:ByteArray}: ∀{l:List Lt} {k:Nat},(gQ K c k l).length=l.length
 | [],k=>by simp[gQ]
 |x::l,k=>by simp[gQ,yC]
def yD (K:Nat) (c:ByteArray) (r:Rl):Rl:=⟨.mk r.head.name (dR K c 0 r.head.args),gQ K c (aW r.head.args).length r.body⟩
structure Mu where
 kind:Int
 rule:Int
 index:Int
 deriving DecidableEq
abbrev dA (m:Mu):AV:= .agg [nt .i64 m.kind,nt .i64 m.rule,nt .i64 m.index]
def zT:Tm:= .mk ⟨#[]⟩ []
def iB (i p:Nat) (C:List ByteArray) (s:ByteArray):Nat->List Mu
 |0=> []
 |k+1=>iB i p C s k++(if C.getD k zs=s then[]else[⟨4,i,(p*C.length+k:Nat)⟩])
def iC (i:Nat) (C S:List ByteArray):Nat->List Mu
 |0=> []
 |p+1=>iC i C S p++iB i p C (S.getD p zs) C.length
def mO (i:Nat):Nat->List Mu
 |0=> []
 |k+1=>mO i k++ [⟨2,i,k⟩,⟨3,i,k⟩]
def kA (t:Tm):Bool:=decide (2<=t.args.length)&& !decide (cJ (t.args.getD 0 zT) (t.args.getD 1 zT)=0)
def iD (i:Nat) (A:List Tm):Nat->List Mu
 |0=> []
 |k+1=>iD i A k++(if kA (A.getD k zT)=true then[⟨5,i,k⟩]else[])
def eZ (r:Rl):List Tm:=r.head::r.body.map Lt.atom
def gH (i:Nat) (r:Rl) (C:List ByteArray):List Mu:= [⟨1,i,0⟩]++mO i r.body.length++iC i C (dS r) (dS r).length++iD i (eZ r) (eZ r).length
def yR:Rl:=⟨zT,[]⟩
def jA (C:List ByteArray) (l:List Rl):Nat->List Mu
 |0=> []
 |i+1=>jA C l i++gH i (l.getD i yR) C
def lQ:List Rl->List ByteArray
 | []=> []
 |r::l=>dS r++lQ l
def oC:List Lt->List Tm
 | []=> []
 |b::m=>b.atom.args++oC m
def fE:List Rl->List Tm
 | []=> []
 |r::l=>(r.head.args++oC r.body)++fE l
theorem W0: ∀l:List Lt,aW (oC l)=cZ l
 | []=>rfl
 |b::m=>by rw[oC,tJ,W0 m];rfl
theorem W1: ∀l:List Rl,aW (fE l)=lQ l
 | []=>rfl
 |r::l=>by rw[fE,tJ,tJ,W0,W1 l];rfl
def eA (l:List Rl):List ByteArray:=rQ (fE l)
def kB (l:List Rl):List Mu:=jA (eA l) l l.length
theorem aHl {i p:Nat} {C:List ByteArray} {s:ByteArray} {m:Mu}: ∀{n:Nat},m∈iB i p C s n↔ ∃k,k<n/\C.getD k zs≠s/\m=⟨4,i,(p*C.length+k:Nat)⟩
 |0=>by simp[iB]
 |n+1=>by
  rw[iB,List.mem_append,aHl]
  constructor
  ·rintro(⟨k,h1,h2⟩|h)
   ·exact⟨k,by omega,h2⟩
   ·split at h
    ·simp at h
    ·rename_i hc
     exact⟨n,by omega,hc,by simpa using h⟩
  ·rintro⟨k,h1,h2,h3⟩
   by_cases hk:k=n
   ·subst hk
    refine .inr ?_
    rw[if_neg h2];simp[h3]
   ·exact .inl ⟨k,by omega,h2,h3⟩
theorem aHm {i:Nat} {C S:List ByteArray} {m:Mu}: ∀{n:Nat},m∈iC i C S n↔ ∃p k,p<n/\k<C.length/\C.getD k zs≠S.getD p zs/\m=⟨4,i,(p*C.length+k:Nat)⟩
 |0=>by simp[iC]
 |n+1=>by
  rw[iC,List.mem_append,aHm,aHl]
  constructor
  ·rintro(⟨p,k,h1,h2⟩|⟨k,h1,h2⟩)
   ·exact⟨p,k,by omega,h2⟩
   ·exact⟨n,k,by omega,h1,h2⟩
  ·rintro⟨p,k,h1,h2,h3⟩
   by_cases hk:p=n
   ·subst hk
    exact .inr ⟨k,h2,h3⟩
   ·exact .inl ⟨p,k,by omega,h2,h3⟩
theorem aHn {i:Nat} {m:Mu}: ∀{n:Nat},m∈mO i n↔ ∃k:Nat,k<n/\(m=⟨2,i,k⟩\/m=⟨3,i,k⟩)
 |0=>by simp[mO]
 |n+1=>by
  rw[mO,List.mem_append,aHn]
  constructor
  ·rintro(⟨k,h1,h2⟩|h)
   ·exact⟨k,by omega,h2⟩
   ·exact⟨n,by omega,by simpa using h⟩
  ·rintro⟨k,h1,h2⟩
   by_cases hk:k=n
   ·subst hk;exact .inr (by simpa using h2)
   ·exact .inl ⟨k,by omega,h2⟩
theorem aHo {i:Nat} {A:List Tm} {m:Mu}: ∀{n:Nat},m∈iD i A n↔ ∃k:Nat,k<n/\kA (A.getD k zT)=true/\m=⟨5,i,k⟩
 |0=>by simp[iD]
 |n+1=>by
  rw[iD,List.mem_append,aHo]
  constructor
  ·rintro(⟨k,h1,h2⟩|h)
   ·exact⟨k,by omega,h2⟩
   ·split at h
    ·rename_i hc;exact⟨n,by omega,hc,by simpa using h⟩
    ·simp at h
  ·rintro⟨k,h1,h2,h3⟩
   by_cases hk:k=n
   ·subst hk
    refine .inr ?_
    rw[if_pos h2];simp[h3]
   ·exact .inl ⟨k,by omega,h2,h3⟩
theorem W2 {i:Nat} {r:Rl} {C:List ByteArray} {m:Mu}:m∈gH i r C↔m=⟨1,i,0⟩\/(∃k:Nat,k<r.body.length/\(m=⟨2,i,k⟩\/m=⟨3,i,k⟩))\/
 (∃p k,p<(dS r).length/\k<C.length/\C.getD k zs≠(dS r).getD p zs/\m=⟨4,i,(p*C.length+k:Nat)⟩)\/ ∃k:Nat,k<(eZ r).length/\kA ((eZ r).getD k zT)=true/\m=⟨5,i,k⟩:=by
 unfold gH
 rw[List.mem_append,List.mem_append,List.mem_append,List.mem_singleton,aHn,aHm,aHo,or_assoc,or_assoc]
theorem W3 {i:Nat} {r:Rl} {C:List ByteArray} {m:Mu} (h:m∈gH i r C):m.rule=i:=by
 rcases W2.1 h with rfl|⟨k,_,rfl|rfl⟩|⟨p,k,_,_,_,rfl⟩|⟨k,_,_,rfl⟩<;>rfl
theorem aHp {C:List ByteArray} {l:List Rl} {m:Mu}: ∀{n:Nat},m∈jA C l n↔ ∃i,i<n/\m∈gH i (l.getD i yR) C
 |0=>by simp[jA]
 |n+1=>by
  rw[jA,List.mem_append,aHp]
  constructor
  ·rintro(⟨k,h1,h2⟩|h)
   ·exact⟨k,by omega,h2⟩
   ·exact⟨n,by omega,h⟩
  ·rintro⟨k,h1,h2⟩
   by_cases hk:k=n
   ·subst hk;exact .inr h2
   ·exact .inl ⟨k,by omega,h2⟩
theorem F8 {l:List Rl} {m:Mu}:m∈kB l↔ ∃i,i<l.length/\m∈gH i (l.getD i yR) (eA l):=aHp
def pF (t:Tm):Tm:= .mk t.name ((t.args.set 0 (t.args.getD 1 zT)).set 1 (t.args.getD 0 zT))
def qN (b:Lt):Lt:=⟨b.neg,pF b.atom⟩
def qO (b:Lt):Lt:=⟨!b.neg,b.atom⟩
def iE (f:Lt->Lt) (k:Nat) (l:List Lt):List Lt:=l.modify k f
def kT (r:Rl) (m:Mu) (C:List ByteArray):Rl:=
 if m.kind=2 then⟨r.head,r.body.eraseIdx m.index.toNat⟩
 else if m.kind=3 then⟨r.head,iE qO m.index.toNat r.body⟩
 else if m.kind=4 then yD (m.index.toNat / C.length) (C.getD (m.index.toNat % C.length) zs) r
 else if m.kind=5 then(if m.index=0 then⟨pF r.head,r.body⟩else⟨r.head,iE qN (m.index.toNat - 1) r.body⟩)
 else r
def pG (m:Mu) (C:List ByteArray) (l:List Rl):Nat->List Rl
 |0=> []
 |i+1=>pG m C l i++(if m.rule=(i:Int)then(if m.kind=1 then[]else[kT (l.getD i yR) m C])else[l.getD i yR])
def W4 (l:List Rl) (m:Mu):List Rl:=pG m (eA l) l l.length
open Go.Ab
set_option maxRecDepth 100000
def cS (K:Int) (f:Nat) (L:List ByteArray):ByteArray:=if(f:Int)<=K/\K<(f:Int)+L.length then L.getD (K - f).toNat zs else zs
theorem zs_app (a:ByteArray):zs++a=a:=by unfold zs;ext1;simp
theorem W5 (a:ByteArray):a++zs=a:=by unfold zs;ext1;simp
theorem tK (K:Int) (f:Nat):cS K f []=zs:=by
 unfold cS
 split<;>rfl
theorem aHq (K:Int) (f:Nat) (s:ByteArray):cS K f [s]=if(f:Int)=K then s else zs:=by
 unfold cS
 by_cases h:(f:Int)=K
 ·subst h
  rw[if_pos rfl,if_pos ⟨Int.le_refl _,by simp only[List.length_singleton];omega⟩,Int.sub_self];rfl
 ·rw[if_neg h,if_neg (by(try simp);omega)]
theorem W6 (K:Int) (f:Nat) (A B:List ByteArray):cS K f (A++B)=cS K f A++cS K (f+A.length) B:=by
 unfold cS
 rw[List.length_append]
 by_cases h1:(f:Int)<=K/\K<(f:Int)+A.length
 ·rw[if_pos h1,if_pos (by omega),if_neg (by omega),W5,List.getD_eq_getElem?_getD,List.getD_eq_getElem?_getD,List.getElem?_append_left (by omega)]
 ·rw[if_neg h1,zs_app]
  by_cases h2:((f+A.length:Nat):Int)<=K/\K<((f+A.length:Nat):Int)+B.length
  ·rw[if_pos h2,if_pos (by omega),List.getD_eq_getElem?_getD,List.getD_eq_getElem?_getD,List.getElem?_append_right (by omega)]
   congr 2
   omega
  ·rw[if_neg h2,if_neg (by omega)]
def rR (K:Int) (nm:ByteArray) (f:Nat) (t:Tm):Tm:=if nm.size=0\/K<0 then t else yB K.toNat nm f t
def eP (K:Int) (nm:ByteArray) (f:Nat) (l:List Tm):List Tm:=if nm.size=0\/K<0 then l else dR K.toNat nm f l
theorem W7 {K:Int} {nm:ByteArray} {f:Nat} {s:ByteArray} {ts:List Tm}:rR K nm f (.mk s ts)=if ts.length=0 then .mk (if fH s=true/\(f:Int)=K/\nm.size≠0 then nm else s) ts else .mk s (eP K nm f ts):=by
 unfold rR eP
 by_cases h:nm.size=0\/K<0
 ·have e: ¬(fH s=true/\(f:Int)=K/\nm.size≠0):=fun hh=>by
   obtain⟨_,h1,h2⟩:=hh
   omega
  rw[if_pos h,if_pos h,if_neg e,ite_self]
 ·rw[if_neg h,if_neg h,aHf]
  split
  ·congr 1
   by_cases h1:fH s=true/\f=K.toNat
   ·rw[if_pos h1,if_pos ⟨h1.1,by omega,by omega⟩]
   ·rw[if_neg h1,if_neg]
    rintro⟨h2,h3,h4⟩
    exact h1 ⟨h2,by omega⟩
  ·rfl
theorem F9 {K:Int} {nm:ByteArray} {f:Nat} {l:List Tm}:(eP K nm f l).length=l.length:=by
 unfold eP
 split
 ·rfl
 ·exact F7
theorem W8 {K:Int} {nm:ByteArray} {f:Nat}:eP K nm f []= []:=List.eq_nil_of_length_eq_zero F9
theorem bJ2 {K:Int} {nm:ByteArray} {f:Nat} {ts:List Tm} {i:Nat} (h:i<ts.length):eP K nm f (ts.take (i+1))=eP K nm f (ts.take i)++ [rR K nm (f+(aW (ts.take i)).length) ts[i]]:=by
 unfold eP rR
 split
 ·exact fC h
 ·exact aHh h
theorem bJ3 {K:Int} {f:Nat} {ts:List Tm} {i:Nat} (h:i<ts.length):cS K f (aW (ts.take (i+1)))=cS K f (aW (ts.take i))++cS K (f+(aW (ts.take i)).length) (gP ts[i]):=by
 rw[fC h,tJ,W6]
 congr 2
 rw[qM,pE,List.append_nil]
theorem bJ4 {ts:List Tm} {i:Nat} (h:i<ts.length):aW (ts.take (i+1))=aW (ts.take i)++gP ts[i]:=by
 rw[fC h,tJ,qM,pE,List.append_nil]
def kU (K:Int) (nm:ByteArray) (f:Nat) (l:List Lt):List Lt:=if nm.size=0\/K<0 then l else gQ K.toNat nm f l
def G0 (K:Int) (nm:ByteArray) (r:Rl):Rl:=⟨.mk r.head.name (eP K nm 0 r.head.args),kU K nm (aW r.head.args).length r.body⟩
theorem bJ5 {K:Int} {nm:ByteArray} {f:Nat} {l:List Lt} {i:Nat} (h:i<l.length):kU K nm f (l.take (i+1))=kU K nm f (l.take i)++ [⟨l[i].neg,.mk l[i].atom.name (eP K nm (f+(cZ (l.take i)).length) l[i].atom.args)⟩]:=by
 unfold kU eP
 split
 ·rw[fC h,<-uW]
 ·exact aHk h
theorem tL {K:Int} {nm:ByteArray} {f:Nat} {l:List Lt}:(kU K nm f l).length=l.length:=by
 unfold kU
 split
 ·rfl
 ·exact yC
theorem aHr {K:Int} {nm:ByteArray} {r:Rl} (h:nm.size=0\/K<0):G0 K nm r=r:=by
 unfold G0 eP kU
 rw[if_pos h,if_pos h,<-uW]
set_option maxHeartbeats 16000000
theorem W9 (t:Tm):ACall prog 138 [eT t] (fun r=>r=bl (rN t)):=by
 obtain⟨s,ts⟩:=t
 have h1:=aFd s
 have h2:=bGz s
 have e:rN (.mk s ts)=(decide (ts.length=0)&&(nZ s||(dZ s).2)):=by
  unfold rN fH
  rw[cK,nY]
  cases ts<;>rfl
 rw[e]
 generalize dZ s=q at*
 obtain⟨v,b⟩:=q
 generalize nZ s=a at*
 dsimp only at*
 by_cases h0:ts.length=0
 ·rw[decide_eq_true h0,Bool.true_and]
  cases a<;>cases b
  all_goals refine aU func138 call138 rfl (by simp[ntmps138]) ?_;simp only[ntmps138,results138]
  all_goals repeat' (first|(refine aC fun _ _=>?_)|refine zHg ?_|(refine aN [] ?_;simp[go_sem,h0])|refine aO rfl (h1) (by simp) ?_|refine aO rfl (h2) (by simp) ?_|simp(disch:=omega) [go_sem,h0])
 ·rw[decide_eq_false h0,Bool.false_and]
  cases a<;>cases b
  all_goals refine aU func138 call138 rfl (by simp[ntmps138]) ?_;simp only[ntmps138,results138]
  all_goals repeat' (first|(refine aC fun _ _=>?_)|refine zHg ?_|(refine aN [] ?_;simp[go_sem,h0])|refine aO rfl (h1) (by simp) ?_|simp(disch:=omega) [go_sem,h0])
theorem G1 {s:ByteArray} {ts:List Tm}:rN (.mk s ts)=(decide (ts.length=0)&&fH s):=by
 unfold rN
 rw[cK,nY]
 cases ts<;>rfl
theorem nM {L:List Tm}:(L.map aI).map loose=L.map aI:=by
 rw[List.map_map]
 refine List.map_congr_left fun t _=>?_
 show loose (aI t)=aI t
 rw[rM];rfl
theorem oD: ∀l:List Tm,(aW l).length<=bV l:=by
 have key: ∀t:Tm,(gP t).length<=t.size:=by
  refine eX fun t ih=>?_
  obtain⟨s,ts⟩:=t
  simp only[cK]at ih
  rw[tI,fB,cK]
  split
  ·split<;>simp
  ·have: ∀l:List Tm,(∀u∈l,(gP u).length<=u.size)->(aW l).length<=bV l:=by
    intro l
    induction l with
    |nil=>intro _;simp[pE]
    |cons u r ihr=>
     intro h
     rw[qM,List.length_append]
     have:=h u (by simp)
     have:=ihr fun v hv=>h v (by simp[hv])
     simp only[bV]
     omega
   have:=this ts ih
   omega
 intro l
 induction l with
 |nil=>simp[pE]
 |cons u r ihr=>
  rw[qM,List.length_append]
  have:=key u
  simp only[bV]
  omega
abbrev bD (n:Nat):AObj:=⟨false,false,true,1,[.ref 1001 0 n],0⟩
abbrev bI (S:List ByteArray):AObj:=⟨true,false,false,1,S.map bG,0⟩
abbrev eU (S:List ByteArray):aF:= [(1000,bD S.length),(1001,bI S)]
abbrev fF (S:List ByteArray):aF:= [(1000,bD S.length),(1001,⟨true,false,true,1,S.map bG,0⟩)]
abbrev yE:aF:= [(1000,⟨false,false,true,1,[.list false true []],0⟩)]
theorem G2 (S T:List ByteArray):eU (S++T)= [(1000,bD (S.length+T.length)),(1001,⟨true,false,false,1,S.map bG++T.map bG,0⟩)]:=by
 unfold eU bD bI
 rw[List.length_append,List.map_append]
theorem aHs (S T:List ByteArray):fF (S++T)= [(1000,bD (S.length+T.length)),(1001,⟨true,false,true,1,S.map bG++T.map bG,0⟩)]:=by
 unfold fF bD
 rw[List.length_append,List.map_append]
theorem aHt (S T U:List ByteArray):eU (S++T++U)= [(1000,bD (S.length+T.length+U.length)),(1001,⟨true,false,false,1,S.map bG++T.map bG++U.map bG,0⟩)]:=by
 rw[G2,List.length_append,List.map_append]
theorem bJ6 (S:List ByteArray) (s:ByteArray) (hS:S.length<=2000000):MCall prog 61 [.sc (.string s),.ptr 1000 0 0] (fF S) (fun r o'=>r= .sc (.string s)/\o'=eU (S++ [s])):=by
 rw[G2]
 refine eW func61 call61 rfl (by simp[ntmps61]) ?_;simp only[ntmps61,results61]
 repeat' (first|(refine aC fun _ _=>?_)|refine zHg ?_|simp(disch:=omega) [go_sem,fF,bD,bI,bG]|refine zAo ?_|fail)
 try any_goals omega
 refine cV ⟨9,[(3,.sc (.string s))],[(1000,bD (S.length+1)),(1001,⟨true,false,false,1,S.map bG++ [.sc (.string s)],0⟩)]⟩ [.sc (.string s)] (Le.renSub [(7,1001),(1001,7)] [(1001,7),(7,1001)] (by simp[go_sem,fF,bD,bI,bG]) (by simp[go_sem,fF,bD,bI,bG]) (Le.sub4 rfl (by simp[go_sem,fF,bD,bI,bG]))) (by simp[go_sem,fF,bD,bI,bG]) ⟨rfl,rfl⟩
theorem X0: ∀(n:Nat) (ts:List Tm) (le fu:Bool) (X:aF) (S:List ByteArray),bV ts<n->bV ts<=1000000->S.length+bV ts<=2000000->(X=fF S/\True\/X=yE/\S= [])->
 MCall prog 102 [.list le fu (ts.map aI),.clo 61 [.ptr 1000 0 0]] X (fun r o'=>r= .list false false (ts.map aI)/\o'=eU (S++aW ts))
 |0,ts,le,fu,X,S,hn,_,_,_=>absurd hn (Nat.not_lt_zero _)
 |n+1,ts,le,fu,X,S,hn,hz,hS,hX=>by
  have ih:=X0 n
  have hlen:=nF ts
  have key:MCall prog 102 [.list le fu (ts.map aI),.clo 61 [.ptr 1000 0 0]] X (fun r o'=>r= .ref 900 0 ts.length/\o'=(900,⟨true,false,false,2,ts.map aI,0⟩)::eU (S++aW ts)):=by
   have hcn:aW []= []:=rfl
   rw[G2]
   rcases hX with⟨rfl,hS0⟩|⟨rfl,hS0⟩
   all_goals refine eW func102 call102 rfl (by simp[ntmps102]) ?_;simp only[ntmps102,results102]
   all_goals skip
   all_goals repeat' (first|(refine aC fun _ _=>?_)|refine zHg ?_|simp(disch:=omega) [go_sem,fF,bD,bI])
   all_goals refine bS [1,8,9] [1000,1001,900] (fun i:Nat=> [(10,nt .i64 i),(5,.ref 900 0 i)]) (fun i:Nat=> [(1000,bD (S++aW (ts.take i)).length),(1001,bI (S++aW (ts.take i))),(900,⟨true,false,false,2,(ts.take i).map aI,0⟩)]) (fun i:Nat=>ts.length - i) (fun i:Nat=>i<=ts.length) (0) (by first|(refine Le.trans ?_ (Le.unpin 1001 rfl);refine Le.trans ?_ (Le.nil (i:=5) (T:=900) (es:=2) rfl);refine Le.sub4 rfl ?_;simp[go_sem,fF,bD,bI,hcn,hS0,List.append_nil,List.take_zero,List.map_nil,List.length_nil];done)|(refine Le.trans ?_ (Le.nilBox 1000 1001 1 rfl (by decide) (by decide));refine Le.trans ?_ (Le.nil (i:=5) (T:=900) (es:=2) rfl);refine Le.sub4 rfl ?_;simp[go_sem,fF,bD,bI,hcn,hS0,List.append_nil,List.take_zero,List.map_nil,List.length_nil];done)) ⟨?_⟩ ?_
   all_goals(first|exact Nat.zero_le _|skip)
   all_goals intro i hi AA hAA;simp only[kL,Nat.reduceBEq,Nat.reduceEqDiff]
   all_goals(
    by_cases hlt:i<ts.length
    ·have hsz:=sS hlt
     have htk:=R6 hlt
     have htl:=R7 ts (i+1)
     have hct:=oD (ts.take i)
     have htn:=fC hlt
     have hcx:aW (ts.take (i+1))=aW (ts.take i)++gP ts[i]:=by
      rw[htn,tJ]
      congr 1
      rw[qM,pE,List.append_nil]
     have hcc:=W9 ts[i]
     generalize aW (ts.take i)=C at*
     have hAl:(ts.take i).length=i:=by rw[List.length_take];omega
     generalize ts.take i=A at*
     generalize hti:ts[i]=t at*
     obtain⟨s,us⟩:=t
     rw[fB,cK]at hsz htk
     rw[tI,htn]at hcx
     rw[G1]at hcc
     by_cases h0:us.length=0
     ·rw[if_pos h0]at hcx
      rw[decide_eq_true h0,Bool.true_and]at hcc
      obtain rfl:=List.eq_nil_of_length_eq_zero h0
      by_cases hc:fH s=true
      ·rw[if_pos hc]at hcx
       rw[hc]at hcc
       have hcl:=bJ6 (S++C) s (by rw[List.length_append];omega)
       rw[aHs,aHt]at hcl
       repeat' (first|(refine aC fun _ _=>?_)|refine zHg ?_|refine aO rfl (hcc) (by simp) ?_|simp(disch:=omega) [go_sem,hlt,hti,hAl,bD,bI])
       refine bH [] [] 10000 _ _ (Fits.mk' (by simp[go_sem,bD,bI,List.length_append,List.map_append]) (by simp[go_sem,bD,bI,List.length_append,List.map_append])) (by simp[go_sem,bD,bI,List.length_append,List.map_append]) (by simp[go_sem,bD,bI,List.length_append,List.map_append]) (hcl) (by simp[go_sem,bD,bI,List.length_append,List.map_append]) (by simp[go_sem,bD,bI,List.length_append,List.map_append]) ?_
       repeat' (first|(refine aC fun _ _=>?_)|refine zHg ?_|(refine(hAA.next (i+1) (by refine Le.trans ?_ (Le.looseRow 900 rfl (by show(0:Nat)≠1;decide));exact(Le.renSub [(11001,1001),(1001,11001)] [(11001,1001),(1001,11001)] (by simp[go_sem,hAl,hcx,htn,nM,bG,Nat.add_assoc]) (by simp[go_sem,hAl,hcx,htn,nM,bG,Nat.add_assoc]) (Le.sub4 rfl (by simp[go_sem,hAl,hcx,htn,nM,bG,Nat.add_assoc])))) (by(try dsimp only);omega) ?_))|simp(disch:=omega) [go_sem,hlt,hti,hAl,bD,bI]|refine zAo ?_|fail)
       try any_goals omega
       all_goals exact⟨hlt⟩
      ·rw[if_neg hc,List.append_nil]at hcx
       rw[Bool.not_eq_true]at hc
       rw[hc]at hcc
       repeat' (first|(refine aC fun _ _=>?_)|refine zHg ?_|refine aO rfl (hcc) (by simp) ?_|(refine(hAA.next (i+1) (by refine Le.trans ?_ (Le.looseRow 900 rfl (by show(0:Nat)≠1;decide));exact(Le.sub4 rfl (by simp[go_sem,hAl,hcx,htn,nM,bG,Nat.add_assoc]))) (by(try dsimp only);omega) ?_))|simp(disch:=omega) [go_sem,hlt,hti,hAl,bD,bI]|refine zAo ?_|fail)
       try any_goals omega
       all_goals exact⟨hlt⟩
     ·rw[if_neg h0]at hcx
      rw[decide_eq_false h0,Bool.false_and]at hcc
      have hcu:=oD us
      have hr:=ih us false false (fF (S++C)) (S++C) (by omega) (by omega) (by rw[List.length_append];omega) (.inl ⟨rfl,trivial⟩)
      generalize aW us=D at*
      rw[aHs,aHt]at hr
      repeat' (first|(refine aC fun _ _=>?_)|refine zHg ?_|(with_reducible refine dF ?_;first|(exact dC)|(refine zSkip ?_)|(refine dD rfl ?_ ?_))|(with_reducible refine dE ?_;first|(refine zDone ?_)|(refine zQu 0 rfl rfl rfl rfl ?_)|(refine zQu 1 rfl rfl rfl rfl ?_)|(refine zQu 2 rfl rfl rfl rfl ?_)|(refine zQu 3 rfl rfl rfl rfl ?_)|(refine zQu 4 rfl rfl rfl rfl ?_)|(refine zAll ?_;show cO _ _ _ _ _ _ _))|with_reducible refine dH ?_|(refine zqd ?_ ?_<;>(intro h;first|(exfalso;omega)|(simp only[h,zT])))|refine aO rfl (hcc) (by simp) ?_|simp(disch:=omega) [go_sem,hlt,hti,hAl,h0,bD,bI]|refine zAny aQ ?_|fail)
      all_goals refine bH [] [] 10000 _ _ (Fits.mk' (by simp[go_sem,bD,bI,List.length_append,List.map_append]) (by simp[go_sem,bD,bI,List.length_append,List.map_append])) (by simp[go_sem,bD,bI,List.length_append,List.map_append]) (by simp[go_sem,bD,bI,List.length_append,List.map_append]) (hr) (by simp[go_sem,bD,bI,List.length_append,List.map_append]) (by simp[go_sem,bD,bI,List.length_append,List.map_append]) ?_
      all_goals repeat' (first|(refine aC fun _ _=>?_)|refine zHg ?_|(with_reducible refine dF ?_;first|(exact dC)|(refine zSkip ?_)|(refine dD rfl ?_ ?_))|(with_reducible refine dE ?_;first|(refine zDone ?_)|(refine zQu 0 rfl rfl rfl rfl ?_)|(refine zQu 1 rfl rfl rfl rfl ?_)|(refine zQu 2 rfl rfl rfl rfl ?_)|(refine zQu 3 rfl rfl rfl rfl ?_)|(refine zQu 4 rfl rfl rfl rfl ?_)|(refine zAll ?_;show cO _ _ _ _ _ _ _))|with_reducible refine dH ?_|(refine(hAA.next (i+1) (by refine Le.trans ?_ (Le.looseRow 900 rfl (by show(0:Nat)≠1;decide));exact(Le.renSub [(11001,1001),(1001,11001)] [(11001,1001),(1001,11001)] (by simp[go_sem,hAl,hcx,htn,nM,bG,Nat.add_assoc]) (by simp[go_sem,hAl,hcx,htn,nM,bG,Nat.add_assoc]) (Le.sub4 rfl (by simp[go_sem,hAl,hcx,htn,nM,bG,Nat.add_assoc])))) (by(try dsimp only);omega) ?_))|simp(disch:=omega) [go_sem,hlt,hti,hAl,h0,bD,bI]|refine zAo ?_|fail)
      try any_goals omega
      all_goals exact⟨hlt⟩
    ·obtain rfl:i=ts.length:=by omega
     rw[List.take_length]
     repeat' (first|(refine aC fun _ _=>?_)|refine zHg ?_|simp(disch:=omega) [go_sem,eU,bD,bI])
     refine cV ⟨40,[(4,.ref 900 0 ts.length)],(900,⟨true,false,false,2,ts.map aI,0⟩):: [(1000,bD (S.length+(aW ts).length)),(1001,⟨true,false,false,1,S.map bG++(aW ts).map bG,0⟩)]⟩ [.ref 900 0 ts.length] (Le.renSub [] [] (by simp[go_sem,eU,bD,bI]) (by simp[go_sem,eU,bD,bI]) (Le.sub4 rfl (by simp[go_sem,eU,bD,bI]))) (by simp[go_sem,eU,bD,bI]) ⟨rfl,rfl⟩)
  refine key.shared (s':=?_) (y:= .list false false (ts.map aI)) (by simp[go_sem,bY];rfl) (by simp[go_sem]) (by simp[go_sem]) (by simp[go_sem])
theorem bJ7 (s:ByteArray):ACall prog 69 [.sc (.string s)] (fun r=>r= .sc (.string s)):=by
 refine aU func69 call69 rfl (by simp[ntmps69]) ?_;simp only[ntmps69,results69]
 repeat' (first|(refine aC fun _ _=>?_)|refine zHg ?_|(refine aN [] ?_;simp[go_sem])|simp(disch:=omega) [go_sem])
theorem X1: ∀(n:Nat) (ts:List Tm) (le fu:Bool),bV ts<n->bV ts<=1000000->
 ACall prog 102 [.list le fu (ts.map aI),.clo 69 []] (fun r=>r= .list false false (ts.map aI))
 |0,ts,le,fu,hn,_=>absurd hn (Nat.not_lt_zero _)
 |n+1,ts,le,fu,hn,hz=>by
  have ih:=X1 n
  have hlen:=nF ts
  refine ACall.frz (es:=2) ?_
  refine ACall.own_nil ?_
  refine aU func102 call102 rfl (by simp[ntmps102]) ?_;simp only[ntmps102,results102]
  repeat' (first|(refine aC fun _ _=>?_)|refine zHg ?_|simp(disch:=omega) [go_sem])
  refine bS [1,8,9] [900] (fun i:Nat=> [(10,nt .i64 i),(5,.ref 900 0 i)]) (fun i:Nat=> [(900,⟨true,false,false,2,(ts.take i).map aI,0⟩)]) (fun i:Nat=>ts.length - i) (fun i:Nat=>i<=ts.length) (0) (by refine Le.trans ?_ (Le.nil (i:=5) (T:=900) (es:=2) rfl);exact(Le.sub4 rfl (by simp[go_sem,List.take_zero,List.map_nil,List.length_nil]))) ⟨?_⟩ ?_
  ·exact Nat.zero_le _
  intro i hi AA hAA;simp only[kL,Nat.reduceBEq,Nat.reduceEqDiff]
  by_cases hlt:i<ts.length
  ·have hsz:=sS hlt
   have htn:=fC hlt
   have hcc:=W9 ts[i]
   have hAl:(ts.take i).length=i:=by rw[List.length_take];omega
   generalize ts.take i=A at*
   generalize hti:ts[i]=t at*
   obtain⟨s,us⟩:=t
   rw[fB,cK]at hsz
   rw[G1]at hcc
   by_cases h0:us.length=0
   ·rw[decide_eq_true h0,Bool.true_and]at hcc
    obtain rfl:=List.eq_nil_of_length_eq_zero h0
    have hcl:=bJ7 s
    cases hc:fH s
    all_goals rw[hc]at hcc
    all_goals repeat' (first|(refine aC fun _ _=>?_)|refine zHg ?_|refine aO rfl (hcc) (by simp) ?_|refine aO rfl (hcl) (by simp) ?_|(refine(hAA.next (i+1) (by refine Le.trans ?_ (Le.looseRow 900 rfl (by show(0:Nat)≠1;decide));exact(Le.sub4 rfl (by simp[go_sem,hAl,htn,nM,bG]))) (by(try dsimp only);omega) ?_))|simp(disch:=omega) [go_sem,hlt,hti,hAl]|refine zAo ?_|fail)
    try any_goals omega
    all_goals exact⟨hlt⟩
   ·rw[decide_eq_false h0,Bool.false_and]at hcc
    have hr:=ih us false false (by omega) (by omega)
    repeat' (first|(refine aC fun _ _=>?_)|refine zHg ?_|(refine zqd ?_ ?_<;>(intro h;first|(exfalso;omega)|(simp only[h,zT])))|refine aO rfl (hcc) (by simp) ?_|refine bR rfl (hr) rfl (by simp) ?_|(refine(hAA.next (i+1) (by refine Le.trans ?_ (Le.looseRow 900 rfl (by show(0:Nat)≠1;decide));exact(Le.sub4 rfl (by simp[go_sem,hAl,htn,nM,bG]))) (by(try dsimp only);omega) ?_))|simp(disch:=omega) [go_sem,hlt,hti,h0,hAl]|refine zAo ?_|refine zDr 7 aQ ?_|fail)
    try any_goals omega
    all_goals exact⟨hlt⟩
  ·obtain rfl:i=ts.length:=by omega
   rw[List.take_length]
   repeat' (first|(refine aC fun _ _=>?_)|refine zHg ?_|(refine aN [] ?_;simp[go_sem])|simp(disch:=omega) [go_sem])
abbrev bC (n:Int):AObj:=⟨false,false,true,1,[nt .i64 n],0⟩
abbrev bE (m:Mu):AObj:=⟨false,false,true,3,[dA m],0⟩
abbrev bF (C:List ByteArray):AObj:=⟨false,false,true,1,[.list false false (C.map bG)],0⟩
abbrev bK (n:Int) (m:Mu) (C:List ByteArray):aF:= [(1000,bC n),(1001,bE m),(1002,bF C)]
theorem bJ8 (m:Mu) (C:List ByteArray) (n:Int) (k p j:Nat) (hk:n+1=(k:Int)) (hk2:k<=3000000) (hKd:m.index.tdiv C.length=(p:Int)) (hpm:(p:Int)<=9223372036854775807) (hJ:m.index.tmod C.length=(j:Int)) (hj:j<C.length) (s:ByteArray):
 MCall prog 71 [.sc (.string s),.ptr 1000 0 0,.ptr 1001 0 0,.ptr 1002 0 0] (bK n m C) (fun r o'=>r= .sc (.string (if k=p then C[j]else s))/\o'=bK (n+1) m C):=by
 have hn0: ¬(C.length:Int)=0:=by omega
 have hne: ¬C= []:=fun h=>by rw[h]at hj;simp at hj
 have hKK:(n+1=(p:Int))↔k=p:=by omega
 by_cases hq:k=p
 ·rw[if_pos hq]
  refine eW func71 call71 rfl (by simp[ntmps71]) ?_;simp only[ntmps71,results71]
  repeat' (first|(refine aC fun _ _=>?_)|refine zHg ?_|simp(disch:=omega) [go_sem,bK,bC,bE,bF,hKd,hJ,hn0,hne,hKK,hq,hj,bG]|refine zDr 7 aQ ?_|fail)
  try any_goals omega
  refine cV ⟨24,[(5,.sc (.string C[j]))],bK (n+1) m C⟩ [.sc (.string C[j])] (Le.renSub [] [] (by simp[go_sem,bK,bC,bE,bF,bG]) (by simp[go_sem,bK,bC,bE,bF,bG]) (Le.sub4 rfl (by simp[go_sem,bK,bC,bE,bF,bG]))) (by simp[go_sem,bK,bC,bE,bF,bG]) ⟨rfl,rfl⟩
 ·rw[if_neg hq]
  refine eW func71 call71 rfl (by simp[ntmps71]) ?_;simp only[ntmps71,results71]
  repeat' (first|(refine aC fun _ _=>?_)|refine zHg ?_|simp(disch:=omega) [go_sem,bK,bC,bE,bF,hKd,hJ,hn0,hne,hKK,hq,hj,bG]|refine zDr 7 aQ ?_|fail)
  try any_goals omega
  refine cV ⟨24,[(5,.sc (.string s))],bK (n+1) m C⟩ [.sc (.string s)] (Le.renSub [] [] (by simp[go_sem,bK,bC,bE,bF,bG]) (by simp[go_sem,bK,bC,bE,bF,bG]) (Le.sub4 rfl (by simp[go_sem,bK,bC,bE,bF,bG]))) (by simp[go_sem,bK,bC,bE,bF,bG]) ⟨rfl,rfl⟩
theorem aHu (m:Mu) (C:List ByteArray) (p j:Nat) (hKd:m.index.tdiv C.length=(p:Int)) (hpm:(p:Int)<=9223372036854775807) (hJ:m.index.tmod C.length=(j:Int)) (hj:j<C.length): ∀(n:Nat) (ts:List Tm) (le fu:Bool) (e:Int) (k:Nat),bV ts<n->bV ts<=1000000->e+1=(k:Int)->k+bV ts<=2000000->
 MCall prog 102 [.list le fu (ts.map aI),.clo 71 [.ptr 1000 0 0,.ptr 1001 0 0,.ptr 1002 0 0]] (bK e m C) (fun r o'=>r= .list false false ((dR p C[j] k ts).map aI)/\o'=bK (e+(aW ts).length) m C)
 |0,ts,le,fu,e,k,hn,_,_,_=>absurd hn (Nat.not_lt_zero _)
 |n+1,ts,le,fu,e,k,hn,hz,he,hS=>by
  have ih:=aHu m C p j hKd hpm hJ hj n
  have hlen:=nF ts
  have hch:=bJ8 m C
  have key:MCall prog 102 [.list le fu (ts.map aI),.clo 71 [.ptr 1000 0 0,.ptr 1001 0 0,.ptr 1002 0 0]] (bK e m C) (fun r o'=>r= .ref 900 0 ts.length/\o'=(900,⟨true,false,false,2,(dR p C[j] k ts).map aI,0⟩)::bK (e+(aW ts).length) m C):=by
   have hcn:aW []= []:=rfl
   have hrz:dR p C[j] k []= []:=bJ1
   refine eW func102 call102 rfl (by simp[ntmps102]) ?_;simp only[ntmps102,results102]
   skip
   repeat' (first|(refine aC fun _ _=>?_)|refine zHg ?_|simp(disch:=omega) [go_sem,bK,bC,bE,bF])
   refine bS [1,8,9] [1000,900] (fun i:Nat=> [(10,nt .i64 i),(5,.ref 900 0 i)]) (fun i:Nat=> [(1000,bC (e+(aW (ts.take i)).length)),(900,⟨true,false,false,2,(dR p C[j] k (ts.take i)).map aI,0⟩)]) (fun i:Nat=>ts.length - i) (fun i:Nat=>i<=ts.length) (0) (by refine Le.trans ?_ (Le.nil (i:=5) (T:=900) (es:=2) rfl);exact(Le.sub4 rfl (by simp[go_sem,bK,bC,bE,bF,hcn,hrz,List.append_nil,List.take_zero,List.map_nil,List.length_nil]))) ⟨?_⟩ ?_
   ·exact Nat.zero_le _
   intro i hi AA hAA;simp only[kL,Nat.reduceBEq,Nat.reduceEqDiff]
   by_cases hlt:i<ts.length
   ·have hsz:=sS hlt
    have htk:=R6 hlt
    have htl:=R7 ts (i+1)
    have hct:=oD (ts.take i)
    have htn:=fC hlt
    have hcx:aW (ts.take (i+1))=aW (ts.take i)++gP ts[i]:=by
     rw[htn,tJ]
     congr 1
     rw[qM,pE,List.append_nil]
    have hrn:=aHh (K:=p) (c:=C[j]) (k:=k) hlt
    have hrl:(dR p C[j] k (ts.take i)).length=i:=by rw[F7,List.length_take];omega
    have hcc:=W9 ts[i]
    generalize aW (ts.take i)=D at*
    generalize dR p C[j] k (ts.take i)=R at*
    generalize hti:ts[i]=t at*
    obtain⟨s,us⟩:=t
    rw[fB,cK]at hsz htk
    rw[tI]at hcx
    rw[G1]at hcc
    rw[aHf]at hrn
    have hk':e+D.length+1=((k+D.length:Nat):Int):=by omega
    by_cases h0:us.length=0
    ·rw[if_pos h0]at hcx hrn
     rw[decide_eq_true h0,Bool.true_and]at hcc
     obtain rfl:=List.eq_nil_of_length_eq_zero h0
     by_cases hc:fH s=true
     ·rw[if_pos hc]at hcx
      rw[hc]at hcc
      simp only[hc,true_and]at hrn
      have hcl:=hch (e+D.length) (k+D.length) p j hk' (by omega) hKd hpm hJ hj s
      generalize(if k+D.length=p then C[j]else s)=z at*
      repeat' (first|(refine aC fun _ _=>?_)|refine zHg ?_|refine aO rfl (hcc) (by simp) ?_|simp(disch:=omega) [go_sem,hlt,hti,hrl,bK,bC,bE,bF])
      refine bH [] [] 10000 _ _ (Fits.mk' (by simp[go_sem,bK,bC,bE,bF]) (by simp[go_sem,bK,bC,bE,bF])) (by simp[go_sem,bK,bC,bE,bF]) (by simp[go_sem,bK,bC,bE,bF]) (hcl) (by simp[go_sem,bK,bC,bE,bF]) (by simp[go_sem,bK,bC,bE,bF]) ?_
      repeat' (first|(refine aC fun _ _=>?_)|refine zHg ?_|(refine(hAA.next (i+1) (by refine Le.trans ?_ (Le.looseRow 900 rfl (by show(0:Nat)≠1;decide));exact(Le.sub4 rfl (by simp[go_sem,hrl,hcx,hrn,nM,bG,Int.add_assoc]))) (by(try dsimp only);omega) ?_))|simp(disch:=omega) [go_sem,hlt,hti,hrl,bK,bC,bE,bF]|refine zAo ?_|fail)
      try any_goals omega
      all_goals exact⟨hlt⟩
     ·rw[if_neg hc,List.append_nil]at hcx
      simp only[hc,false_and,if_false]at hrn
      rw[Bool.not_eq_true]at hc
      rw[hc]at hcc
      repeat' (first|(refine aC fun _ _=>?_)|refine zHg ?_|refine aO rfl (hcc) (by simp) ?_|(refine(hAA.next (i+1) (by refine Le.trans ?_ (Le.looseRow 900 rfl (by show(0:Nat)≠1;decide));exact(Le.sub4 rfl (by simp[go_sem,hrl,hcx,hrn,nM,bG]))) (by(try dsimp only);omega) ?_))|simp(disch:=omega) [go_sem,hlt,hti,hrl,bK,bC,bE,bF]|refine zAo ?_|fail)
      try any_goals omega
      all_goals exact⟨hlt⟩
    ·rw[if_neg h0]at hcx hrn
     rw[decide_eq_false h0,Bool.false_and]at hcc
     have hcu:=oD us
     have hr:=ih us false false (e+D.length) (k+D.length) (by omega) (by omega) hk' (by omega)
     generalize dR p C[j] (k+D.length) us=W at*
     generalize aW us=V at*
     repeat' (first|(refine aC fun _ _=>?_)|refine zHg ?_|(with_reducible refine dF ?_;first|(exact dC)|(refine zSkip ?_)|(refine dD rfl ?_ ?_))|(with_reducible refine dE ?_;first|(refine zDone ?_)|(refine zQu 0 rfl rfl rfl rfl ?_)|(refine zQu 1 rfl rfl rfl rfl ?_)|(refine zQu 2 rfl rfl rfl rfl ?_)|(refine zQu 3 rfl rfl rfl rfl ?_)|(refine zQu 4 rfl rfl rfl rfl ?_)|(refine zAll ?_;show cO _ _ _ _ _ _ _))|with_reducible refine dH ?_|(refine zqd ?_ ?_<;>(intro h;first|(exfalso;omega)|(simp only[h,zT])))|refine aO rfl (hcc) (by simp) ?_|simp(disch:=omega) [go_sem,hlt,hti,h0,hrl,bK,bC,bE,bF]|refine zAny aQ ?_|fail)
     all_goals refine bH [] [] 10000 _ _ (Fits.mk' (by simp[go_sem,bK,bC,bE,bF]) (by simp[go_sem,bK,bC,bE,bF])) (by simp[go_sem,bK,bC,bE,bF]) (by simp[go_sem,bK,bC,bE,bF]) (hr) (by simp[go_sem,bK,bC,bE,bF]) (by simp[go_sem,bK,bC,bE,bF]) ?_
     all_goals repeat' (first|(refine aC fun _ _=>?_)|refine zHg ?_|(with_reducible refine dF ?_;first|(exact dC)|(refine zSkip ?_)|(refine dD rfl ?_ ?_))|(with_reducible refine dE ?_;first|(refine zDone ?_)|(refine zQu 0 rfl rfl rfl rfl ?_)|(refine zQu 1 rfl rfl rfl rfl ?_)|(refine zQu 2 rfl rfl rfl rfl ?_)|(refine zQu 3 rfl rfl rfl rfl ?_)|(refine zQu 4 rfl rfl rfl rfl ?_)|(refine zAll ?_;show cO _ _ _ _ _ _ _))|with_reducible refine dH ?_|(refine(hAA.next (i+1) (by refine Le.trans ?_ (Le.looseRow 900 rfl (by show(0:Nat)≠1;decide));exact(Le.sub4 rfl (by simp[go_sem,hrl,hcx,hrn,nM,bG,Int.add_assoc]))) (by(try dsimp only);omega) ?_))|simp(disch:=omega) [go_sem,hlt,hti,h0,hrl,bK,bC,bE,bF]|refine zAo ?_|fail)
     try any_goals omega
     all_goals exact⟨hlt⟩
   ·obtain rfl:i=ts.length:=by omega
    rw[List.take_length]
    repeat' (first|(refine aC fun _ _=>?_)|refine zHg ?_|simp(disch:=omega) [go_sem,bK,bC,bE,bF])
    refine cV ⟨40,[(4,.ref 900 0 ts.length)],(900,⟨true,false,false,2,(dR p C[j] k ts).map aI,0⟩)::bK (e+(aW ts).length) m C⟩ [.ref 900 0 ts.length] (Le.renSub [] [] (by simp[go_sem,bK,bC,bE,bF]) (by simp[go_sem,bK,bC,bE,bF]) (Le.sub4 rfl (by simp[go_sem,bK,bC,bE,bF]))) (by simp[go_sem,bK,bC,bE,bF]) ⟨rfl,rfl⟩
  have hrl:(dR p C[j] k ts).length=ts.length:=F7
  refine key.shared (s':=?_) (y:= .list false false ((dR p C[j] k ts).map aI)) (by simp[go_sem,bY,hrl];rfl) (by simp[go_sem]) (by simp[go_sem]) (by simp[go_sem])
theorem bJ9 {L lo n:Nat}:Ab.loose1 (.ref L lo n)= .ref L lo n:=rfl
attribute [go_sem] bJ9
structure SzM (r:Rl):Prop where
 head:bV r.head.args<=20
 body:r.body.length<=8
 atom: ∀b∈r.body,bV b.atom.args<=20
theorem aHv (r:Rl) (hz:SzM r):
 MCall prog 60 [bX r,.clo 69 []] []
  (fun v o'=>v= .agg [.sc (.string r.head.name),.list false false (r.head.args.map aI),if r.body.length=0 then .list false true []else .ref 900 0 r.body.length]/\
   o'=(4,⟨false,false,false,3,[.agg [.sc (.string r.head.name),.list false false (r.head.args.map aI),if r.body.length=0 then .list false true []else .ref 900 0 r.body.length]],0⟩)::(if r.body.length=0 then[]else[(900,⟨true,false,false,3,r.body.map bP,0⟩)])):=by
 obtain⟨h,bs⟩:=r
 obtain⟨hz1,hz2,hz3⟩:=hz
 dsimp only at*
 have h1:=X1 _ h.args false false (Nat.lt_succ_self _) (by omega)
 have ih2: ∀(i:Nat) (hi:i<bs.length),ACall prog 102 [.list false false (bs[i].atom.args.map aI),.clo 69 []] (fun r=>r= .list false false (bs[i].atom.args.map aI)):=fun i hi=>X1 _ _ false false (Nat.lt_succ_self _) (Nat.le_trans (hz3 _ (List.getElem_mem hi)) (by decide))
 refine eW func60 call60 rfl (by simp[ntmps60]) ?_;simp only[ntmps60,results60]
 repeat' (first|(refine aC fun _ _=>?_)|refine zHg ?_|refine bR rfl (h1) rfl (by simp) ?_|simp(disch:=omega) [go_sem]|refine zDr 11 aQ ?_|fail)
 refine bS [1,4,19,20] [5,900] (fun y:Nat×List Lt=> [(21,nt .i64 y.1),(5,.ptr 5 0 0)]) (fun y:Nat×List Lt=>(5,⟨false,false,false,3,[.agg [.sc (.string h.name),.list false false (h.args.map aI),if y.2.length=0 then .list false true []else .ref 900 0 y.2.length]],0⟩)::(if y.2.length=0 then[]else[(900,⟨true,false,false,3,y.2.map bP,0⟩)])) (fun y:Nat×List Lt=>bs.length - y.1) (fun y:Nat×List Lt=>y.1<=bs.length/\y.2.length=y.1/\y.2++bs.drop y.1=bs) ((0,[])) (Le.sub4 rfl (by simp[go_sem])) ⟨?_⟩ ?_
 ·exact⟨Nat.zero_le _,rfl,rfl⟩
 intro⟨i,a⟩ ⟨hi,ha,hinv⟩ AA hAA;simp only[kL,Nat.reduceBEq,Nat.reduceEqDiff]
 dsimp only at*
 by_cases hlt:i<bs.length
 ·have hu:=ih2 i hlt
  rw[List.drop_eq_getElem_cons hlt]at hinv
  clear ih2
  generalize hbi:bs[i]=b at*
  obtain⟨q,⟨s,us⟩⟩:=b
  dsimp only[cK,nY]at*
  by_cases h0:i=0
  ·subst h0
   obtain rfl:=List.eq_nil_of_length_eq_zero ha
   repeat' (first|(refine aC fun _ _=>?_)|refine zHg ?_|refine bR rfl (hu) rfl (by simp) ?_|(refine(hAA.next ((0+1,[⟨q,.mk s us⟩])) (Le.renSub [(40,900)] [(900,40)] (by simp[go_sem]) (by simp[go_sem]) (Le.sub4 rfl (by simp[go_sem]))) (by(try dsimp only);omega) ?_))|simp(disch:=omega) [go_sem,hlt,hbi]|refine zDr 14 aQ ?_|fail)
   try any_goals omega
   all_goals exact⟨hlt,rfl,hinv⟩
  ·repeat' (first|(refine aC fun _ _=>?_)|refine zHg ?_|refine bR rfl (hu) rfl (by simp) ?_|(refine(hAA.next ((i+1,a++ [⟨q,.mk s us⟩])) (Le.sub4 rfl (by simp[go_sem,ha])) (by(try dsimp only);omega) ?_))|simp(disch:=omega) [go_sem,hlt,hbi,h0,ha]|refine zAo ?_|refine zDr 14 aQ ?_|fail)
   try any_goals omega
   all_goals exact⟨hlt,by simp[ha],by rw[List.append_assoc];exact hinv⟩
 ·obtain rfl:i=bs.length:=by omega
  rw[List.drop_length,List.append_nil]at hinv
  subst hinv
  clear ih2
  by_cases h0:a.length=0
  ·obtain rfl:=List.eq_nil_of_length_eq_zero h0
   repeat' (first|(refine aC fun _ _=>?_)|refine zHg ?_|simp(disch:=omega) [go_sem])
   refine cV ⟨44,[(4,.ptr 4 0 0)],(4,⟨false,false,false,3,[.agg [.sc (.string h.name),.list false false (h.args.map aI),.list false true []]],0⟩):: []⟩ [.agg [.sc (.string h.name),.list false false (h.args.map aI),.list false true []]] (Le.renSub [] [] (by simp[go_sem]) (by simp[go_sem]) (Le.sub4 rfl (by simp[go_sem]))) (by simp[go_sem]) ⟨rfl,rfl⟩
  ·repeat' (first|(refine aC fun _ _=>?_)|refine zHg ?_|simp(disch:=omega) [go_sem,h0])
   refine cV ⟨44,[(4,.ptr 4 0 0)],(4,⟨false,false,false,3,[.agg [.sc (.string h.name),.list false false (h.args.map aI),.ref 900 0 a.length]],0⟩):: [(900,⟨true,false,false,3,a.map bP,0⟩)]⟩ [.agg [.sc (.string h.name),.list false false (h.args.map aI),.ref 900 0 a.length]] (Le.renSub [] [] (by simp[go_sem]) (by simp[go_sem]) (Le.sub4 rfl (by simp[go_sem]))) (by simp[go_sem]) ⟨rfl,rfl⟩
theorem bKa (r:Rl) (hz:SzM r):ACall prog 33 [bX r] (fun v=>v=bX r):=by
 have key:=aHv r hz
 by_cases h0:r.body.length=0
 ·obtain⟨h,bs⟩:=r
  obtain rfl:=List.eq_nil_of_length_eq_zero h0
  simp only[List.length_nil,if_true]at key
  have k2:=key.loose (o1:= []) (by simp[go_sem]) (by simp[go_sem]) (by simp[go_sem])
  clear key
  simp only[go_sem]at k2
  refine aU func33 call33 rfl (by simp[ntmps33]) ?_;simp only[ntmps33,results33]
  repeat' (first|(refine aC fun _ _=>?_)|refine zHg ?_|simp(disch:=omega) [go_sem])
  refine bH [] [] 10000 _ _ (Fits.mk' (by simp[go_sem]) (by simp[go_sem])) (by simp[go_sem]) (by simp[go_sem]) (k2) (by simp[go_sem]) (by simp[go_sem]) ?_
  repeat' (first|(refine aC fun _ _=>?_)|refine zHg ?_|(refine aN [] ?_;simp[go_sem])|simp(disch:=omega) [go_sem])
 ·simp only[h0,if_false]at key
  have k2:MCall prog 60 [bX r,.clo 69 []] [] (fun v o'=>v=bX r/\o'= []):=by
   refine key.shared (s':=?_) (y:= .agg [.sc (.string r.head.name),.list false false (r.head.args.map aI),.list false false (r.body.map bP)]) (by simp[go_sem,bY];rfl) (by simp[go_sem]) (by simp[go_sem]) (by simp[go_sem])
  clear key
  refine aU func33 call33 rfl (by simp[ntmps33]) ?_;simp only[ntmps33,results33]
  repeat' (first|(refine aC fun _ _=>?_)|refine zHg ?_|simp(disch:=omega) [go_sem])
  refine bH [] [] 10000 _ _ (Fits.mk' (by simp[go_sem]) (by simp[go_sem])) (by simp[go_sem]) (by simp[go_sem]) (k2) (by simp[go_sem]) (by simp[go_sem]) ?_
  repeat' (first|(refine aC fun _ _=>?_)|refine zHg ?_|(refine aN [] ?_;simp[go_sem])|simp(disch:=omega) [go_sem])
theorem bKb (r:Rl) (hz:SzM r) (h0: ¬r.body.length=0):MCall prog 33 [bX r] [] (fun v o'=>v= .agg [.sc (.string r.head.name),.list false false (r.head.args.map aI),.ref 900 0 r.body.length]/\o'= [(900,⟨true,false,false,3,r.body.map bP,0⟩)]):=by
 have key:=aHv r hz
 simp only[h0,if_false]at key
 have k2:=key.loose (o1:= [(900,⟨true,false,false,3,r.body.map bP,0⟩)]) (by simp[go_sem]) (by simp[go_sem]) (by simp[go_sem])
 clear key
 simp only[go_sem]at k2
 have k3:=MCall.loose (o1:= [(900,⟨true,false,false,3,r.body.map bP,0⟩)]) (f:=33) (P:=prog) (args:= [bX r]) (o:= []) (x:= .agg [.sc (.string r.head.name),.list false false (r.head.args.map aI),.ref 900 0 r.body.length]) (o2:=(2,⟨false,false,false,3,[.agg [.sc (.string r.head.name),.list false false (r.head.args.map aI),.ref 900 0 r.body.length]],0⟩):: [(900,⟨true,false,false,3,r.body.map bP,0⟩)]) (by
  refine eW func33 call33 rfl (by simp[ntmps33]) ?_;simp only[ntmps33,results33]
  repeat' (first|(refine aC fun _ _=>?_)|refine zHg ?_|simp(disch:=omega) [go_sem])
  refine bH [] [] 10000 _ _ (Fits.mk' (by simp[go_sem]) (by simp[go_sem])) (by simp[go_sem]) (by simp[go_sem]) (k2) (by simp[go_sem]) (by simp[go_sem]) ?_
  repeat' (first|(refine aC fun _ _=>?_)|refine zHg ?_|simp(disch:=omega) [go_sem])
  refine cV ⟨5,[(2,.ptr 2 0 0)],(2,⟨false,false,false,3,[.agg [.sc (.string r.head.name),.list false false (r.head.args.map aI),.ref 900 0 r.body.length]],0⟩):: [(900,⟨true,false,false,3,r.body.map bP,0⟩)]⟩ [.agg [.sc (.string r.head.name),.list false false (r.head.args.map aI),.ref 900 0 r.body.length]] (Le.renSub [(10900,900)] [(900,10900)] (by simp[go_sem]) (by simp[go_sem]) (Le.sub4 rfl (by simp[go_sem]))) (by simp[go_sem]) ⟨rfl,rfl⟩) (by simp[go_sem]) (by simp[go_sem]) (by simp[go_sem])
 simp only[go_sem]at k3
 exact k3
theorem bKc (x y:ByteArray):ACall prog 28 [.sc (.string x),.sc (.string y)] (fun r=>r=nt .i64 (iW x y)):=by
 have h:=fun a b c d=>bH1 x y a b c d
 unfold iW
 generalize cJ (.mk x []) (.mk y [])=c at*
 refine aU func28 call28 rfl (by simp[ntmps28]) ?_;simp only[ntmps28,results28]
 repeat' (first|(refine aC fun _ _=>?_)|refine zHg ?_|(refine aN [] ?_;simp[go_sem])|refine aO rfl (h _ _ _ _) (by simp) ?_|simp(disch:=omega) [go_sem])
theorem bKd (t:Tm):ACall prog 57 [eT t] (fun r=>r=bl (kA t)):=by
 obtain⟨s,ts⟩:=t
 unfold kA
 rw[cK]
 by_cases h2:2<=ts.length
 ·rw[decide_eq_true h2,Bool.true_and]
  match ts,h2 with
  |a::b::r,h2=>
   have hc:=aFo a b
   have e1:(a::b::r).getD 0 zT=a:=rfl
   have e2:(a::b::r).getD 1 zT=b:=rfl
   rw[e1,e2]
   generalize cJ a b=c at*
   refine aU func57 call57 rfl (by simp[ntmps57]) ?_;simp only[ntmps57,results57]
   repeat' (first|(refine aC fun _ _=>?_)|refine zHg ?_|(refine zdd ?_ ?_<;>(intro h;first|(exfalso;omega)|(simp only[h,zT])))|(refine aN [] ?_;simp[go_sem])|refine bR rfl (hc) rfl (by simp) ?_|simp(disch:=omega) [go_sem]|refine zAo ?_|refine zDr 17 aQ ?_|fail)
 ·rw[decide_eq_false h2,Bool.false_and]
  have h2': ¬(2:Int)<=ts.length:=by omega
  refine aU func57 call57 rfl (by simp[ntmps57]) ?_;simp only[ntmps57,results57]
  repeat' (first|(refine aC fun _ _=>?_)|refine zHg ?_|(refine aN [] ?_;simp[go_sem,h2'])|simp(disch:=omega) [go_sem,h2']|refine zDr 17 aQ ?_|fail)
theorem bKe (l:List Tm) (le fu:Bool) (h0:0<l.length) (hl:l.length<=1000000):ACall prog 120 [.list le fu (l.map aI)] (fun r=>r= .own 2 (l.map aI)):=by
 match l,h0 with
 |a::r,h0=>
  rw[List.length_cons]at hl
  refine aU func120 call120 rfl (by simp[ntmps120]) ?_;simp only[ntmps120,results120]
  repeat' (first|(refine aC fun _ _=>?_)|refine zHg ?_|(refine aN [] ?_;simp[go_sem])|simp(disch:=omega) [go_sem]|refine zAo ?_|fail)
  try any_goals omega
theorem aHw (t:Tm) (h2:2<=t.args.length) (hl:t.args.length<=1000000):ACall prog 72 [eT t] (fun r=>r=eT (pF t)):=by
 obtain⟨s,ts⟩:=t
 rw[cK]at h2 hl
 match ts,h2 with
 |a::b::r,h2=>
  have hc:=bKe (a::b::r) false false (by simp) hl
  simp only[List.map_cons,rM]at hc
  have e:pF (.mk s (a::b::r))= .mk s (b::a::r):=rfl
  rw[e]
  have key:ACall prog 72 [eT (.mk s (a::b::r))] (fun v=>v= .agg [.sc (.string s),.list false false (eT b::eT a::r.map aI)]):=by
   refine aU func72 call72 rfl (by simp[ntmps72]) ?_;simp only[ntmps72,results72]
   repeat' (first|((fail_if_success (refine rK ?_));refine jF (fun K hK=>?_))|refine zHg ?_|refine aO rfl (hc) (by simp) ?_|simp(disch:=omega) [go_sem])
   try any_goals omega
   (try refine jF (fun K hK=>?_));refine rI (Le.frzP 1 rfl (by intro h;cases h)) ?_
   repeat' (first|(refine aC fun _ _=>?_)|refine zHg ?_|(with_reducible refine dF ?_;first|(exact dC)|(refine zSkip ?_)|(refine dD rfl ?_ ?_))|(with_reducible refine dE ?_;first|(refine zDone ?_)|(refine zQu 0 rfl rfl rfl rfl ?_)|(refine zQu 1 rfl rfl rfl rfl ?_)|(refine zQu 2 rfl rfl rfl rfl ?_)|(refine zQu 3 rfl rfl rfl rfl ?_)|(refine zQu 4 rfl rfl rfl rfl ?_)|(refine zQu 5 rfl rfl rfl rfl ?_)|(refine zQu 6 rfl rfl rfl rfl ?_)|(refine zQu 7 rfl rfl rfl rfl ?_)|(refine zQu 8 rfl rfl rfl rfl ?_)|(refine zQu 9 rfl rfl rfl rfl ?_)|(refine zQu 10 rfl rfl rfl rfl ?_)|(refine zQu 11 rfl rfl rfl rfl ?_)|(refine zQu 12 rfl rfl rfl rfl ?_)|(refine zQu 14 rfl rfl rfl rfl ?_)|(refine zAll ?_;show cO _ _ _ _ _ _ _))|with_reducible refine dH ?_|(refine aN [] ?_;simp[go_sem])|simp(disch:=omega) [go_sem]|refine zAo ?_|refine zAny aQ ?_|fail)
   try any_goals omega
  have k2:=key.loose rfl
  have e2:Ab.loose (.agg [.sc (.string s),.list false false (eT b::eT a::r.map aI)])=eT (.mk s (b::a::r)):=by
   rw[<-rM a,<-rM b];rfl
  rw[e2]at k2
  exact k2
def gI (h:Tm) (bs:List Lt) (i:Nat):List ByteArray:=aW h.args++cZ (bs.take i)
theorem X2 (h:Tm) (bs:List Lt):gI h bs 0=aW h.args:=by simp[gI,cZ]
theorem X3 (h:Tm) (bs:List Lt):gI h bs bs.length=dS ⟨h,bs⟩:=by unfold gI dS;rw[List.take_length]
theorem X4 {h:Tm} {bs:List Lt} {i:Nat} (hi:i<bs.length):gI h bs (i+1)=gI h bs i++aW bs[i].atom.args:=by
 unfold gI
 rw[aHj hi,List.append_assoc]
theorem G3 {h:Tm} {bs:List Lt} (hz:SzM ⟨h,bs⟩): ∀i,i<=bs.length->(gI h bs i).length<=20+i*20
 |0,_=>by
  rw[X2]
  have:=oD h.args
  have:=hz.head
  dsimp only at this
  omega
 |i+1,hi=>by
  rw[X4 (by omega),List.length_append]
  have:=G3 hz i (by omega)
  have:=oD bs[i].atom.args
  have hil:i<bs.length:=by omega
  have:=hz.atom bs[i] (List.getElem_mem hil)
  have e:(i+1)*20=i*20+20:=by omega
  omega
theorem rS {r:Rl} (hz:SzM r):(dS r).length<=180:=by
 obtain⟨h,bs⟩:=r
 have:=G3 hz bs.length (Nat.le_refl _)
 rw[X3]at this
 have:=hz.body
 dsimp only at this
 omega
theorem bKf (r:Rl) (hz:SzM r):
 MCall prog 60 [bX r,.clo 61 [.ptr 1000 0 0]] yE
  (fun v o'=>v= .agg [.sc (.string r.head.name),.list false false (r.head.args.map aI),if r.body.length=0 then .list false true []else .ref 900 0 r.body.length]/\
   o'=(4,⟨false,false,false,3,[.agg [.sc (.string r.head.name),.list false false (r.head.args.map aI),if r.body.length=0 then .list false true []else .ref 900 0 r.body.length]],0⟩)::(1000,bD (dS r).length)::(1001,bI (dS r))::(if r.body.length=0 then[]else[(900,⟨true,false,false,3,r.body.map bP,0⟩)])):=by
 have hsz:=rS hz
 have hle:=G3 (h:=r.head) (bs:=r.body) hz
 obtain⟨h,bs⟩:=r
 obtain⟨hz1,hz2,hz3⟩:=hz
 dsimp only at*
 have hnx:=fun i (hi:i<bs.length)=>X4 (h:=h) hi
 have hn0:=X2 h bs
 have hna:=X3 h bs
 have h1:=X0 _ h.args false false yE [] (Nat.lt_succ_self _) (by omega) (by(try simp);omega) (.inr ⟨rfl,rfl⟩)
 rw[List.nil_append]at h1
 have ih2: ∀(i:Nat) (hi:i<bs.length) (S:List ByteArray),S.length<=1000000->MCall prog 102 [.list false false (bs[i].atom.args.map aI),.clo 61 [.ptr 1000 0 0]] (fF S) (fun r o'=>r= .list false false (bs[i].atom.args.map aI)/\o'=eU (S++aW bs[i].atom.args)):=fun i hi S hS=>X0 _ _ false false _ S (Nat.lt_succ_self _) (Nat.le_trans (hz3 _ (List.getElem_mem hi)) (by decide)) (by have:=hz3 _ (List.getElem_mem hi);omega) (.inl ⟨rfl,trivial⟩)
 refine eW func60 call60 rfl (by simp[ntmps60]) ?_;simp only[ntmps60,results60]
 skip
 repeat' (first|((fail_if_success (refine rK ?_));refine jF (fun K hK=>?_))|refine zHg ?_|simp(disch:=omega) [go_sem,bD,bI])
 refine aEe ⟨44,[(1,.clo 61 [.ptr 1000 0 0]),(2,.ptr 2 0 0),(4,.ptr 4 0 0),(5,.ptr 5 0 0)],(5,⟨false,false,false,3,[.agg [.sc (.string h.name),.list false false (h.args.map aI),.list false true []]],0⟩)::(4,⟨false,false,false,3,[.agg [.sc (.string ⟨#[]⟩),.list false true [],.list false true []]],0⟩)::(2,⟨false,true,false,3,[bX ⟨h,bs⟩],0⟩)::(1000,bD (gI h bs 0).length)::(1001,bI (gI h bs 0)):: []⟩ (fun K hK=>?_) ?_
 ·(try refine jF (fun K hK=>?_));refine rI (s0:=⟨44,[(1,.clo 61 [.ptr 1000 0 0]),(2,.ptr 2 0 0),(4,.ptr 4 0 0)],(2,⟨false,true,false,3,[bX ⟨h,bs⟩],0⟩)::(4,⟨false,false,false,3,[.agg [.sc (.string ⟨#[]⟩),.list false true [],.list false true []]],0⟩)::yE⟩) (by refine Le.trans ?_ (Le.frzP 2 rfl (by intro h;cases h));exact(Le.sub4 rfl (by simp[go_sem]))) ?_
  repeat' (first|(refine aC fun _ _=>?_)|refine zHg ?_|(with_reducible refine dF ?_;first|(exact dC)|(refine zSkip ?_)|(refine dD rfl ?_ ?_))|(with_reducible refine dE ?_;first|(refine zDone ?_)|(refine zQu 0 rfl rfl rfl rfl ?_)|(refine zQu 1 rfl rfl rfl rfl ?_)|(refine zQu 2 rfl rfl rfl rfl ?_)|(refine zQu 3 rfl rfl rfl rfl ?_)|(refine zQu 4 rfl rfl rfl rfl ?_)|(refine zQu 5 rfl rfl rfl rfl ?_)|(refine zQu 6 rfl rfl rfl rfl ?_)|(refine zQu 7 rfl rfl rfl rfl ?_)|(refine zQu 8 rfl rfl rfl rfl ?_)|(refine zQu 9 rfl rfl rfl rfl ?_)|(refine zQu 10 rfl rfl rfl rfl ?_)|(refine zQu 16 rfl rfl rfl rfl ?_)|(refine zAll ?_;show cO _ _ _ _ _ _ _))|with_reducible refine dH ?_|simp(disch:=omega) [go_sem,bD,bI]|refine zAny aQ ?_|fail)
  all_goals refine bH [] [] 10000 _ _ (Fits.mk' (by simp[go_sem,eU,bD,bI]) (by simp[go_sem,eU,bD,bI])) (by simp[go_sem,eU,bD,bI]) (by simp[go_sem,eU,bD,bI]) (h1) (by simp[go_sem,eU,bD,bI]) (by simp[go_sem,eU,bD,bI]) ?_
  all_goals repeat' (first|(refine aC fun _ _=>?_)|refine zHg ?_|(with_reducible refine dF ?_;first|(exact dC)|(refine zSkip ?_)|(refine dD rfl ?_ ?_))|(with_reducible refine dE ?_;first|(refine zDone ?_)|(refine zQu 0 rfl rfl rfl rfl ?_)|(refine zQu 1 rfl rfl rfl rfl ?_)|(refine zQu 2 rfl rfl rfl rfl ?_)|(refine zQu 3 rfl rfl rfl rfl ?_)|(refine zQu 4 rfl rfl rfl rfl ?_)|(refine zQu 5 rfl rfl rfl rfl ?_)|(refine zQu 6 rfl rfl rfl rfl ?_)|(refine zQu 7 rfl rfl rfl rfl ?_)|(refine zQu 8 rfl rfl rfl rfl ?_)|(refine zQu 9 rfl rfl rfl rfl ?_)|(refine zQu 10 rfl rfl rfl rfl ?_)|(refine zQu 16 rfl rfl rfl rfl ?_)|(refine zAll ?_;show cO _ _ _ _ _ _ _))|with_reducible refine dH ?_|refine(hK _ (Le.renSub [(11001,1001),(1001,11001)] [(11001,1001),(1001,11001)] (by simp[go_sem,hn0]) (by simp[go_sem,hn0]) (Le.sub4 rfl (by simp[go_sem,hn0]))))|simp(disch:=omega) [go_sem,bD,bI])
 repeat' (first|(refine aC fun _ _=>?_)|refine zHg ?_|simp(disch:=omega) [go_sem,bD,bI])
 refine bS [1,4,5,19,20] [5,900,1000,1001,2] (fun y:Nat×List Lt=> [(21,nt .i64 y.1)]) (fun y:Nat×List Lt=>(5,⟨false,false,false,3,[.agg [.sc (.string h.name),.list false false (h.args.map aI),if y.2.length=0 then .list false true []else .ref 900 0 y.2.length]],0⟩)::(1000,bD (gI h bs y.1).length)::(1001,bI (gI h bs y.1))::(if y.2.length=0 then[]else[(900,⟨true,false,false,3,y.2.map bP,0⟩)])) (fun y:Nat×List Lt=>bs.length - y.1) (fun y:Nat×List Lt=>y.1<=bs.length/\y.2.length=y.1/\y.2++bs.drop y.1=bs) ((0,[])) (Le.sub4 rfl (by simp[go_sem,bD,bI])) ⟨?_⟩ ?_
 ·exact⟨Nat.zero_le _,rfl,rfl⟩
 intro⟨i,a⟩ ⟨hi,ha,hinv⟩ AA hAA;simp only[kL,Nat.reduceBEq,Nat.reduceEqDiff]
 dsimp only at*
 by_cases hlt:i<bs.length
 ·have hu:=ih2 i hlt (gI h bs i) (by have:=hle i hi;omega)
  have hcn:=hnx i hlt
  rw[List.drop_eq_getElem_cons hlt]at hinv
  clear ih2 hnx hn0 hna hle hsz
  generalize gI h bs i=S at*
  generalize hbi:bs[i]=b at*
  obtain⟨q,⟨s,us⟩⟩:=b
  dsimp only[cK,nY]at*
  rw[G2]at hu
  generalize aW us=V at*
  by_cases h0:i=0
  ·subst h0
   obtain rfl:=List.eq_nil_of_length_eq_zero ha
   repeat' (first|((fail_if_success (refine rK ?_));refine jF (fun K hK=>?_))|refine zHg ?_|simp(disch:=omega) [go_sem,hlt,hbi,bD,bI])
   (try refine jF (fun K hK=>?_));refine rI (s0:=⟨44,[(1,.clo 61 [.ptr 1000 0 0]),(4,.ptr 4 0 0),(5,.ptr 5 0 0),(7,.ptr 7 0 0),(19,.list false false (bs.map bP)),(20,nt .i64 bs.length),(21,nt .i64 0)],(5,⟨false,false,false,3,[.agg [.sc (.string h.name),.list false false (h.args.map aI),.list false true []]],0⟩)::(7,⟨false,true,false,3,[bP ⟨q,.mk s us⟩],0⟩)::(1000,bD S.length)::(1001,bI S)::(4,⟨false,false,false,3,[.agg [.sc (.string ⟨#[]⟩),.list false true [],.list false true []]],0⟩):: []⟩) (by refine Le.trans ?_ (Le.frzP 7 rfl (by intro h;cases h));exact(Le.sub4 rfl (by simp[go_sem,bD,bI,ha]))) ?_
   repeat' (first|(refine aC fun _ _=>?_)|refine zHg ?_|(with_reducible refine dF ?_;first|(exact dC)|(refine zSkip ?_)|(refine dD rfl ?_ ?_))|(with_reducible refine dE ?_;first|(refine zDone ?_)|(refine zQu 0 rfl rfl rfl rfl ?_)|(refine zQu 1 rfl rfl rfl rfl ?_)|(refine zQu 2 rfl rfl rfl rfl ?_)|(refine zQu 3 rfl rfl rfl rfl ?_)|(refine zQu 4 rfl rfl rfl rfl ?_)|(refine zQu 5 rfl rfl rfl rfl ?_)|(refine zQu 6 rfl rfl rfl rfl ?_)|(refine zQu 7 rfl rfl rfl rfl ?_)|(refine zQu 8 rfl rfl rfl rfl ?_)|(refine zQu 9 rfl rfl rfl rfl ?_)|(refine zQu 10 rfl rfl rfl rfl ?_)|(refine zQu 16 rfl rfl rfl rfl ?_)|(refine zAll ?_;show cO _ _ _ _ _ _ _))|with_reducible refine dH ?_|simp(disch:=omega) [go_sem,hlt,hbi,bD,bI]|refine zAny aQ ?_|fail)
   all_goals refine bH [] [] 10000 _ _ (Fits.mk' (by simp[go_sem,fF,bD,bI]) (by simp[go_sem,fF,bD,bI])) (by simp[go_sem,fF,bD,bI]) (by simp[go_sem,fF,bD,bI]) (hu) (by simp[go_sem,fF,bD,bI]) (by simp[go_sem,fF,bD,bI]) ?_
   all_goals repeat' (first|(refine aC fun _ _=>?_)|refine zHg ?_|(with_reducible refine dF ?_;first|(exact dC)|(refine zSkip ?_)|(refine dD rfl ?_ ?_))|(with_reducible refine dE ?_;first|(refine zDone ?_)|(refine zQu 0 rfl rfl rfl rfl ?_)|(refine zQu 1 rfl rfl rfl rfl ?_)|(refine zQu 2 rfl rfl rfl rfl ?_)|(refine zQu 3 rfl rfl rfl rfl ?_)|(refine zQu 4 rfl rfl rfl rfl ?_)|(refine zQu 5 rfl rfl rfl rfl ?_)|(refine zQu 6 rfl rfl rfl rfl ?_)|(refine zQu 7 rfl rfl rfl rfl ?_)|(refine zQu 8 rfl rfl rfl rfl ?_)|(refine zQu 9 rfl rfl rfl rfl ?_)|(refine zQu 10 rfl rfl rfl rfl ?_)|(refine zQu 16 rfl rfl rfl rfl ?_)|(refine zAll ?_;show cO _ _ _ _ _ _ _))|with_reducible refine dH ?_|(refine(hAA.next ((0+1,[⟨q,.mk s us⟩])) (Le.renSub [(40,900),(11001,1001),(1001,11001)] [(900,40),(11001,1001),(1001,11001)] (by simp[go_sem,hcn]) (by simp[go_sem,hcn]) (Le.sub4 rfl (by simp[go_sem,hcn]))) (by(try dsimp only);omega) ?_))|simp(disch:=omega) [go_sem,hlt,hbi,bD,bI])
   try any_goals omega
   all_goals exact⟨hlt,rfl,hinv⟩
  ·repeat' (first|((fail_if_success (refine rK ?_));refine jF (fun K hK=>?_))|refine zHg ?_|simp(disch:=omega) [go_sem,hlt,hbi,h0,ha,bD,bI])
   (try refine jF (fun K hK=>?_));refine rI (s0:=⟨44,[(1,.clo 61 [.ptr 1000 0 0]),(4,.ptr 4 0 0),(5,.ptr 5 0 0),(7,.ptr 7 0 0),(19,.list false false (bs.map bP)),(20,nt .i64 bs.length),(21,nt .i64 i)],(5,⟨false,false,false,3,[.agg [.sc (.string h.name),.list false false (h.args.map aI),.ref 900 0 a.length]],0⟩)::(7,⟨false,true,false,3,[bP ⟨q,.mk s us⟩],0⟩)::(1000,bD S.length)::(1001,bI S)::(4,⟨false,false,false,3,[.agg [.sc (.string ⟨#[]⟩),.list false true [],.list false true []]],0⟩):: [(900,⟨true,false,false,3,a.map bP,0⟩)]⟩) (by refine Le.trans ?_ (Le.frzP 7 rfl (by intro h;cases h));exact(Le.sub4 rfl (by simp[go_sem,bD,bI,ha]))) ?_
   repeat' (first|(refine aC fun _ _=>?_)|refine zHg ?_|(with_reducible refine dF ?_;first|(exact dC)|(refine zSkip ?_)|(refine dD rfl ?_ ?_))|(with_reducible refine dE ?_;first|(refine zDone ?_)|(refine zQu 0 rfl rfl rfl rfl ?_)|(refine zQu 1 rfl rfl rfl rfl ?_)|(refine zQu 2 rfl rfl rfl rfl ?_)|(refine zQu 3 rfl rfl rfl rfl ?_)|(refine zQu 4 rfl rfl rfl rfl ?_)|(refine zQu 5 rfl rfl rfl rfl ?_)|(refine zQu 6 rfl rfl rfl rfl ?_)|(refine zQu 7 rfl rfl rfl rfl ?_)|(refine zQu 8 rfl rfl rfl rfl ?_)|(refine zQu 9 rfl rfl rfl rfl ?_)|(refine zQu 10 rfl rfl rfl rfl ?_)|(refine zQu 16 rfl rfl rfl rfl ?_)|(refine zAll ?_;show cO _ _ _ _ _ _ _))|with_reducible refine dH ?_|simp(disch:=omega) [go_sem,hlt,hbi,h0,ha,bD,bI]|refine zAny aQ ?_|fail)
   all_goals refine bH [] [] 10000 _ _ (Fits.mk' (by simp[go_sem,fF,bD,bI]) (by simp[go_sem,fF,bD,bI])) (by simp[go_sem,fF,bD,bI]) (by simp[go_sem,fF,bD,bI]) (hu) (by simp[go_sem,fF,bD,bI]) (by simp[go_sem,fF,bD,bI]) ?_
   all_goals repeat' (first|(refine aC fun _ _=>?_)|refine zHg ?_|(with_reducible refine dF ?_;first|(exact dC)|(refine zSkip ?_)|(refine dD rfl ?_ ?_))|(with_reducible refine dE ?_;first|(refine zDone ?_)|(refine zQu 0 rfl rfl rfl rfl ?_)|(refine zQu 1 rfl rfl rfl rfl ?_)|(refine zQu 2 rfl rfl rfl rfl ?_)|(refine zQu 3 rfl rfl rfl rfl ?_)|(refine zQu 4 rfl rfl rfl rfl ?_)|(refine zQu 5 rfl rfl rfl rfl ?_)|(refine zQu 6 rfl rfl rfl rfl ?_)|(refine zQu 7 rfl rfl rfl rfl ?_)|(refine zQu 8 rfl rfl rfl rfl ?_)|(refine zQu 9 rfl rfl rfl rfl ?_)|(refine zQu 10 rfl rfl rfl rfl ?_)|(refine zQu 16 rfl rfl rfl rfl ?_)|(refine zAll ?_;show cO _ _ _ _ _ _ _))|with_reducible refine dH ?_|(refine(hAA.next ((i+1,a++ [⟨q,.mk s us⟩])) (Le.renSub [(11001,1001),(1001,11001)] [(11001,1001),(1001,11001)] (by simp[go_sem,hcn,ha]) (by simp[go_sem,hcn,ha]) (Le.sub4 rfl (by simp[go_sem,hcn,ha]))) (by(try dsimp only);omega) ?_))|simp(disch:=omega) [go_sem,hlt,hbi,h0,ha,bD,bI]|refine zAo ?_|fail)
   try any_goals omega
   all_goals exact⟨hlt,by simp[ha],by rw[List.append_assoc];exact hinv⟩
 ·obtain rfl:i=bs.length:=by omega
  rw[List.drop_length,List.append_nil]at hinv
  rw[hna]
  subst hinv
  clear ih2 hnx hn0 hna hle
  generalize dS ⟨h,a⟩=S at*
  by_cases h0:a.length=0
  ·obtain rfl:=List.eq_nil_of_length_eq_zero h0
   repeat' (first|(refine aC fun _ _=>?_)|refine zHg ?_|simp(disch:=omega) [go_sem,bD,bI])
   refine cV ⟨44,[(4,.ptr 4 0 0)],(4,⟨false,false,false,3,[.agg [.sc (.string h.name),.list false false (h.args.map aI),.list false true []]],0⟩)::(1000,bD S.length)::(1001,bI S):: []⟩ [.agg [.sc (.string h.name),.list false false (h.args.map aI),.list false true []]] (Le.renSub [] [] (by simp[go_sem,bD,bI]) (by simp[go_sem,bD,bI]) (Le.sub4 rfl (by simp[go_sem,bD,bI]))) (by simp[go_sem,bD,bI]) ⟨rfl,rfl⟩
  ·have h0': ¬a= []:=fun h=>h0 (by rw[h];rfl)
   repeat' (first|(refine aC fun _ _=>?_)|refine zHg ?_|simp(disch:=omega) [go_sem,h0,h0',bD,bI])
   refine cV ⟨44,[(4,.ptr 4 0 0)],(4,⟨false,false,false,3,[.agg [.sc (.string h.name),.list false false (h.args.map aI),.ref 900 0 a.length]],0⟩)::(1000,bD S.length)::(1001,bI S):: [(900,⟨true,false,false,3,a.map bP,0⟩)]⟩ [.agg [.sc (.string h.name),.list false false (h.args.map aI),.ref 900 0 a.length]] (Le.renSub [] [] (by simp[go_sem,bD,bI]) (by simp[go_sem,bD,bI]) (Le.sub4 rfl (by simp[go_sem,bD,bI]))) (by simp[go_sem,bD,bI]) ⟨rfl,rfl⟩
theorem aHx (r:Rl) (hz:SzM r):ACall prog 26 [bX r] (fun v=>v= .own 1 ((dS r).map bG)):=by
 have key:=bKf r hz
 have k2:MCall prog 60 [bX r,.clo 61 [.ptr 1000 0 0]] yE (fun v o'=>v=bX r/\o'=eU (dS r)):=by
  by_cases h0:r.body.length=0
  ·obtain⟨h,bs⟩:=r
   obtain rfl:=List.eq_nil_of_length_eq_zero h0
   simp only[List.length_nil,if_true]at key
   exact key.loose (o1:=eU (dS ⟨h,[]⟩)) (by simp[go_sem]) (by simp[go_sem]) (by simp[go_sem])
  ·simp only[h0,if_false]at key
   refine key.shared (s':=?_) (y:= .agg [.sc (.string r.head.name),.list false false (r.head.args.map aI),.list false false (r.body.map bP)]) (by simp[go_sem,bY];rfl) (by simp[go_sem]) (by simp[go_sem]) (by simp[go_sem])
 clear key
 generalize dS r=S at*
 refine aU func26 call26 rfl (by simp[ntmps26]) ?_;simp only[ntmps26,results26]
 repeat' (first|(refine aC fun _ _=>?_)|refine zHg ?_|simp(disch:=omega) [go_sem])
 refine bH [(1000,3)] [(3,1000)] 10000 _ _ (Fits.mk' (by simp[go_sem,eU,bD,bI]) (by simp[go_sem,eU,bD,bI])) (by simp[go_sem,eU,bD,bI]) (by simp[go_sem,eU,bD,bI]) (k2) (by simp[go_sem,eU,bD,bI]) (by simp[go_sem,eU,bD,bI]) ?_
 repeat' (first|(refine aC fun _ _=>?_)|refine zHg ?_|(refine aN [] ?_;simp[go_sem,eU,bD,bI])|simp(disch:=omega) [go_sem,eU,bD,bI])
theorem bKg (l:List ByteArray) (hb:l.length<=140737488355328):MCall prog 27 [.ref 1000 0 l.length,.clo 28 []] [(1000,cY bG 1 0 l)]
 (fun r o'=> ∃m:List ByteArray,(m.Perm l/\m.Pairwise (fun x y=>iW x y<=0))/\r= .tup []/\o'= [(1000,cY bG 1 0 m)]):=by
 by_cases hl:l= []
 ·subst hl
  exact(bH7 _).mono fun r o' ⟨h1,h2⟩=>⟨[],⟨.refl _,.nil⟩,h1,h2⟩
 ·have h:=bC3 (P:=prog) (f:=27) (g:=28) Value.string (fun _=>rfl) (fun _=>rfl) (ltOf iW) 0 (by decide) l hl call27
   (fun blk cap w hH hblk=>by
    have h:=Any.slices_SortFunc Tryz.pdqS Value.string (fun _=>rfl) iW bJr 28 #[] blk 0 cap l.toArray w call28
     (fun m os dk hs x y=>bC1 Value.string (fun _=>rfl) iW (fun x y=> @bKc (Glob.none _) x y) x y _) hH hblk (by(try simp);omega)
    exact h)
  refine h.mono fun r o' ⟨m,⟨h1,h2⟩,h3,h4⟩=>⟨m,⟨h1,?_⟩,h3,h4⟩
  refine h2.imp fun {x y} hxy=>?_
  unfold ltOf at hxy
  simp only[decide_eq_false_iff_not,Int.not_lt]at hxy
  have:=F6 x y
  omega
theorem aHy: ∀a b:List Rl,lQ (a++b)=lQ a++lQ b
 | [],b=>rfl
 |r::a,b=>by simp[lQ,aHy a b]
theorem aHz {l:List Rl} {i:Nat} (h:i<l.length):lQ (l.take (i+1))=lQ (l.take i)++dS l[i]:=by
 rw[fC h,aHy];simp[lQ]
theorem X5 {l:List Rl} (hz: ∀r∈l,SzM r): ∀i,i<=l.length->(lQ (l.take i)).length<=i*180
 |0,_=>by simp[lQ]
 |i+1,h=>by
  have hi:i<l.length:=by omega
  rw[aHz hi,List.length_append]
  have:=X5 hz i (by omega)
  have:=rS (hz l[i] (List.getElem_mem hi))
  omega
theorem X6 (l:List Rl) (le fu:Bool) (hz: ∀r∈l,SzM r) (hl:l.length<=99):ACall prog 12 [.list le fu (l.map bX)] (fun r=>r= .own 1 ((eA l).map bG)):=by
 have hzz:lQ []= []:=rfl
 have hle:=X5 hz
 refine aU func12 call12 rfl (by simp[ntmps12]) ?_;simp only[ntmps12,results12]
 repeat' (first|(refine aC fun _ _=>?_)|refine zHg ?_|simp(disch:=omega) [go_sem])
 refine bS [6,7] [900] (fun y:Nat×List ByteArray=> [(8,nt .i64 y.1),(3,.ref 900 0 y.2.length)]) (fun y:Nat×List ByteArray=> [(900,⟨true,false,false,1,y.2.map bG,0⟩)]) (fun y:Nat×List ByteArray=>l.length - y.1) (fun y:Nat×List ByteArray=>y.1<=l.length/\y.2=lQ (l.take y.1)) ((0,[])) (by refine Le.trans ?_ (Le.nil (i:=3) (T:=900) (es:=1) rfl);exact(Le.sub4 rfl (by simp[go_sem,List.map_nil,List.length_nil]))) ⟨?_⟩ ?_
 ·exact⟨Nat.zero_le _,rfl⟩
 intro⟨i,A⟩ ⟨hi,hA⟩ AA hAA;simp only[kL,Nat.reduceBEq,Nat.reduceEqDiff]
 dsimp only at*
 by_cases hlt:i<l.length
 ·have hp:=aHx l[i] (hz _ (List.getElem_mem hlt))
  have hn:=aHz hlt
  have h1:=hle i hi
  have h2:=rS (hz l[i] (List.getElem_mem hlt))
  rw[<-hA]at hn h1
  generalize hri:l[i]=r at*
  generalize dS r=R at*
  repeat' (first|(refine aC fun _ _=>?_)|refine zHg ?_|refine aO rfl (hp) (by simp) ?_|(refine(hAA.next ((i+1,A++R)) (Le.sub4 rfl (by simp[go_sem,bG])) (by(try dsimp only);omega) ?_))|simp(disch:=omega) [go_sem,hlt,hri,bG]|refine zAo ?_|fail)
  try any_goals omega
  all_goals exact⟨hlt,hn.symm⟩
 ·obtain rfl:i=l.length:=by omega
  have h1:=hle l.length (Nat.le_refl _)
  rw[List.take_length]at hA h1
  rw[<-hA]at h1
  have hso:=bKg A (by omega)
  have hfin: ∀m:List ByteArray,m.Perm A->m.Pairwise (fun x y=>iW x y<=0)->tH m=eA l:=fun m hm hs=>by
   unfold eA
   refine bJu ?_ hs
   rw[W1,<-hA];exact hm
  clear hle hzz
  repeat' (first|(refine aC fun _ _=>?_)|refine zHg ?_|simp(disch:=omega) [go_sem])
  refine bCv [(1000,900)] [(900,1000)] 10000 _ _ (Fits.mk' (by simp[go_sem]) (by simp[go_sem])) (by simp[go_sem]) (by simp[go_sem]) (hso) (by simp[go_sem]) (by intros;simp[go_sem]) ?_;intro m hm
  have hml:=hm.1.length_eq
  have hco:=bJs m (by omega)
  rw[hfin m hm.1 hm.2]at hco
  have hcl2:(eA l).length<=m.length:=by rw[<-hfin m hm.1 hm.2];exact V8 _ _
  rw[<-hml]
  generalize eA l=Z at*
  repeat' (first|(refine aC fun _ _=>?_)|refine zHg ?_|simp(disch:=omega) [go_sem])
  refine bH [(1000,900)] [(900,1000)] 20000 _ _ (Fits.mk' (by simp[go_sem]) (by simp[go_sem])) (by simp[go_sem]) (by simp[go_sem]) (hco) (by simp[go_sem]) (by simp[go_sem]) ?_
  repeat' (first|(refine aC fun _ _=>?_)|refine zHg ?_|(refine aN [] ?_;simp[go_sem])|simp(disch:=omega) [go_sem])
theorem X7 {l:List Rl} (hz: ∀r∈l,SzM r) (hl:l.length<=99):(eA l).length<=17820:=by
 have h1:=X5 hz l.length (Nat.le_refl _)
 rw[List.take_length]at h1
 unfold eA rQ
 rw[List.length_map]
 have h2:(fP ((aW (fE l)).map eF)).length<=((aW (fE l)).map eF).length:=by
  have h1:(fP ((aW (fE l)).map eF)).Nodup:=by
   refine List.Pairwise.imp (fun {a b} h=>?_) (T1 _)
   rintro rfl
   rw[uZ]at h;omega
  exact List.Nodup.length_le_of_subset h1 fun x hx=>(T2 _ x).1 hx
 have h3:((aW (fE l)).map eF).length=(lQ l).length:=by rw[List.length_map,W1]
 omega
theorem bKh (r:Rl) (hl:r.body.length<=1000000):ACall prog 56 [bX r] (fun v=>v= .own 2 ((eZ r).map aI)):=by
 obtain⟨h,bs⟩:=r
 dsimp only at*
 have hnx: ∀i (hi:i<bs.length),h::(bs.take (i+1)).map Lt.atom=(h::(bs.take i).map Lt.atom)++ [bs[i].atom]:=fun i hi=>by
  rw[fC hi,List.map_append];rfl
 unfold eZ
 dsimp only
 generalize hR:h::bs.map Lt.atom=R
 refine aU func56 call56 rfl (by simp[ntmps56]) ?_;simp only[ntmps56,results56]
 repeat' (first|(refine aC fun _ _=>?_)|refine zHg ?_|simp(disch:=omega) [go_sem])
 refine bS [10,11] [900,8] (fun y:Nat×List Tm=> [(12,nt .i64 y.1),(3,.ref 900 0 y.2.length)]) (fun y:Nat×List Tm=> [(900,⟨true,false,false,2,y.2.map aI,0⟩)]) (fun y:Nat×List Tm=>bs.length - y.1) (fun y:Nat×List Tm=>y.1<=bs.length/\y.2.length=y.1+1/\y.2=h::(bs.take y.1).map Lt.atom) ((0,[h])) (Le.renSub [(8,900)] [(900,8)] (by simp[go_sem]) (by simp[go_sem]) (Le.sub4 rfl (by simp[go_sem]))) ⟨?_⟩ ?_
 ·exact⟨Nat.zero_le _,rfl,rfl⟩
 intro⟨i,A⟩ ⟨hi,hAl,hA⟩ AA hAA;simp only[kL,Nat.reduceBEq,Nat.reduceEqDiff]
 dsimp only at*
 by_cases hlt:i<bs.length
 ·have hn:=hnx i hlt
  rw[<-hA]at hn
  generalize hbi:bs[i]=b at*
  repeat' (first|(refine aC fun _ _=>?_)|refine zHg ?_|(refine(hAA.next ((i+1,A++ [b.atom])) (Le.sub4 rfl (by simp[go_sem,hAl])) (by(try dsimp only);omega) ?_))|simp(disch:=omega) [go_sem,hlt,hbi,hAl]|refine zAo ?_|fail)
  try any_goals omega
  all_goals exact⟨hlt,by rw[List.length_append,hAl];rfl,hn.symm⟩
 ·obtain rfl:i=bs.length:=by omega
  rw[List.take_length]at hA
  obtain rfl:=hA.trans hR
  repeat' (first|(refine aC fun _ _=>?_)|refine zHg ?_|(refine aN [] ?_;simp[go_sem])|simp(disch:=omega) [go_sem])
theorem kC {α:Type} {l:List α} {i:Nat} {d:α} (h:i<l.length):l.getD i d=l[i]:=by
 rw[List.getD_eq_getElem?_getD,List.getElem?_eq_getElem h];rfl
theorem aH0 {t:Tm} (h:kA t=true):2<=t.args.length/\t.args.getD 0 zT≠t.args.getD 1 zT:=by
 unfold kA at h
 rw[Bool.and_eq_true,decide_eq_true_eq,Bool.not_eq_true',decide_eq_false_iff_not]at h
 exact⟨h.1,fun e=>h.2 ((uY _ _).2 e)⟩
theorem yF (r:Rl):(eZ r).length=r.body.length+1:=by simp[eZ]
theorem bKi (r:Rl):(eZ r).getD 0 zT=r.head:=rfl
theorem bKj {r:Rl} {k:Nat} (h:k<r.body.length):(eZ r).getD (k+1) zT=r.body[k].atom:=by
 unfold eZ
 rw[List.getD_eq_getElem?_getD,List.getElem?_cons_succ,List.getElem?_map,List.getElem?_eq_getElem h];rfl
theorem aH1 {f:Lt->Lt} {k:Nat} {l:List Lt}:(iE f k l).length=l.length:=by unfold iE;rw[List.length_modify]
end Go.Proofs.YtbgckcdddlmiaaaGreatDoor
