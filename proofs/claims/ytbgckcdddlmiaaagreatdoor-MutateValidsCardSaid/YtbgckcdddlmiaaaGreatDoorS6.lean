import Derived.Shelf.SlGeneric
import Derived.Shelf.SlLaysF
import Derived.Ground.SlsfProg
import Derived.Test.YtbgckcdddlmiaaaGreatDoorS3
import Derived.Shelf.SlSortCmp.Whole1
import Derived.Shelf.SlicesE.Compact
import Derived.Ground.SlgnProg
set_option linter.all false
open Go.Proofs.Tryz
namespace Go.Proofs.YtbgckcdddlmiaaaGreatDoor
open Go.Shelf Go.Proofs
def Tryz.pdqS_ren:Go.Shelf.Ren:=⟨fun|6=>27|15=>63|14=>62|28=>111|29=>112|20=>103|21=>104|22=>105|23=>106|24=>107|25=>108|26=>109|27=>110|46=>139|47=>140|48=>141|49=>142|50=>143|57=>169|n=>n,fun|22=>29|24=>9|25=>59|3=>3|39=>104|0=>0|53=>151|55=>114|4=>4|46=>145|45=>144|50=>121|5=>5|9=>9|66=>180|70=>184|76=>207|77=>208|n=>n,fun|n=>n⟩
theorem Tryz.pdqS:Go.Proofs.SlLaysF.n6 prog Tryz.pdqS_ren:= {
 mixed:=by kernel_rfl
 f6:=⟨Tryz.f27.name,by decide,func27.trans (congrArg some (by kernel_rfl))⟩
 f14:=⟨Tryz.f62.name,by decide,func62.trans (congrArg some (by kernel_rfl))⟩
 f15:=func63.trans (congrArg some (by kernel_rfl))
 f20:=⟨Tryz.f103.name,by decide,func103.trans (congrArg some (by kernel_rfl))⟩
 f21:=⟨Tryz.f104.name,by decide,func104.trans (congrArg some (by kernel_rfl))⟩
 f22:=⟨Tryz.f105.name,by decide,func105.trans (congrArg some (by kernel_rfl))⟩
 f23:=⟨Tryz.f106.name,by decide,func106.trans (congrArg some (by kernel_rfl))⟩
 f24:=⟨Tryz.f107.name,by decide,func107.trans (congrArg some (by kernel_rfl))⟩
 f25:=⟨Tryz.f108.name,by decide,func108.trans (congrArg some (by kernel_rfl))⟩
 f26:=⟨Tryz.f109.name,by decide,func109.trans (congrArg some (by kernel_rfl))⟩
 f27:=⟨Tryz.f110.name,by decide,func110.trans (congrArg some (by kernel_rfl))⟩
 f28:=func111.trans (congrArg some (by kernel_rfl))
 f29:=func112.trans (congrArg some (by kernel_rfl))
 f46:=⟨Tryz.f139.name,by decide,func139.trans (congrArg some (by kernel_rfl))⟩
 f47:=func140.trans (congrArg some (by kernel_rfl))
 f48:=func141.trans (congrArg some (by kernel_rfl))
 f49:=⟨Tryz.f142.name,by decide,func142.trans (congrArg some (by kernel_rfl))⟩
 f50:=⟨Tryz.f143.name,by decide,func143.trans (congrArg some (by kernel_rfl))⟩
 f57:=⟨Tryz.f169.name,by decide,func169.trans (congrArg some (by kernel_rfl))⟩
 t0:=underlying0
 a0:=Tryz.isAgg0
 z0:=Tryz.sizeOf0
 v0:=Tryz.zeroValue0
 t3:=underlying3
 a3:=Tryz.isAgg3
 z3:=Tryz.sizeOf3
 v3:=Tryz.zeroValue3
 t4:=underlying4
 a4:=Tryz.isAgg4
 z4:=Tryz.sizeOf4
 v4:=Tryz.zeroValue4
 t5:=underlying5
 a5:=Tryz.isAgg5
 z5:=Tryz.sizeOf5
 v5:=Tryz.zeroValue5
 t9:=underlying9
 a9:=Tryz.isAgg9
 z9:=Tryz.sizeOf9
 v9:=Tryz.zeroValue9
 t22:=underlying29
 a22:=Tryz.isAgg29
 z22:=Tryz.sizeOf29
 v22:=Tryz.zeroValue29
 a24:=Tryz.isAgg9
 z24:=Tryz.sizeOf9
 t25:=underlying59
 a25:=Tryz.isAgg59
 z25:=Tryz.sizeOf59
 v25:=Tryz.zeroValue59
 t39:=underlying104
 a39:=Tryz.isAgg104
 z39:=Tryz.sizeOf104
 v39:=Tryz.zeroValue104
 t45:=underlying144
 a45:=Tryz.isAgg144
 z45:=Tryz.sizeOf144
 v45:=Tryz.zeroValue144
 t46:=underlying145
 a46:=Tryz.isAgg145
 z46:=Tryz.sizeOf145
 v46:=Tryz.zeroValue145
 t50:=underlying121
 a50:=Tryz.isAgg121
 z50:=Tryz.sizeOf121
 v50:=Tryz.zeroValue121
 t53:=underlying151
 a53:=Tryz.isAgg151
 z53:=Tryz.sizeOf151
 v53:=Tryz.zeroValue151
 t55:=underlying114
 a55:=Tryz.isAgg114
 z55:=Tryz.sizeOf114
 v55:=Tryz.zeroValue114
 t66:=underlying180
 a66:=Tryz.isAgg180
 z66:=Tryz.sizeOf180
 v66:=Tryz.zeroValue180
 t70:=underlying184
 a70:=Tryz.isAgg184
 z70:=Tryz.sizeOf184
 v70:=Tryz.zeroValue184
 t76:=underlying207
 a76:=Tryz.isAgg207
 z76:=Tryz.sizeOf207
 v76:=Tryz.zeroValue207
 t77:=underlying208
 a77:=Tryz.isAgg208
 z77:=Tryz.sizeOf208
 v77:=Tryz.zeroValue208}
open Go.Ab
variable [Glob prog]
set_option maxRecDepth 100000
set_option maxHeartbeats 8000000
theorem R4 (x y:ByteArray):jT y x= -jT x y:=O5 _ _
theorem bOn (x:ByteArray):jT x x=0:=C2 _
theorem bOo {x y z:ByteArray} (h:jT x y<=0) (k:jT y z<=0):jT x z<=0:=bMb.tr _ _ _ h k
theorem bOp {x y z:ByteArray} (h:jT x y<0) (k:jT y z<0):jT x z<0:=aK0 h (Int.le_of_lt k)
theorem bOq:Go.Sort.SWO (ltOf jT) where
 irrefl x:=by unfold ltOf;rw[bOn];rfl
 trans x y z h1 h2:=by
  unfold ltOf at*
  simp only[decide_eq_true_eq]at*
  exact bOp h1 h2
 ntrans x y z h1 h2:=by
  unfold ltOf at*
  simp only[decide_eq_false_iff_not,Int.not_lt]at*
  have a:=R4 x y
  have b:=R4 y z
  have c:=R4 x z
  have:=bOo (x:=z) (y:=y) (z:=x) (by omega) (by omega)
  omega
section
open Go.Shelf Go.Proofs
def Tryz.compS_ren:Go.Shelf.Ren:=⟨fun|43=>29|n=>n,fun|22=>29|23=>9|3=>3|4=>4|0=>0|n=>n,fun|n=>n⟩
theorem Tryz.compS:Go.Proofs.SlLaysE.n43 prog Tryz.compS_ren:= {
 mixed:=by kernel_rfl
 f43:=⟨Tryz.f29.name,by decide,func29.trans (congrArg some (by kernel_rfl))⟩
 t0:=underlying0
 a0:=Tryz.isAgg0
 z0:=Tryz.sizeOf0
 v0:=Tryz.zeroValue0
 t3:=underlying3
 a3:=Tryz.isAgg3
 z3:=Tryz.sizeOf3
 v3:=Tryz.zeroValue3
 t4:=underlying4
 a4:=Tryz.isAgg4
 z4:=Tryz.sizeOf4
 v4:=Tryz.zeroValue4
 t22:=underlying29
 a22:=Tryz.isAgg29
 z22:=Tryz.sizeOf29
 v22:=Tryz.zeroValue29
 a23:=Tryz.isAgg9
 z23:=Tryz.sizeOf9}
end
def wS (l:List ByteArray):List ByteArray:=Go.Lib.compactUpTo l.toArray l.length
theorem aM4 (d:Array ByteArray) (i:Nat):Go.Lib.compactUpTo d (i+1)=Go.Lib.compactUpTo d i++(if Go.Lib.keeps d i=true then[d[i]!]else[]):=by
 unfold Go.Lib.compactUpTo
 rw[List.range_succ,List.filter_append,List.map_append]
 congr 1
 by_cases h:Go.Lib.keeps d i=true<;>simp[h]
theorem aDk (d:Array ByteArray): ∀i,(Go.Lib.compactUpTo d i).length<=i
 |0=>by simp[Go.Lib.compactUpTo]
 |i+1=>by
  rw[aM4,List.length_append]
  have:=aDk d i
  split<;>simp<;>omega
def zs:ByteArray:=ByteArray.mk #[]
theorem bOr (l:List ByteArray) (hb:l.length<=140737488355328):MCall prog 29 [.ref 1000 0 l.length] [(1000,bB aI 1 0 l)]
 (fun r o'=>r= .ref 1001 0 (wS l).length/\o'= [(1001,⟨true,false,false,1,(wS l).map aI,0⟩)]):=by
 by_cases hl:l= []
 ·subst hl
  have e:wS []= []:=rfl
  rw[e]
  refine dC func29 call29 rfl (by simp[ntmps29]) ?_;simp only[ntmps29,results29]
  repeat' (first|(refine aA fun _ _=>?_)|refine zHg ?_|simp(disch:=omega) [go_sem])
  refine cJ ⟨61,[(2,.ref 1001 0 0)],[(1001,⟨true,false,false,1,[],0⟩)]⟩ [.ref 1001 0 0] (by refine Le.trans ?_ (Le.move (i:=2) (T:=1000) (T':=1001) rfl (by show(0:Nat)≠1;decide) rfl rfl rfl);exact(Le.sub4 rfl (by simp[go_sem]))) (by simp[go_sem]) ⟨rfl,rfl⟩
 ·exact bHi (P:=prog) (f:=29) Value.string (fun _=>rfl) (fun _=>rfl) 0 (by decide) l (wS l) zs hl (aDk _ _) call29
   (fun blk cap w hH hcap=>by
    have h:=AnyE.slices_Compact Tryz.compS Value.string (fun _=>rfl)
     ⟨fun x y w=>by rw[(EqlAt.string _ _).1 x y w];show _=Result.ok (Value.bool (decide (x=y))) w;rw[<-aIx],(EqlAt.string _ _).2⟩ ⟨fun x y w=>by rw[(NeqAt.string _ _).1 x y w];show _=Result.ok (Value.bool (!decide (x=y))) w;rw[<-aIx],(NeqAt.string _ _).2⟩ zs (fun w=>by rfl) blk 0 cap l.toArray w hH (by(try simp);omega) (by simpa using hcap)
    exact h)
def iC (s:ByteArray):Tm:= .mk s []
theorem bOs {x y:ByteArray}:iC x=iC y↔x=y:=⟨fun h=>congrArg Tm.name h,fun h=>by rw[h]⟩
theorem aM5 (m:List ByteArray): ∀i,i<=m.length->(Go.Lib.compactUpTo m.toArray i).map iC=nV (m.map iC) i
 |0,_=>rfl
 |i+1,hi=>by
  have hi':i<m.length:=by omega
  have hl:i<(m.map iC).length:=by rw[List.length_map];exact hi'
  rw[aM4,List.map_append,aM5 m i (by omega),aK5 hl]
  have e1:m.toArray[i]! =m[i]:=by simp[hi']
  have e2:(m.map iC)[i]=iC m[i]:=by simp
  rw[e2]
  by_cases h0:i=0
  ·have hk:Go.Lib.keeps m.toArray i=true:=by simp[Go.Lib.keeps,h0]
   rw[if_pos hk,if_pos (.inl h0),e1];rfl
  ·have h1:i - 1<m.length:=by omega
   have e3:(m.map iC).getD (i - 1) (iC m[i])=iC m[i - 1]:=by
    rw[List.getD_eq_getElem?_getD,List.getElem?_eq_getElem (by simpa using h1)];simp
   have e4:m.toArray[i - 1]! =m[i - 1]:=by simp[h1]
   rw[e3]
   have hz:dJ (iC m[i - 1]) (iC m[i])=0↔m[i - 1]=m[i]:=by rw[C0,bOs]
   by_cases hk:m[i - 1]=m[i]
   ·have hk': ¬Go.Lib.keeps m.toArray i=true:=by simp[Go.Lib.keeps,h0,e1,e4,hk]
    rw[if_neg hk',if_neg (by rw[hz.2 hk];simp[h0])];simp
   ·have hk':Go.Lib.keeps m.toArray i=true:=by
     unfold Go.Lib.keeps
     rw[decide_eq_true_eq,e1,e4]
     exact .inr fun e=>hk e.symm
    rw[if_pos hk',if_pos (.inr fun e=>hk (hz.1 e)),e1];rfl
def cD (l:List Tm):List ByteArray:=(dM l).filter oV
def R5 (l:List Tm):List ByteArray:=(vX ((cD l).map iC)).map Tm.name
theorem bOt {l:List Tm} {m:List ByteArray} (hp:m.Perm (cD l)) (hs:m.Pairwise (fun x y=>jT x y<=0)):wS m=R5 l:=by
 have h1:(m.map iC).Perm ((cD l).map iC):=hp.map _
 have h2:aBm dJ (m.map iC) 0 ((cD l).map iC).length:=by
  rw[<-h1.length_eq]
  intro i j x y _ hij hj hx hy
  rw[List.length_map]at hj
  have hi:i<m.length:=by omega
  rw[List.getElem?_map,List.getElem?_eq_getElem hi]at hx
  rw[List.getElem?_map,List.getElem?_eq_getElem hj]at hy
  simp only[Option.map_some,Option.some.injEq]at hx hy
  subst hx hy
  exact List.pairwise_iff_getElem.1 hs i j hi hj hij
 have h3:=bMc h1 h2
 unfold R5 wS
 rw[<-h3,List.length_map,<-aM5 m m.length (Nat.le_refl _),List.map_map]
 have:Tm.name∘iC=id:=rfl
 rw[this,List.map_id]
theorem E7:cD []= []:=rfl
open Go.Ab
set_option maxRecDepth 100000
def sX (t:Tm):List ByteArray:=(lB t).filter oV
theorem aDl {s:ByteArray} {ts:List Tm}:sX (.mk s ts)=if ts.length=0 then(if oV s=true then[s]else[])else cD ts:=by
 unfold sX cD
 rw[D1]
 split
 ·by_cases h:oV s=true<;>simp[h]
 ·rfl
theorem E8 {t:Tm} {r:List Tm}:cD (t::r)=sX t++cD r:=by
 unfold cD sX
 rw[dM,List.filter_append]
theorem E9 (a b:List Tm):cD (a++b)=cD a++cD b:=by
 unfold cD
 rw[P2,List.filter_append]
mutual
def F4 (K:Nat) (c:ByteArray):Nat->Tm->Tm
 |k,.mk s ts=>if ts.length=0 then .mk (if oV s=true/\k=K then c else s) ts else .mk s (dW K c k ts)
def dW (K:Nat) (c:ByteArray):Nat->List Tm->List Tm
 |_,[]=> []
 |k,t::r=>F4 K c k t::dW K c (k+(sX t).length) r
end
theorem aM6 {K:Nat} {c:ByteArray} {k:Nat} {s:ByteArray} {ts:List Tm}:F4 K c k (.mk s ts)=if ts.length=0 then .mk (if oV s=true/\k=K then c else s) ts else .mk s (dW K c k ts):=by rw[F4]
theorem aDm {K:Nat} {c:ByteArray}: ∀{ts:List Tm} {k:Nat},(dW K c k ts).length=ts.length
 | [],k=>by simp[dW]
 |t::r,k=>by simp[dW,aDm]
theorem aM7 {K:Nat} {c:ByteArray}: ∀{a b:List Tm} {k:Nat},dW K c k (a++b)=dW K c k a++dW K c (k+(cD a).length) b
 | [],b,k=>by simp[dW,E7]
 |t::r,b,k=>by
  simp only[List.cons_append,dW,aM7,E8,List.length_append,Nat.add_assoc]
theorem bOu {K:Nat} {c:ByteArray} {ts:List Tm} {k i:Nat} (h:i<ts.length):dW K c k (ts.take (i+1))=dW K c k (ts.take i)++ [F4 K c (k+(cD (ts.take i)).length) ts[i]]:=by
 rw[eZ h,aM7];simp[dW]
theorem bOv {K:Nat} {c:ByteArray} {k:Nat}:dW K c k []= []:=by rw[dW]
def jH:List Lt->List ByteArray
 | []=> []
 |b::m=>cD b.atom.args++jH m
theorem aM8: ∀(a b:List Lt),jH (a++b)=jH a++jH b
 | [],b=>rfl
 |x::a,b=>by simp[jH,aM8 a b]
theorem bOw {l:List Lt} {i:Nat} (h:i<l.length):jH (l.take (i+1))=jH (l.take i)++cD l[i].atom.args:=by
 rw[eZ h,aM8];simp[jH]
def fY (r:Rl):List ByteArray:=cD r.head.args++jH r.body
def gT (K:Nat) (c:ByteArray):Nat->List Lt->List Lt
 |_,[]=> []
 |k,b::m=>⟨b.neg,.mk b.atom.name (dW K c k b.atom.args)⟩::gT K c (k+(cD b.atom.args).length) m
theorem aDn {K:Nat} {c:ByteArray}: ∀{a b:List Lt} {k:Nat},gT K c k (a++b)=gT K c k a++gT K c (k+(jH a).length) b
 | [],b,k=>by simp[gT,jH]
 |x::a,b,k=>by simp only[List.cons_append,gT,aDn,jH,List.length_append,Nat.add_assoc]
theorem bOx {K:Nat} {c:ByteArray} {l:List Lt} {k i:Nat} (h:i<l.length):gT K c k (l.take (i+1))=gT K c k (l.take i)++ [⟨l[i].neg,.mk l[i].atom.name (dW K c (k+(jH (l.take i)).length) l[i].atom.args)⟩]:=by
 rw[eZ h,aDn];simp[gT]
theorem F5 {K:Nat} {c:ByteArray}: ∀{l:List Lt} {k:Nat},(gT K c k l).length=l.length
 | [],k=>by simp[gT]
 |x::l,k=>by simp[gT,F5]
def wT (K:Nat) (c:ByteArray) (r:Rl):Rl:=⟨.mk r.head.name (dW K c 0 r.head.args),gT K c (cD r.head.args).length r.body⟩
structure Mu where
 kind:Int
 rule:Int
 index:Int
 deriving DecidableEq
abbrev cR (m:Mu):AV:= .agg [nt .i64 m.kind,nt .i64 m.rule,nt .i64 m.index]
def zT:Tm:= .mk ⟨#[]⟩ []
def mV (i p:Nat) (C:List ByteArray) (s:ByteArray):Nat->List Mu
 |0=> []
 |k+1=>mV i p C s k++(if C.getD k zs=s then[]else[⟨4,i,(p*C.length+k:Nat)⟩])
def mW (i:Nat) (C S:List ByteArray):Nat->List Mu
 |0=> []
 |p+1=>mW i C S p++mV i p C (S.getD p zs) C.length
def rJ (i:Nat):Nat->List Mu
 |0=> []
 |k+1=>rJ i k++ [⟨2,i,k⟩,⟨3,i,k⟩]
def sY (t:Tm):Bool:=decide (2<=t.args.length)&& !decide (dJ (t.args.getD 0 zT) (t.args.getD 1 zT)=0)
def mX (i:Nat) (A:List Tm):Nat->List Mu
 |0=> []
 |k+1=>mX i A k++(if sY (A.getD k zT)=true then[⟨5,i,k⟩]else[])
def mY (r:Rl):List Tm:=r.head::r.body.map Lt.atom
def jV (i:Nat) (r:Rl) (C:List ByteArray):List Mu:= [⟨1,i,0⟩]++rJ i r.body.length++mW i C (fY r) (fY r).length++mX i (mY r) (mY r).length
def yR:Rl:=⟨zT,[]⟩
def mZ (C:List ByteArray) (l:List Rl):Nat->List Mu
 |0=> []
 |i+1=>mZ C l i++jV i (l.getD i yR) C
def nA:List Rl->List ByteArray
 | []=> []
 |r::l=>fY r++nA l
def R6:List Lt->List Tm
 | []=> []
 |b::m=>b.atom.args++R6 m
def uT:List Rl->List Tm
 | []=> []
 |r::l=>(r.head.args++R6 r.body)++uT l
theorem aM9: ∀l:List Lt,cD (R6 l)=jH l
 | []=>rfl
 |b::m=>by rw[R6,E9,aM9 m];rfl
theorem aDo: ∀l:List Rl,cD (uT l)=nA l
 | []=>rfl
 |r::l=>by rw[uT,E9,E9,aM9,aDo l];rfl
def fO (l:List Rl):List ByteArray:=R5 (uT l)
def eF (l:List Rl):List Mu:=mZ (fO l) l l.length
theorem aNa {i p:Nat} {C:List ByteArray} {s:ByteArray} {m:Mu}: ∀{n:Nat},m∈mV i p C s n↔ ∃k,k<n/\C.getD k zs≠s/\m=⟨4,i,(p*C.length+k:Nat)⟩
 |0=>by simp[mV]
 |n+1=>by
  rw[mV,List.mem_append,aNa]
  constructor
  ·rintro(⟨k,h1,h2⟩|h)
   ·exact⟨k,by omega,h2⟩
   ·split at h
    ·simp at h
    ·rename_i hc
     exact⟨n,by omega,hc,by simpa using h⟩
  ·rintro⟨k,h1,h2,h3⟩
   by_cases hk:k=n
   ·subst hk
    refine .inr ?_
    rw[if_neg h2];simp[h3]
   ·exact .inl ⟨k,by omega,h2,h3⟩
theorem aNb {i:Nat} {C S:List ByteArray} {m:Mu}: ∀{n:Nat},m∈mW i C S n↔ ∃p k,p<n/\k<C.length/\C.getD k zs≠S.getD p zs/\m=⟨4,i,(p*C.length+k:Nat)⟩
 |0=>by simp[mW]
 |n+1=>by
  rw[mW,List.mem_append,aNb,aNa]
  constructor
  ·rintro(⟨p,k,h1,h2⟩|⟨k,h1,h2⟩)
   ·exact⟨p,k,by omega,h2⟩
   ·exact⟨n,k,by omega,h1,h2⟩
  ·rintro⟨p,k,h1,h2,h3⟩
   by_cases hk:p=n
   ·subst hk
    exact .inr ⟨k,h2,h3⟩
   ·exact .inl ⟨p,k,by omega,h2,h3⟩
theorem aNc {i:Nat} {m:Mu}: ∀{n:Nat},m∈rJ i n↔ ∃k:Nat,k<n/\(m=⟨2,i,k⟩\/m=⟨3,i,k⟩)
 |0=>by simp[rJ]
 |n+1=>by
  rw[rJ,List.mem_append,aNc]
  constructor
  ·rintro(⟨k,h1,h2⟩|h)
   ·exact⟨k,by omega,h2⟩
   ·exact⟨n,by omega,by simpa using h⟩
  ·rintro⟨k,h1,h2⟩
   by_cases hk:k=n
   ·subst hk;exact .inr (by simpa using h2)
   ·exact .inl ⟨k,by omega,h2⟩
theorem aNd {i:Nat} {A:List Tm} {m:Mu}: ∀{n:Nat},m∈mX i A n↔ ∃k:Nat,k<n/\sY (A.getD k zT)=true/\m=⟨5,i,k⟩
 |0=>by simp[mX]
 |n+1=>by
  rw[mX,List.mem_append,aNd]
  constructor
  ·rintro(⟨k,h1,h2⟩|h)
   ·exact⟨k,by omega,h2⟩
   ·split at h
    ·rename_i hc;exact⟨n,by omega,hc,by simpa using h⟩
    ·simp at h
  ·rintro⟨k,h1,h2,h3⟩
   by_cases hk:k=n
   ·subst hk
    refine .inr ?_
    rw[if_pos h2];simp[h3]
   ·exact .inl ⟨k,by omega,h2,h3⟩
theorem aDp {i:Nat} {r:Rl} {C:List ByteArray} {m:Mu}:m∈jV i r C↔m=⟨1,i,0⟩\/(∃k:Nat,k<r.body.length/\(m=⟨2,i,k⟩\/m=⟨3,i,k⟩))\/
 (∃p k,p<(fY r).length/\k<C.length/\C.getD k zs≠(fY r).getD p zs/\m=⟨4,i,(p*C.length+k:Nat)⟩)\/ ∃k:Nat,k<(mY r).length/\sY ((mY r).getD k zT)=true/\m=⟨5,i,k⟩:=by
 unfold jV
 rw[List.mem_append,List.mem_append,List.mem_append,List.mem_singleton,aNc,aNb,aNd,or_assoc,or_assoc]
theorem aDq {i:Nat} {r:Rl} {C:List ByteArray} {m:Mu} (h:m∈jV i r C):m.rule=i:=by
 rcases aDp.1 h with rfl|⟨k,_,rfl|rfl⟩|⟨p,k,_,_,_,rfl⟩|⟨k,_,_,rfl⟩<;>rfl
theorem aNe {C:List ByteArray} {l:List Rl} {m:Mu}: ∀{n:Nat},m∈mZ C l n↔ ∃i,i<n/\m∈jV i (l.getD i yR) C
 |0=>by simp[mZ]
 |n+1=>by
  rw[mZ,List.mem_append,aNe]
  constructor
  ·rintro(⟨k,h1,h2⟩|h)
   ·exact⟨k,by omega,h2⟩
   ·exact⟨n,by omega,h⟩
  ·rintro⟨k,h1,h2⟩
   by_cases hk:k=n
   ·subst hk;exact .inr h2
   ·exact .inl ⟨k,by omega,h2⟩
theorem R7 {l:List Rl} {m:Mu}:m∈eF l↔ ∃i,i<l.length/\m∈jV i (l.getD i yR) (fO l):=aNe
def lY (t:Tm):Tm:= .mk t.name ((t.args.set 0 (t.args.getD 1 zT)).set 1 (t.args.getD 0 zT))
def sZ (b:Lt):Lt:=⟨b.neg,lY b.atom⟩
def tA (b:Lt):Lt:=⟨!b.neg,b.atom⟩
def gC (f:Lt->Lt) (k:Nat) (l:List Lt):List Lt:=l.modify k f
def kJ (r:Rl) (m:Mu) (C:List ByteArray):Rl:=
 if m.kind=2 then⟨r.head,r.body.eraseIdx m.index.toNat⟩
 else if m.kind=3 then⟨r.head,gC tA m.index.toNat r.body⟩
 else if m.kind=4 then wT (m.index.toNat / C.length) (C.getD (m.index.toNat % C.length) zs) r
 else if m.kind=5 then(if m.index=0 then⟨lY r.head,r.body⟩else⟨r.head,gC sZ (m.index.toNat - 1) r.body⟩)
 else r
def oD (m:Mu) (C:List ByteArray) (l:List Rl):Nat->List Rl
 |0=> []
 |i+1=>oD m C l i++(if m.rule=(i:Int)then(if m.kind=1 then[]else[kJ (l.getD i yR) m C])else[l.getD i yR])
def kK (l:List Rl) (m:Mu):List Rl:=oD m (fO l) l l.length
open Go.Ab
set_option maxRecDepth 100000
theorem qF {α:Type} {l:List α} {i:Nat} {d:α} (h:i<l.length):l.getD i d=l[i]:=by
 rw[List.getD_eq_getElem?_getD,List.getElem?_eq_getElem h];rfl
theorem aNf {t:Tm} (h:sY t=true):2<=t.args.length/\t.args.getD 0 zT≠t.args.getD 1 zT:=by
 unfold sY at h
 rw[Bool.and_eq_true,decide_eq_true_eq,Bool.not_eq_true',decide_eq_false_iff_not]at h
 exact⟨h.1,fun e=>h.2 ((C0 _ _).2 e)⟩
theorem aDr (r:Rl):(mY r).length=r.body.length+1:=by simp[mY]
theorem bOy (r:Rl):(mY r).getD 0 zT=r.head:=rfl
theorem bOz {r:Rl} {k:Nat} (h:k<r.body.length):(mY r).getD (k+1) zT=r.body[k].atom:=by
 unfold mY
 rw[List.getD_eq_getElem?_getD,List.getElem?_cons_succ,List.getElem?_map,List.getElem?_eq_getElem h];rfl
theorem F6 {f:Lt->Lt} {k:Nat} {l:List Lt}:(gC f k l).length=l.length:=by unfold gC;rw[List.length_modify]
set_option maxHeartbeats 16000000
def cP:ByteArray:=⟨#[114,111,108,101,40,120,41,46,32,112,40,97,41,32,105,102,32,113,40,98,41,46]⟩
def lZ:Rl:=⟨(.mk ⟨#[114,111,108,101]⟩ [(.mk ⟨#[120]⟩ [])]),[]⟩
def nB:Rl:=⟨(.mk ⟨#[112]⟩ [(.mk ⟨#[97]⟩ [])]),[⟨false,(.mk ⟨#[113]⟩ [(.mk ⟨#[98]⟩ [])])⟩]⟩
theorem aNg:bK cP 0=⟨#[114,111,108,101]⟩:=by kernel_rfl
theorem bO0:aR cP 0=4:=by kernel_rfl
theorem bO1:dL cP 40 4=true:=by kernel_rfl
theorem bO2:aT cP 40 4=5:=by kernel_rfl
theorem aNh:bK cP 5=⟨#[120]⟩:=by kernel_rfl
theorem aNi:aR cP 5=6:=by kernel_rfl
theorem bO3:dL cP 40 6=false:=by kernel_rfl
theorem bO4:aT cP 40 6=6:=by kernel_rfl
theorem aNj:dK cP ⟨#[120]⟩ 6=((.mk ⟨#[120]⟩ []),6):=by rw[vY bO3,bO4]
theorem bO5:dL cP 44 6=false:=by kernel_rfl
theorem bO6:aT cP 44 6=6:=by kernel_rfl
theorem bO7:jR cP ([]:List Tm) 5=([(.mk ⟨#[120]⟩ [])],6):=by rw[wA (by decide) (by rw[aNh,aNi,aNj];exact bO5),aNh,aNi,aNj];dsimp only;rw[bO6];rfl
theorem bO8:aT cP 41 6=7:=by kernel_rfl
theorem bO9:dK cP ⟨#[114,111,108,101]⟩ 4=((.mk ⟨#[114,111,108,101]⟩ [(.mk ⟨#[120]⟩ [])]),7):=by rw[vZ bO1,bO2,bO7];dsimp only;rw[bO8]
theorem bPa:dL cP 46 7=true:=by kernel_rfl
theorem bPb:aT cP 46 7=8:=by kernel_rfl
theorem bPc:jC cP ([]:List Lt) 7=([],8):=by rw[C7 (by decide) bPa,bPb]
theorem bPd:jS cP ⟨#[114,111,108,101]⟩ 4=(lZ,8):=by unfold jS;rw[bO9];dsimp only;rw[bPc];rfl
theorem aNk:bK cP 8=⟨#[112]⟩:=by kernel_rfl
theorem bPe:aR cP 8=10:=by kernel_rfl
theorem bPf:dL cP 40 10=true:=by kernel_rfl
theorem bPg:aT cP 40 10=11:=by kernel_rfl
theorem aNl:bK cP 11=⟨#[97]⟩:=by kernel_rfl
theorem aNm:aR cP 11=12:=by kernel_rfl
theorem bPh:dL cP 40 12=false:=by kernel_rfl
theorem bPi:aT cP 40 12=12:=by kernel_rfl
theorem aNn:dK cP ⟨#[97]⟩ 12=((.mk ⟨#[97]⟩ []),12):=by rw[vY bPh,bPi]
theorem bPj:dL cP 44 12=false:=by kernel_rfl
theorem bPk:aT cP 44 12=12:=by kernel_rfl
theorem bPl:jR cP ([]:List Tm) 11=([(.mk ⟨#[97]⟩ [])],12):=by rw[wA (by decide) (by rw[aNl,aNm,aNn];exact bPj),aNl,aNm,aNn];dsimp only;rw[bPk];rfl
theorem bPm:aT cP 41 12=13:=by kernel_rfl
theorem bPn:dK cP ⟨#[112]⟩ 10=((.mk ⟨#[112]⟩ [(.mk ⟨#[97]⟩ [])]),13):=by rw[vZ bPf,bPg,bPl];dsimp only;rw[bPm]
theorem bPo:dL cP 46 13=false:=by kernel_rfl
theorem aNo:aT cP 46 13=14:=by kernel_rfl
theorem aNp:eX cP 14=(false,⟨#[113]⟩,18):=by kernel_rfl
theorem bPp:dL cP 40 18=true:=by kernel_rfl
theorem bPq:aT cP 40 18=19:=by kernel_rfl
theorem aNq:bK cP 19=⟨#[98]⟩:=by kernel_rfl
theorem aNr:aR cP 19=20:=by kernel_rfl
theorem bPr:dL cP 40 20=false:=by kernel_rfl
theorem bPs:aT cP 40 20=20:=by kernel_rfl
theorem aNs:dK cP ⟨#[98]⟩ 20=((.mk ⟨#[98]⟩ []),20):=by rw[vY bPr,bPs]
theorem bPt:dL cP 44 20=false:=by kernel_rfl
theorem bPu:aT cP 44 20=20:=by kernel_rfl
theorem bPv:jR cP ([]:List Tm) 19=([(.mk ⟨#[98]⟩ [])],20):=by rw[wA (by decide) (by rw[aNq,aNr,aNs];exact bPt),aNq,aNr,aNs];dsimp only;rw[bPu];rfl
theorem bPw:aT cP 41 20=21:=by kernel_rfl
theorem bPx:dK cP ⟨#[113]⟩ 18=((.mk ⟨#[113]⟩ [(.mk ⟨#[98]⟩ [])]),21):=by rw[vZ bPp,bPq,bPv];dsimp only;rw[bPw]
theorem bPy:dL cP 46 21=true:=by kernel_rfl
theorem bPz:aT cP 46 21=22:=by kernel_rfl
theorem bP0:jC cP ([⟨false,(.mk ⟨#[113]⟩ [(.mk ⟨#[98]⟩ [])])⟩]:List Lt) 21=([⟨false,(.mk ⟨#[113]⟩ [(.mk ⟨#[98]⟩ [])])⟩],22):=by rw[C7 (by decide) bPy,bPz]
theorem bP1:jC cP ([]:List Lt) 13=([⟨false,(.mk ⟨#[113]⟩ [(.mk ⟨#[98]⟩ [])])⟩],22):=by rw[aCv (by decide) bPo (by rw[aNo,aNp];decide),aNo,aNp];dsimp only;rw[bPx];exact bP0
theorem bP2:jS cP ⟨#[112]⟩ 10=(nB,22):=by unfold jS;rw[bPn];dsimp only;rw[bP1];rfl
theorem bP3:bK cP 22=⟨#[]⟩:=by kernel_rfl
theorem bP4:mQ cP ([lZ,nB]:List Rl) 22= [lZ,nB]:=by rw[aCy (by rw[bP3];rfl)]
theorem bP5:mQ cP ([lZ]:List Rl) 8= [lZ,nB]:=by rw[C8 (by decide) (by rw[aNk];decide),aNk,bPe,bP2];exact bP4
theorem bP6:mQ cP ([]:List Rl) 0= [lZ,nB]:=by rw[C8 (by decide) (by rw[aNg];decide),aNg,bO0,bPd];exact bP5
def cQ:ByteArray:=⟨#[114,111,108,101,40,120,41,46,32,112,40,97,41,32,105,102,32,113,40,120,41,46]⟩
def rK:Rl:=⟨(.mk ⟨#[114,111,108,101]⟩ [(.mk ⟨#[120]⟩ [])]),[]⟩
def tB:Rl:=⟨(.mk ⟨#[112]⟩ [(.mk ⟨#[97]⟩ [])]),[⟨false,(.mk ⟨#[113]⟩ [(.mk ⟨#[120]⟩ [])])⟩]⟩
theorem aNt:bK cQ 0=⟨#[114,111,108,101]⟩:=by kernel_rfl
theorem bP7:aR cQ 0=4:=by kernel_rfl
theorem bP8:dL cQ 40 4=true:=by kernel_rfl
theorem bP9:aT cQ 40 4=5:=by kernel_rfl
theorem aNu:bK cQ 5=⟨#[120]⟩:=by kernel_rfl
theorem aNv:aR cQ 5=6:=by kernel_rfl
theorem bQa:dL cQ 40 6=false:=by kernel_rfl
theorem bQb:aT cQ 40 6=6:=by kernel_rfl
theorem aNw:dK cQ ⟨#[120]⟩ 6=((.mk ⟨#[120]⟩ []),6):=by rw[vY bQa,bQb]
theorem bQc:dL cQ 44 6=false:=by kernel_rfl
theorem bQd:aT cQ 44 6=6:=by kernel_rfl
theorem bQe:jR cQ ([]:List Tm) 5=([(.mk ⟨#[120]⟩ [])],6):=by rw[wA (by decide) (by rw[aNu,aNv,aNw];exact bQc),aNu,aNv,aNw];dsimp only;rw[bQd];rfl
theorem bQf:aT cQ 41 6=7:=by kernel_rfl
theorem bQg:dK cQ ⟨#[114,111,108,101]⟩ 4=((.mk ⟨#[114,111,108,101]⟩ [(.mk ⟨#[120]⟩ [])]),7):=by rw[vZ bP8,bP9,bQe];dsimp only;rw[bQf]
theorem bQh:dL cQ 46 7=true:=by kernel_rfl
theorem bQi:aT cQ 46 7=8:=by kernel_rfl
theorem bQj:jC cQ ([]:List Lt) 7=([],8):=by rw[C7 (by decide) bQh,bQi]
theorem bQk:jS cQ ⟨#[114,111,108,101]⟩ 4=(rK,8):=by unfold jS;rw[bQg];dsimp only;rw[bQj];rfl
theorem aNx:bK cQ 8=⟨#[112]⟩:=by kernel_rfl
theorem bQl:aR cQ 8=10:=by kernel_rfl
theorem bQm:dL cQ 40 10=true:=by kernel_rfl
theorem bQn:aT cQ 40 10=11:=by kernel_rfl
theorem aNy:bK cQ 11=⟨#[97]⟩:=by kernel_rfl
theorem aNz:aR cQ 11=12:=by kernel_rfl
theorem bQo:dL cQ 40 12=false:=by kernel_rfl
theorem bQp:aT cQ 40 12=12:=by kernel_rfl
theorem aN0:dK cQ ⟨#[97]⟩ 12=((.mk ⟨#[97]⟩ []),12):=by rw[vY bQo,bQp]
theorem bQq:dL cQ 44 12=false:=by kernel_rfl
theorem bQr:aT cQ 44 12=12:=by kernel_rfl
theorem bQs:jR cQ ([]:List Tm) 11=([(.mk ⟨#[97]⟩ [])],12):=by rw[wA (by decide) (by rw[aNy,aNz,aN0];exact bQq),aNy,aNz,aN0];dsimp only;rw[bQr];rfl
theorem bQt:aT cQ 41 12=13:=by kernel_rfl
theorem bQu:dK cQ ⟨#[112]⟩ 10=((.mk ⟨#[112]⟩ [(.mk ⟨#[97]⟩ [])]),13):=by rw[vZ bQm,bQn,bQs];dsimp only;rw[bQt]
theorem bQv:dL cQ 46 13=false:=by kernel_rfl
theorem aN1:aT cQ 46 13=14:=by kernel_rfl
theorem aN2:eX cQ 14=(false,⟨#[113]⟩,18):=by kernel_rfl
theorem bQw:dL cQ 40 18=true:=by kernel_rfl
theorem bQx:aT cQ 40 18=19:=by kernel_rfl
theorem aN3:bK cQ 19=⟨#[120]⟩:=by kernel_rfl
theorem aN4:aR cQ 19=20:=by kernel_rfl
theorem bQy:dL cQ 40 20=false:=by kernel_rfl
theorem bQz:aT cQ 40 20=20:=by kernel_rfl
theorem aN5:dK cQ ⟨#[120]⟩ 20=((.mk ⟨#[120]⟩ []),20):=by rw[vY bQy,bQz]
theorem bQ0:dL cQ 44 20=false:=by kernel_rfl
theorem bQ1:aT cQ 44 20=20:=by kernel_rfl
theorem bQ2:jR cQ ([]:List Tm) 19=([(.mk ⟨#[120]⟩ [])],20):=by rw[wA (by decide) (by rw[aN3,aN4,aN5];exact bQ0),aN3,aN4,aN5];dsimp only;rw[bQ1];rfl
theorem bQ3:aT cQ 41 20=21:=by kernel_rfl
theorem bQ4:dK cQ ⟨#[113]⟩ 18=((.mk ⟨#[113]⟩ [(.mk ⟨#[120]⟩ [])]),21):=by rw[vZ bQw,bQx,bQ2];dsimp only;rw[bQ3]
theorem bQ5:dL cQ 46 21=true:=by kernel_rfl
theorem bQ6:aT cQ 46 21=22:=by kernel_rfl
theorem bQ7:jC cQ ([⟨false,(.mk ⟨#[113]⟩ [(.mk ⟨#[120]⟩ [])])⟩]:List Lt) 21=([⟨false,(.mk ⟨#[113]⟩ [(.mk ⟨#[120]⟩ [])])⟩],22):=by rw[C7 (by decide) bQ5,bQ6]
theorem bQ8:jC cQ ([]:List Lt) 13=([⟨false,(.mk ⟨#[113]⟩ [(.mk ⟨#[120]⟩ [])])⟩],22):=by rw[aCv (by decide) bQv (by rw[aN1,aN2];decide),aN1,aN2];dsimp only;rw[bQ4];exact bQ7
theorem bQ9:jS cQ ⟨#[112]⟩ 10=(tB,22):=by unfold jS;rw[bQu];dsimp only;rw[bQ8];rfl
theorem bRa:bK cQ 22=⟨#[]⟩:=by kernel_rfl
theorem bRb:mQ cQ ([rK,tB]:List Rl) 22= [rK,tB]:=by rw[aCy (by rw[bRa];rfl)]
theorem bRc:mQ cQ ([rK]:List Rl) 8= [rK,tB]:=by rw[C8 (by decide) (by rw[aNx];decide),aNx,bQl,bQ9];exact bRb
theorem bRd:mQ cQ ([]:List Rl) 0= [rK,tB]:=by rw[C8 (by decide) (by rw[aNt];decide),aNt,bP7,bQk];exact bRc
theorem aDs:eF [lZ,nB]= [⟨1,0,0⟩,⟨4,0,0⟩,⟨4,0,1⟩,⟨1,1,0⟩,⟨2,1,0⟩,⟨3,1,0⟩,⟨4,1,1⟩,⟨4,1,2⟩,⟨4,1,3⟩,⟨4,1,5⟩]:=by kernel_rfl
theorem bRe:kK [lZ,nB] ⟨4,1,5⟩= [rK,tB]:=by kernel_rfl
theorem aDt (t:Tm):ACall prog 138 [eT t] (fun r=>r=bl (B8 t)):=by
 obtain⟨s,ts⟩:=t
 have h1:=aCa s
 have h2:=N8 s
 have e:B8 (.mk s ts)=(decide (ts.length=0)&&(lS s||(gP s).2)):=by
  unfold B8 oV
  rw[bX,iT]
  cases ts<;>rfl
 rw[e]
 generalize gP s=q at*
 obtain⟨v,b⟩:=q
 generalize lS s=a at*
 dsimp only at*
 by_cases h0:ts.length=0
 ·rw[decide_eq_true h0,Bool.true_and]
  cases a<;>cases b
  all_goals refine aQ func138 call138 rfl (by simp[ntmps138]) ?_;simp only[ntmps138,results138]
  all_goals repeat' (first|(refine aA fun _ _=>?_)|refine zHg ?_|(refine aM [] ?_;simp[go_sem,h0])|refine aH rfl (h1) (by simp) ?_|refine aH rfl (h2) (by simp) ?_|simp(disch:=omega) [go_sem,h0])
 ·rw[decide_eq_false h0,Bool.false_and]
  cases a<;>cases b
  all_goals refine aQ func138 call138 rfl (by simp[ntmps138]) ?_;simp only[ntmps138,results138]
  all_goals repeat' (first|(refine aA fun _ _=>?_)|refine zHg ?_|(refine aM [] ?_;simp[go_sem,h0])|refine aH rfl (h1) (by simp) ?_|simp(disch:=omega) [go_sem,h0])
theorem aDu {s:ByteArray} {ts:List Tm}:B8 (.mk s ts)=(decide (ts.length=0)&&oV s):=by
 unfold B8
 rw[bX,iT]
 cases ts<;>rfl
theorem pE {L:List Tm}:(L.map aO).map loose=L.map aO:=by
 rw[List.map_map]
 refine List.map_congr_left fun t _=>?_
 show loose (aO t)=aO t
 rw[oS];rfl
theorem yQ: ∀l:List Tm,(cD l).length<=bZ l:=by
 have key: ∀t:Tm,(sX t).length<=t.size:=by
  refine fL fun t ih=>?_
  obtain⟨s,ts⟩:=t
  simp only[bX]at ih
  rw[aDl,eU,bX]
  split
  ·split<;>simp
  ·have: ∀l:List Tm,(∀u∈l,(sX u).length<=u.size)->(cD l).length<=bZ l:=by
    intro l
    induction l with
    |nil=>intro _;simp[E7]
    |cons u r ihr=>
     intro h
     rw[E8,List.length_append]
     have:=h u (by simp)
     have:=ihr fun v hv=>h v (by simp[hv])
     simp only[bZ]
     omega
   have:=this ts ih
   omega
 intro l
 induction l with
 |nil=>simp[E7]
 |cons u r ihr=>
  rw[E8,List.length_append]
  have:=key u
  simp only[bZ]
  omega
abbrev bE (n:Nat):AObj:=⟨false,false,true,1,[.ref 1001 0 n],0⟩
abbrev bI (S:List ByteArray):AObj:=⟨true,false,false,1,S.map aI,0⟩
abbrev fP (S:List ByteArray):aF:= [(1000,bE S.length),(1001,bI S)]
abbrev fZ (S:List ByteArray):aF:= [(1000,bE S.length),(1001,⟨true,false,true,1,S.map aI,0⟩)]
abbrev F7:aF:= [(1000,⟨false,false,true,1,[.list false true []],0⟩)]
theorem R8 (S T:List ByteArray):fP (S++T)= [(1000,bE (S.length+T.length)),(1001,⟨true,false,false,1,S.map aI++T.map aI,0⟩)]:=by
 unfold fP bE bI
 rw[List.length_append,List.map_append]
theorem aN6 (S T:List ByteArray):fZ (S++T)= [(1000,bE (S.length+T.length)),(1001,⟨true,false,true,1,S.map aI++T.map aI,0⟩)]:=by
 unfold fZ bE
 rw[List.length_append,List.map_append]
theorem aN7 (S T U:List ByteArray):fP (S++T++U)= [(1000,bE (S.length+T.length+U.length)),(1001,⟨true,false,false,1,S.map aI++T.map aI++U.map aI,0⟩)]:=by
 rw[R8,List.length_append,List.map_append]
theorem bRf (S:List ByteArray) (s:ByteArray) (hS:S.length<=2000000):MCall prog 61 [.sc (.string s),.ptr 1000 0 0] (fZ S) (fun r o'=>r= .sc (.string s)/\o'=fP (S++ [s])):=by
 rw[R8]
 refine dC func61 call61 rfl (by simp[ntmps61]) ?_;simp only[ntmps61,results61]
 repeat' (first|(refine aA fun _ _=>?_)|refine zHg ?_|simp(disch:=omega) [go_sem,fZ,bE,bI,aI]|refine zAo ?_|fail)
 try any_goals omega
 refine cJ ⟨9,[(3,.sc (.string s))],[(1000,bE (S.length+1)),(1001,⟨true,false,false,1,S.map aI++ [.sc (.string s)],0⟩)]⟩ [.sc (.string s)] (Le.renSub [(7,1001),(1001,7)] [(1001,7),(7,1001)] (by simp[go_sem,fZ,bE,bI,aI]) (by simp[go_sem,fZ,bE,bI,aI]) (Le.sub4 rfl (by simp[go_sem,fZ,bE,bI,aI]))) (by simp[go_sem,fZ,bE,bI,aI]) ⟨rfl,rfl⟩
theorem aDv: ∀(n:Nat) (ts:List Tm) (le fu:Bool) (X:aF) (S:List ByteArray),bZ ts<n->bZ ts<=1000000->S.length+bZ ts<=2000000->(X=fZ S/\True\/X=F7/\S= [])->
 MCall prog 102 [.list le fu (ts.map aO),.clo 61 [.ptr 1000 0 0]] X (fun r o'=>r= .list false false (ts.map aO)/\o'=fP (S++cD ts))
 |0,ts,le,fu,X,S,hn,_,_,_=>absurd hn (Nat.not_lt_zero _)
 |n+1,ts,le,fu,X,S,hn,hz,hS,hX=>by
  have ih:=aDv n
  have hlen:=qZ ts
  have key:MCall prog 102 [.list le fu (ts.map aO),.clo 61 [.ptr 1000 0 0]] X (fun r o'=>r= .ref 900 0 ts.length/\o'=(900,⟨true,false,false,2,ts.map aO,0⟩)::fP (S++cD ts)):=by
   have hcn:cD []= []:=rfl
   rw[R8]
   rcases hX with⟨rfl,hS0⟩|⟨rfl,hS0⟩
   all_goals refine dC func102 call102 rfl (by simp[ntmps102]) ?_;simp only[ntmps102,results102]
   all_goals skip
   all_goals repeat' (first|(refine aA fun _ _=>?_)|refine zHg ?_|simp(disch:=omega) [go_sem,fZ,bE,bI])
   all_goals refine bL [1,8,9] [1000,1001,900] (fun i:Nat=> [(10,nt .i64 i),(5,.ref 900 0 i)]) (fun i:Nat=> [(1000,bE (S++cD (ts.take i)).length),(1001,bI (S++cD (ts.take i))),(900,⟨true,false,false,2,(ts.take i).map aO,0⟩)]) (fun i:Nat=>ts.length - i) (fun i:Nat=>i<=ts.length) (0) (by first|(refine Le.trans ?_ (Le.unpin 1001 rfl);refine Le.trans ?_ (Le.nil (i:=5) (T:=900) (es:=2) rfl);refine Le.sub4 rfl ?_;simp[go_sem,fZ,bE,bI,hcn,hS0,List.append_nil,List.take_zero,List.map_nil,List.length_nil];done)|(refine Le.trans ?_ (Le.nilBox 1000 1001 1 rfl (by decide) (by decide));refine Le.trans ?_ (Le.nil (i:=5) (T:=900) (es:=2) rfl);refine Le.sub4 rfl ?_;simp[go_sem,fZ,bE,bI,hcn,hS0,List.append_nil,List.take_zero,List.map_nil,List.length_nil];done)) ⟨?_⟩ ?_
   all_goals(first|exact Nat.zero_le _|skip)
   all_goals intro i hi AA hAA;simp only[kL,Nat.reduceBEq,Nat.reduceEqDiff]
   all_goals(
    by_cases hlt:i<ts.length
    ·have hsz:=yA hlt
     have htk:=aKh hlt
     have htl:=aB5 ts (i+1)
     have hct:=yQ (ts.take i)
     have htn:=eZ hlt
     have hcx:cD (ts.take (i+1))=cD (ts.take i)++sX ts[i]:=by
      rw[htn,E9]
      congr 1
      rw[E8,E7,List.append_nil]
     have hcc:=aDt ts[i]
     generalize cD (ts.take i)=C at*
     have hAl:(ts.take i).length=i:=by rw[List.length_take];omega
     generalize ts.take i=A at*
     generalize hti:ts[i]=t at*
     obtain⟨s,us⟩:=t
     rw[eU,bX]at hsz htk
     rw[aDl,htn]at hcx
     rw[aDu]at hcc
     by_cases h0:us.length=0
     ·rw[if_pos h0]at hcx
      rw[decide_eq_true h0,Bool.true_and]at hcc
      obtain rfl:=List.eq_nil_of_length_eq_zero h0
      by_cases hc:oV s=true
      ·rw[if_pos hc]at hcx
       rw[hc]at hcc
       have hcl:=bRf (S++C) s (by rw[List.length_append];omega)
       rw[aN6,aN7]at hcl
       repeat' (first|(refine aA fun _ _=>?_)|refine zHg ?_|refine aH rfl (hcc) (by simp) ?_|simp(disch:=omega) [go_sem,hlt,hti,hAl,bE,bI])
       refine aX [] [] 10000 _ _ (Fits.mk' (by simp[go_sem,bE,bI,List.length_append,List.map_append]) (by simp[go_sem,bE,bI,List.length_append,List.map_append])) (by simp[go_sem,bE,bI,List.length_append,List.map_append]) (by simp[go_sem,bE,bI,List.length_append,List.map_append]) (hcl) (by simp[go_sem,bE,bI,List.length_append,List.map_append]) (by simp[go_sem,bE,bI,List.length_append,List.map_append]) ?_
       repeat' (first|(refine aA fun _ _=>?_)|refine zHg ?_|(refine(hAA.next (i+1) (by refine Le.trans ?_ (Le.looseRow 900 rfl (by show(0:Nat)≠1;decide));exact(Le.renSub [(11001,1001),(1001,11001)] [(11001,1001),(1001,11001)] (by simp[go_sem,hAl,hcx,htn,pE,aI,Nat.add_assoc]) (by simp[go_sem,hAl,hcx,htn,pE,aI,Nat.add_assoc]) (Le.sub4 rfl (by simp[go_sem,hAl,hcx,htn,pE,aI,Nat.add_assoc])))) (by(try dsimp only);omega) ?_))|simp(disch:=omega) [go_sem,hlt,hti,hAl,bE,bI]|refine zAo ?_|fail)
       try any_goals omega
       all_goals exact⟨hlt⟩
      ·rw[if_neg hc,List.append_nil]at hcx
       rw[Bool.not_eq_true]at hc
       rw[hc]at hcc
       repeat' (first|(refine aA fun _ _=>?_)|refine zHg ?_|refine aH rfl (hcc) (by simp) ?_|(refine(hAA.next (i+1) (by refine Le.trans ?_ (Le.looseRow 900 rfl (by show(0:Nat)≠1;decide));exact(Le.sub4 rfl (by simp[go_sem,hAl,hcx,htn,pE,aI,Nat.add_assoc]))) (by(try dsimp only);omega) ?_))|simp(disch:=omega) [go_sem,hlt,hti,hAl,bE,bI]|refine zAo ?_|fail)
       try any_goals omega
       all_goals exact⟨hlt⟩
     ·rw[if_neg h0]at hcx
      rw[decide_eq_false h0,Bool.false_and]at hcc
      have hcu:=yQ us
      have hr:=ih us false false (fZ (S++C)) (S++C) (by omega) (by omega) (by rw[List.length_append];omega) (.inl ⟨rfl,trivial⟩)
      generalize cD us=D at*
      rw[aN6,aN7]at hr
      repeat' (first|(refine aA fun _ _=>?_)|refine zHg ?_|(with_reducible refine cY ?_;first|(exact cV)|(refine zSkip ?_)|(refine cW rfl ?_ ?_))|(with_reducible refine cX ?_;first|(refine zDone ?_)|(refine zQu 0 rfl rfl rfl rfl ?_)|(refine zQu 1 rfl rfl rfl rfl ?_)|(refine zQu 2 rfl rfl rfl rfl ?_)|(refine zQu 3 rfl rfl rfl rfl ?_)|(refine zQu 4 rfl rfl rfl rfl ?_)|(refine zAll ?_;show cH _ _ _ _ _ _ _))|with_reducible refine dB ?_|(refine zqd ?_ ?_<;>(intro h;first|(exfalso;omega)|(simp only[h,zT])))|refine aH rfl (hcc) (by simp) ?_|simp(disch:=omega) [go_sem,hlt,hti,hAl,h0,bE,bI]|refine zAny aS ?_|fail)
      all_goals refine aX [] [] 10000 _ _ (Fits.mk' (by simp[go_sem,bE,bI,List.length_append,List.map_append]) (by simp[go_sem,bE,bI,List.length_append,List.map_append])) (by simp[go_sem,bE,bI,List.length_append,List.map_append]) (by simp[go_sem,bE,bI,List.length_append,List.map_append]) (hr) (by simp[go_sem,bE,bI,List.length_append,List.map_append]) (by simp[go_sem,bE,bI,List.length_append,List.map_append]) ?_
      all_goals repeat' (first|(refine aA fun _ _=>?_)|refine zHg ?_|(with_reducible refine cY ?_;first|(exact cV)|(refine zSkip ?_)|(refine cW rfl ?_ ?_))|(with_reducible refine cX ?_;first|(refine zDone ?_)|(refine zQu 0 rfl rfl rfl rfl ?_)|(refine zQu 1 rfl rfl rfl rfl ?_)|(refine zQu 2 rfl rfl rfl rfl ?_)|(refine zQu 3 rfl rfl rfl rfl ?_)|(refine zQu 4 rfl rfl rfl rfl ?_)|(refine zAll ?_;show cH _ _ _ _ _ _ _))|with_reducible refine dB ?_|(refine(hAA.next (i+1) (by refine Le.trans ?_ (Le.looseRow 900 rfl (by show(0:Nat)≠1;decide));exact(Le.renSub [(11001,1001),(1001,11001)] [(11001,1001),(1001,11001)] (by simp[go_sem,hAl,hcx,htn,pE,aI,Nat.add_assoc]) (by simp[go_sem,hAl,hcx,htn,pE,aI,Nat.add_assoc]) (Le.sub4 rfl (by simp[go_sem,hAl,hcx,htn,pE,aI,Nat.add_assoc])))) (by(try dsimp only);omega) ?_))|simp(disch:=omega) [go_sem,hlt,hti,hAl,h0,bE,bI]|refine zAo ?_|fail)
      try any_goals omega
      all_goals exact⟨hlt⟩
    ·obtain rfl:i=ts.length:=by omega
     rw[List.take_length]
     repeat' (first|(refine aA fun _ _=>?_)|refine zHg ?_|simp(disch:=omega) [go_sem,fP,bE,bI])
     refine cJ ⟨40,[(4,.ref 900 0 ts.length)],(900,⟨true,false,false,2,ts.map aO,0⟩):: [(1000,bE (S.length+(cD ts).length)),(1001,⟨true,false,false,1,S.map aI++(cD ts).map aI,0⟩)]⟩ [.ref 900 0 ts.length] (Le.renSub [] [] (by simp[go_sem,fP,bE,bI]) (by simp[go_sem,fP,bE,bI]) (Le.sub4 rfl (by simp[go_sem,fP,bE,bI]))) (by simp[go_sem,fP,bE,bI]) ⟨rfl,rfl⟩)
  refine key.shared (s':=?_) (y:= .list false false (ts.map aO)) (by simp[go_sem,cA];rfl) (by simp[go_sem]) (by simp[go_sem]) (by simp[go_sem])
theorem bRg (s:ByteArray):ACall prog 69 [.sc (.string s)] (fun r=>r= .sc (.string s)):=by
 refine aQ func69 call69 rfl (by simp[ntmps69]) ?_;simp only[ntmps69,results69]
 repeat' (first|(refine aA fun _ _=>?_)|refine zHg ?_|(refine aM [] ?_;simp[go_sem])|simp(disch:=omega) [go_sem])
theorem aDw: ∀(n:Nat) (ts:List Tm) (le fu:Bool),bZ ts<n->bZ ts<=1000000->
 ACall prog 102 [.list le fu (ts.map aO),.clo 69 []] (fun r=>r= .list false false (ts.map aO))
 |0,ts,le,fu,hn,_=>absurd hn (Nat.not_lt_zero _)
 |n+1,ts,le,fu,hn,hz=>by
  have ih:=aDw n
  have hlen:=qZ ts
  refine ACall.frz (es:=2) ?_
  refine ACall.own_nil ?_
  refine aQ func102 call102 rfl (by simp[ntmps102]) ?_;simp only[ntmps102,results102]
  repeat' (first|(refine aA fun _ _=>?_)|refine zHg ?_|simp(disch:=omega) [go_sem])
  refine bL [1,8,9] [900] (fun i:Nat=> [(10,nt .i64 i),(5,.ref 900 0 i)]) (fun i:Nat=> [(900,⟨true,false,false,2,(ts.take i).map aO,0⟩)]) (fun i:Nat=>ts.length - i) (fun i:Nat=>i<=ts.length) (0) (by refine Le.trans ?_ (Le.nil (i:=5) (T:=900) (es:=2) rfl);exact(Le.sub4 rfl (by simp[go_sem,List.take_zero,List.map_nil,List.length_nil]))) ⟨?_⟩ ?_
  ·exact Nat.zero_le _
  intro i hi AA hAA;simp only[kL,Nat.reduceBEq,Nat.reduceEqDiff]
  by_cases hlt:i<ts.length
  ·have hsz:=yA hlt
   have htn:=eZ hlt
   have hcc:=aDt ts[i]
   have hAl:(ts.take i).length=i:=by rw[List.length_take];omega
   generalize ts.take i=A at*
   generalize hti:ts[i]=t at*
   obtain⟨s,us⟩:=t
   rw[eU,bX]at hsz
   rw[aDu]at hcc
   by_cases h0:us.length=0
   ·rw[decide_eq_true h0,Bool.true_and]at hcc
    obtain rfl:=List.eq_nil_of_length_eq_zero h0
    have hcl:=bRg s
    cases hc:oV s
    all_goals rw[hc]at hcc
    all_goals repeat' (first|(refine aA fun _ _=>?_)|refine zHg ?_|refine aH rfl (hcc) (by simp) ?_|refine aH rfl (hcl) (by simp) ?_|(refine(hAA.next (i+1) (by refine Le.trans ?_ (Le.looseRow 900 rfl (by show(0:Nat)≠1;decide));exact(Le.sub4 rfl (by simp[go_sem,hAl,htn,pE,aI]))) (by(try dsimp only);omega) ?_))|simp(disch:=omega) [go_sem,hlt,hti,hAl]|refine zAo ?_|fail)
    try any_goals omega
    all_goals exact⟨hlt⟩
   ·rw[decide_eq_false h0,Bool.false_and]at hcc
    have hr:=ih us false false (by omega) (by omega)
    repeat' (first|(refine aA fun _ _=>?_)|refine zHg ?_|(refine zqd ?_ ?_<;>(intro h;first|(exfalso;omega)|(simp only[h,zT])))|refine aH rfl (hcc) (by simp) ?_|refine dP rfl (hr) rfl (by simp) ?_|(refine(hAA.next (i+1) (by refine Le.trans ?_ (Le.looseRow 900 rfl (by show(0:Nat)≠1;decide));exact(Le.sub4 rfl (by simp[go_sem,hAl,htn,pE,aI]))) (by(try dsimp only);omega) ?_))|simp(disch:=omega) [go_sem,hlt,hti,h0,hAl]|refine zAo ?_|refine zDr 7 aS ?_|fail)
    try any_goals omega
    all_goals exact⟨hlt⟩
  ·obtain rfl:i=ts.length:=by omega
   rw[List.take_length]
   repeat' (first|(refine aA fun _ _=>?_)|refine zHg ?_|(refine aM [] ?_;simp[go_sem])|simp(disch:=omega) [go_sem])
abbrev bC (n:Int):AObj:=⟨false,false,true,1,[nt .i64 n],0⟩
abbrev bF (m:Mu):AObj:=⟨false,false,true,3,[cR m],0⟩
abbrev bG (C:List ByteArray):AObj:=⟨false,false,true,1,[.list false false (C.map aI)],0⟩
abbrev bN (n:Int) (m:Mu) (C:List ByteArray):aF:= [(1000,bC n),(1001,bF m),(1002,bG C)]
theorem bRh (m:Mu) (C:List ByteArray) (n:Int) (k p j:Nat) (hk:n+1=(k:Int)) (hk2:k<=3000000) (hKd:m.index.tdiv C.length=(p:Int)) (hpm:(p:Int)<=9223372036854775807) (hJ:m.index.tmod C.length=(j:Int)) (hj:j<C.length) (s:ByteArray):
 MCall prog 71 [.sc (.string s),.ptr 1000 0 0,.ptr 1001 0 0,.ptr 1002 0 0] (bN n m C) (fun r o'=>r= .sc (.string (if k=p then C[j]else s))/\o'=bN (n+1) m C):=by
 have hn0: ¬(C.length:Int)=0:=by omega
 have hne: ¬C= []:=fun h=>by rw[h]at hj;simp at hj
 have hKK:(n+1=(p:Int))↔k=p:=by omega
 by_cases hq:k=p
 ·rw[if_pos hq]
  refine dC func71 call71 rfl (by simp[ntmps71]) ?_;simp only[ntmps71,results71]
  repeat' (first|(refine aA fun _ _=>?_)|refine zHg ?_|simp(disch:=omega) [go_sem,bN,bC,bF,bG,hKd,hJ,hn0,hne,hKK,hq,hj,aI]|refine zDr 7 aS ?_|fail)
  try any_goals omega
  refine cJ ⟨24,[(5,.sc (.string C[j]))],bN (n+1) m C⟩ [.sc (.string C[j])] (Le.renSub [] [] (by simp[go_sem,bN,bC,bF,bG,aI]) (by simp[go_sem,bN,bC,bF,bG,aI]) (Le.sub4 rfl (by simp[go_sem,bN,bC,bF,bG,aI]))) (by simp[go_sem,bN,bC,bF,bG,aI]) ⟨rfl,rfl⟩
 ·rw[if_neg hq]
  refine dC func71 call71 rfl (by simp[ntmps71]) ?_;simp only[ntmps71,results71]
  repeat' (first|(refine aA fun _ _=>?_)|refine zHg ?_|simp(disch:=omega) [go_sem,bN,bC,bF,bG,hKd,hJ,hn0,hne,hKK,hq,hj,aI]|refine zDr 7 aS ?_|fail)
  try any_goals omega
  refine cJ ⟨24,[(5,.sc (.string s))],bN (n+1) m C⟩ [.sc (.string s)] (Le.renSub [] [] (by simp[go_sem,bN,bC,bF,bG,aI]) (by simp[go_sem,bN,bC,bF,bG,aI]) (Le.sub4 rfl (by simp[go_sem,bN,bC,bF,bG,aI]))) (by simp[go_sem,bN,bC,bF,bG,aI]) ⟨rfl,rfl⟩
theorem aN8 (m:Mu) (C:List ByteArray) (p j:Nat) (hKd:m.index.tdiv C.length=(p:Int)) (hpm:(p:Int)<=9223372036854775807) (hJ:m.index.tmod C.length=(j:Int)) (hj:j<C.length): ∀(n:Nat) (ts:List Tm) (le fu:Bool) (e:Int) (k:Nat),bZ ts<n->bZ ts<=1000000->e+1=(k:Int)->k+bZ ts<=2000000->
 MCall prog 102 [.list le fu (ts.map aO),.clo 71 [.ptr 1000 0 0,.ptr 1001 0 0,.ptr 1002 0 0]] (bN e m C) (fun r o'=>r= .list false false ((dW p C[j] k ts).map aO)/\o'=bN (e+(cD ts).length) m C)
 |0,ts,le,fu,e,k,hn,_,_,_=>absurd hn (Nat.not_lt_zero _)
 |n+1,ts,le,fu,e,k,hn,hz,he,hS=>by
  have ih:=aN8 m C p j hKd hpm hJ hj n
  have hlen:=qZ ts
  have hch:=bRh m C
  have key:MCall prog 102 [.list le fu (ts.map aO),.clo 71 [.ptr 1000 0 0,.ptr 1001 0 0,.ptr 1002 0 0]] (bN e m C) (fun r o'=>r= .ref 900 0 ts.length/\o'=(900,⟨true,false,false,2,(dW p C[j] k ts).map aO,0⟩)::bN (e+(cD ts).length) m C):=by
   have hcn:cD []= []:=rfl
   have hrz:dW p C[j] k []= []:=bOv
   refine dC func102 call102 rfl (by simp[ntmps102]) ?_;simp only[ntmps102,results102]
   skip
   repeat' (first|(refine aA fun _ _=>?_)|refine zHg ?_|simp(disch:=omega) [go_sem,bN,bC,bF,bG])
   refine bL [1,8,9] [1000,900] (fun i:Nat=> [(10,nt .i64 i),(5,.ref 900 0 i)]) (fun i:Nat=> [(1000,bC (e+(cD (ts.take i)).length)),(900,⟨true,false,false,2,(dW p C[j] k (ts.take i)).map aO,0⟩)]) (fun i:Nat=>ts.length - i) (fun i:Nat=>i<=ts.length) (0) (by refine Le.trans ?_ (Le.nil (i:=5) (T:=900) (es:=2) rfl);exact(Le.sub4 rfl (by simp[go_sem,bN,bC,bF,bG,hcn,hrz,List.append_nil,List.take_zero,List.map_nil,List.length_nil]))) ⟨?_⟩ ?_
   ·exact Nat.zero_le _
   intro i hi AA hAA;simp only[kL,Nat.reduceBEq,Nat.reduceEqDiff]
   by_cases hlt:i<ts.length
   ·have hsz:=yA hlt
    have htk:=aKh hlt
    have htl:=aB5 ts (i+1)
    have hct:=yQ (ts.take i)
    have htn:=eZ hlt
    have hcx:cD (ts.take (i+1))=cD (ts.take i)++sX ts[i]:=by
     rw[htn,E9]
     congr 1
     rw[E8,E7,List.append_nil]
    have hrn:=bOu (K:=p) (c:=C[j]) (k:=k) hlt
    have hrl:(dW p C[j] k (ts.take i)).length=i:=by rw[aDm,List.length_take];omega
    have hcc:=aDt ts[i]
    generalize cD (ts.take i)=D at*
    generalize dW p C[j] k (ts.take i)=R at*
    generalize hti:ts[i]=t at*
    obtain⟨s,us⟩:=t
    rw[eU,bX]at hsz htk
    rw[aDl]at hcx
    rw[aDu]at hcc
    rw[aM6]at hrn
    have hk':e+D.length+1=((k+D.length:Nat):Int):=by omega
    by_cases h0:us.length=0
    ·rw[if_pos h0]at hcx hrn
     rw[decide_eq_true h0,Bool.true_and]at hcc
     obtain rfl:=List.eq_nil_of_length_eq_zero h0
     by_cases hc:oV s=true
     ·rw[if_pos hc]at hcx
      rw[hc]at hcc
      simp only[hc,true_and]at hrn
      have hcl:=hch (e+D.length) (k+D.length) p j hk' (by omega) hKd hpm hJ hj s
      generalize(if k+D.length=p then C[j]else s)=z at*
      repeat' (first|(refine aA fun _ _=>?_)|refine zHg ?_|refine aH rfl (hcc) (by simp) ?_|simp(disch:=omega) [go_sem,hlt,hti,hrl,bN,bC,bF,bG])
      refine aX [] [] 10000 _ _ (Fits.mk' (by simp[go_sem,bN,bC,bF,bG]) (by simp[go_sem,bN,bC,bF,bG])) (by simp[go_sem,bN,bC,bF,bG]) (by simp[go_sem,bN,bC,bF,bG]) (hcl) (by simp[go_sem,bN,bC,bF,bG]) (by simp[go_sem,bN,bC,bF,bG]) ?_
      repeat' (first|(refine aA fun _ _=>?_)|refine zHg ?_|(refine(hAA.next (i+1) (by refine Le.trans ?_ (Le.looseRow 900 rfl (by show(0:Nat)≠1;decide));exact(Le.sub4 rfl (by simp[go_sem,hrl,hcx,hrn,pE,aI,Int.add_assoc]))) (by(try dsimp only);omega) ?_))|simp(disch:=omega) [go_sem,hlt,hti,hrl,bN,bC,bF,bG]|refine zAo ?_|fail)
      try any_goals omega
      all_goals exact⟨hlt⟩
     ·rw[if_neg hc,List.append_nil]at hcx
      simp only[hc,false_and,if_false]at hrn
      rw[Bool.not_eq_true]at hc
      rw[hc]at hcc
      repeat' (first|(refine aA fun _ _=>?_)|refine zHg ?_|refine aH rfl (hcc) (by simp) ?_|(refine(hAA.next (i+1) (by refine Le.trans ?_ (Le.looseRow 900 rfl (by show(0:Nat)≠1;decide));exact(Le.sub4 rfl (by simp[go_sem,hrl,hcx,hrn,pE,aI]))) (by(try dsimp only);omega) ?_))|simp(disch:=omega) [go_sem,hlt,hti,hrl,bN,bC,bF,bG]|refine zAo ?_|fail)
      try any_goals omega
      all_goals exact⟨hlt⟩
    ·rw[if_neg h0]at hcx hrn
     rw[decide_eq_false h0,Bool.false_and]at hcc
     have hcu:=yQ us
     have hr:=ih us false false (e+D.length) (k+D.length) (by omega) (by omega) hk' (by omega)
     generalize dW p C[j] (k+D.length) us=W at*
     generalize cD us=V at*
     repeat' (first|(refine aA fun _ _=>?_)|refine zHg ?_|(with_reducible refine cY ?_;first|(exact cV)|(refine zSkip ?_)|(refine cW rfl ?_ ?_))|(with_reducible refine cX ?_;first|(refine zDone ?_)|(refine zQu 0 rfl rfl rfl rfl ?_)|(refine zQu 1 rfl rfl rfl rfl ?_)|(refine zQu 2 rfl rfl rfl rfl ?_)|(refine zQu 3 rfl rfl rfl rfl ?_)|(refine zQu 4 rfl rfl rfl rfl ?_)|(refine zAll ?_;show cH _ _ _ _ _ _ _))|with_reducible refine dB ?_|(refine zqd ?_ ?_<;>(intro h;first|(exfalso;omega)|(simp only[h,zT])))|refine aH rfl (hcc) (by simp) ?_|simp(disch:=omega) [go_sem,hlt,hti,h0,hrl,bN,bC,bF,bG]|refine zAny aS ?_|fail)
     all_goals refine aX [] [] 10000 _ _ (Fits.mk' (by simp[go_sem,bN,bC,bF,bG]) (by simp[go_sem,bN,bC,bF,bG])) (by simp[go_sem,bN,bC,bF,bG]) (by simp[go_sem,bN,bC,bF,bG]) (hr) (by simp[go_sem,bN,bC,bF,bG]) (by simp[go_sem,bN,bC,bF,bG]) ?_
     all_goals repeat' (first|(refine aA fun _ _=>?_)|refine zHg ?_|(with_reducible refine cY ?_;first|(exact cV)|(refine zSkip ?_)|(refine cW rfl ?_ ?_))|(with_reducible refine cX ?_;first|(refine zDone ?_)|(refine zQu 0 rfl rfl rfl rfl ?_)|(refine zQu 1 rfl rfl rfl rfl ?_)|(refine zQu 2 rfl rfl rfl rfl ?_)|(refine zQu 3 rfl rfl rfl rfl ?_)|(refine zQu 4 rfl rfl rfl rfl ?_)|(refine zAll ?_;show cH _ _ _ _ _ _ _))|with_reducible refine dB ?_|(refine(hAA.next (i+1) (by refine Le.trans ?_ (Le.looseRow 900 rfl (by show(0:Nat)≠1;decide));exact(Le.sub4 rfl (by simp[go_sem,hrl,hcx,hrn,pE,aI,Int.add_assoc]))) (by(try dsimp only);omega) ?_))|simp(disch:=omega) [go_sem,hlt,hti,h0,hrl,bN,bC,bF,bG]|refine zAo ?_|fail)
     try any_goals omega
     all_goals exact⟨hlt⟩
   ·obtain rfl:i=ts.length:=by omega
    rw[List.take_length]
    repeat' (first|(refine aA fun _ _=>?_)|refine zHg ?_|simp(disch:=omega) [go_sem,bN,bC,bF,bG])
    refine cJ ⟨40,[(4,.ref 900 0 ts.length)],(900,⟨true,false,false,2,(dW p C[j] k ts).map aO,0⟩)::bN (e+(cD ts).length) m C⟩ [.ref 900 0 ts.length] (Le.renSub [] [] (by simp[go_sem,bN,bC,bF,bG]) (by simp[go_sem,bN,bC,bF,bG]) (Le.sub4 rfl (by simp[go_sem,bN,bC,bF,bG]))) (by simp[go_sem,bN,bC,bF,bG]) ⟨rfl,rfl⟩
  have hrl:(dW p C[j] k ts).length=ts.length:=aDm
  refine key.shared (s':=?_) (y:= .list false false ((dW p C[j] k ts).map aO)) (by simp[go_sem,cA,hrl];rfl) (by simp[go_sem]) (by simp[go_sem]) (by simp[go_sem])
theorem bRi {L lo n:Nat}:Ab.loose1 (.ref L lo n)= .ref L lo n:=rfl
attribute [go_sem] bRi
structure SzM (r:Rl):Prop where
 head:bZ r.head.args<=20
 body:r.body.length<=8
 atom: ∀b∈r.body,bZ b.atom.args<=20
theorem aN9 (r:Rl) (hz:SzM r):
 MCall prog 60 [bH r,.clo 69 []] []
  (fun v o'=>v= .agg [.sc (.string r.head.name),.list false false (r.head.args.map aO),if r.body.length=0 then .list false true []else .ref 900 0 r.body.length]/\
   o'=(4,⟨false,false,false,3,[.agg [.sc (.string r.head.name),.list false false (r.head.args.map aO),if r.body.length=0 then .list false true []else .ref 900 0 r.body.length]],0⟩)::(if r.body.length=0 then[]else[(900,⟨true,false,false,3,r.body.map cF,0⟩)])):=by
 obtain⟨h,bs⟩:=r
 obtain⟨hz1,hz2,hz3⟩:=hz
 dsimp only at*
 have h1:=aDw _ h.args false false (Nat.lt_succ_self _) (by omega)
 have ih2: ∀(i:Nat) (hi:i<bs.length),ACall prog 102 [.list false false (bs[i].atom.args.map aO),.clo 69 []] (fun r=>r= .list false false (bs[i].atom.args.map aO)):=fun i hi=>aDw _ _ false false (Nat.lt_succ_self _) (Nat.le_trans (hz3 _ (List.getElem_mem hi)) (by decide))
 refine dC func60 call60 rfl (by simp[ntmps60]) ?_;simp only[ntmps60,results60]
 repeat' (first|(refine aA fun _ _=>?_)|refine zHg ?_|refine dP rfl (h1) rfl (by simp) ?_|simp(disch:=omega) [go_sem]|refine zDr 11 aS ?_|fail)
 refine bL [1,4,19,20] [5,900] (fun y:Nat×List Lt=> [(21,nt .i64 y.1),(5,.ptr 5 0 0)]) (fun y:Nat×List Lt=>(5,⟨false,false,false,3,[.agg [.sc (.string h.name),.list false false (h.args.map aO),if y.2.length=0 then .list false true []else .ref 900 0 y.2.length]],0⟩)::(if y.2.length=0 then[]else[(900,⟨true,false,false,3,y.2.map cF,0⟩)])) (fun y:Nat×List Lt=>bs.length - y.1) (fun y:Nat×List Lt=>y.1<=bs.length/\y.2.length=y.1/\y.2++bs.drop y.1=bs) ((0,[])) (Le.sub4 rfl (by simp[go_sem])) ⟨?_⟩ ?_
 ·exact⟨Nat.zero_le _,rfl,rfl⟩
 intro⟨i,a⟩ ⟨hi,ha,hinv⟩ AA hAA;simp only[kL,Nat.reduceBEq,Nat.reduceEqDiff]
 dsimp only at*
 by_cases hlt:i<bs.length
 ·have hu:=ih2 i hlt
  rw[List.drop_eq_getElem_cons hlt]at hinv
  clear ih2
  generalize hbi:bs[i]=b at*
  obtain⟨q,⟨s,us⟩⟩:=b
  dsimp only[bX,iT]at*
  by_cases h0:i=0
  ·subst h0
   obtain rfl:=List.eq_nil_of_length_eq_zero ha
   repeat' (first|(refine aA fun _ _=>?_)|refine zHg ?_|refine dP rfl (hu) rfl (by simp) ?_|(refine(hAA.next ((0+1,[⟨q,.mk s us⟩])) (Le.renSub [(40,900)] [(900,40)] (by simp[go_sem]) (by simp[go_sem]) (Le.sub4 rfl (by simp[go_sem]))) (by(try dsimp only);omega) ?_))|simp(disch:=omega) [go_sem,hlt,hbi]|refine zDr 14 aS ?_|fail)
   try any_goals omega
   all_goals exact⟨hlt,rfl,hinv⟩
  ·repeat' (first|(refine aA fun _ _=>?_)|refine zHg ?_|refine dP rfl (hu) rfl (by simp) ?_|(refine(hAA.next ((i+1,a++ [⟨q,.mk s us⟩])) (Le.sub4 rfl (by simp[go_sem,ha])) (by(try dsimp only);omega) ?_))|simp(disch:=omega) [go_sem,hlt,hbi,h0,ha]|refine zAo ?_|refine zDr 14 aS ?_|fail)
   try any_goals omega
   all_goals exact⟨hlt,by simp[ha],by rw[List.append_assoc];exact hinv⟩
 ·obtain rfl:i=bs.length:=by omega
  rw[List.drop_length,List.append_nil]at hinv
  subst hinv
  clear ih2
  by_cases h0:a.length=0
  ·obtain rfl:=List.eq_nil_of_length_eq_zero h0
   repeat' (first|(refine aA fun _ _=>?_)|refine zHg ?_|simp(disch:=omega) [go_sem])
   refine cJ ⟨44,[(4,.ptr 4 0 0)],(4,⟨false,false,false,3,[.agg [.sc (.string h.name),.list false false (h.args.map aO),.list false true []]],0⟩):: []⟩ [.agg [.sc (.string h.name),.list false false (h.args.map aO),.list false true []]] (Le.renSub [] [] (by simp[go_sem]) (by simp[go_sem]) (Le.sub4 rfl (by simp[go_sem]))) (by simp[go_sem]) ⟨rfl,rfl⟩
  ·repeat' (first|(refine aA fun _ _=>?_)|refine zHg ?_|simp(disch:=omega) [go_sem,h0])
   refine cJ ⟨44,[(4,.ptr 4 0 0)],(4,⟨false,false,false,3,[.agg [.sc (.string h.name),.list false false (h.args.map aO),.ref 900 0 a.length]],0⟩):: [(900,⟨true,false,false,3,a.map cF,0⟩)]⟩ [.agg [.sc (.string h.name),.list false false (h.args.map aO),.ref 900 0 a.length]] (Le.renSub [] [] (by simp[go_sem]) (by simp[go_sem]) (Le.sub4 rfl (by simp[go_sem]))) (by simp[go_sem]) ⟨rfl,rfl⟩
theorem bRj (r:Rl) (hz:SzM r):ACall prog 33 [bH r] (fun v=>v=bH r):=by
 have key:=aN9 r hz
 by_cases h0:r.body.length=0
 ·obtain⟨h,bs⟩:=r
  obtain rfl:=List.eq_nil_of_length_eq_zero h0
  simp only[List.length_nil,if_true]at key
  have k2:=key.loose (o1:= []) (by simp[go_sem]) (by simp[go_sem]) (by simp[go_sem])
  clear key
  simp only[go_sem]at k2
  refine aQ func33 call33 rfl (by simp[ntmps33]) ?_;simp only[ntmps33,results33]
  repeat' (first|(refine aA fun _ _=>?_)|refine zHg ?_|simp(disch:=omega) [go_sem])
  refine aX [] [] 10000 _ _ (Fits.mk' (by simp[go_sem]) (by simp[go_sem])) (by simp[go_sem]) (by simp[go_sem]) (k2) (by simp[go_sem]) (by simp[go_sem]) ?_
  repeat' (first|(refine aA fun _ _=>?_)|refine zHg ?_|(refine aM [] ?_;simp[go_sem])|simp(disch:=omega) [go_sem])
 ·simp only[h0,if_false]at key
  have k2:MCall prog 60 [bH r,.clo 69 []] [] (fun v o'=>v=bH r/\o'= []):=by
   refine key.shared (s':=?_) (y:= .agg [.sc (.string r.head.name),.list false false (r.head.args.map aO),.list false false (r.body.map cF)]) (by simp[go_sem,cA];rfl) (by simp[go_sem]) (by simp[go_sem]) (by simp[go_sem])
  clear key
  refine aQ func33 call33 rfl (by simp[ntmps33]) ?_;simp only[ntmps33,results33]
  repeat' (first|(refine aA fun _ _=>?_)|refine zHg ?_|simp(disch:=omega) [go_sem])
  refine aX [] [] 10000 _ _ (Fits.mk' (by simp[go_sem]) (by simp[go_sem])) (by simp[go_sem]) (by simp[go_sem]) (k2) (by simp[go_sem]) (by simp[go_sem]) ?_
  repeat' (first|(refine aA fun _ _=>?_)|refine zHg ?_|(refine aM [] ?_;simp[go_sem])|simp(disch:=omega) [go_sem])
theorem bRk (r:Rl) (hz:SzM r) (h0: ¬r.body.length=0):MCall prog 33 [bH r] [] (fun v o'=>v= .agg [.sc (.string r.head.name),.list false false (r.head.args.map aO),.ref 900 0 r.body.length]/\o'= [(900,⟨true,false,false,3,r.body.map cF,0⟩)]):=by
 have key:=aN9 r hz
 simp only[h0,if_false]at key
 have k2:=key.loose (o1:= [(900,⟨true,false,false,3,r.body.map cF,0⟩)]) (by simp[go_sem]) (by simp[go_sem]) (by simp[go_sem])
 clear key
 simp only[go_sem]at k2
 have k3:=MCall.loose (o1:= [(900,⟨true,false,false,3,r.body.map cF,0⟩)]) (f:=33) (P:=prog) (args:= [bH r]) (o:= []) (x:= .agg [.sc (.string r.head.name),.list false false (r.head.args.map aO),.ref 900 0 r.body.length]) (o2:=(2,⟨false,false,false,3,[.agg [.sc (.string r.head.name),.list false false (r.head.args.map aO),.ref 900 0 r.body.length]],0⟩):: [(900,⟨true,false,false,3,r.body.map cF,0⟩)]) (by
  refine dC func33 call33 rfl (by simp[ntmps33]) ?_;simp only[ntmps33,results33]
  repeat' (first|(refine aA fun _ _=>?_)|refine zHg ?_|simp(disch:=omega) [go_sem])
  refine aX [] [] 10000 _ _ (Fits.mk' (by simp[go_sem]) (by simp[go_sem])) (by simp[go_sem]) (by simp[go_sem]) (k2) (by simp[go_sem]) (by simp[go_sem]) ?_
  repeat' (first|(refine aA fun _ _=>?_)|refine zHg ?_|simp(disch:=omega) [go_sem])
  refine cJ ⟨5,[(2,.ptr 2 0 0)],(2,⟨false,false,false,3,[.agg [.sc (.string r.head.name),.list false false (r.head.args.map aO),.ref 900 0 r.body.length]],0⟩):: [(900,⟨true,false,false,3,r.body.map cF,0⟩)]⟩ [.agg [.sc (.string r.head.name),.list false false (r.head.args.map aO),.ref 900 0 r.body.length]] (Le.renSub [(10900,900)] [(900,10900)] (by simp[go_sem]) (by simp[go_sem]) (Le.sub4 rfl (by simp[go_sem]))) (by simp[go_sem]) ⟨rfl,rfl⟩) (by simp[go_sem]) (by simp[go_sem]) (by simp[go_sem])
 simp only[go_sem]at k3
 exact k3
theorem bRl (x y:ByteArray):ACall prog 28 [.sc (.string x),.sc (.string y)] (fun r=>r=nt .i64 (jT x y)):=by
 have h:=fun a b c d=>bM2 x y a b c d
 unfold jT
 generalize dJ (.mk x []) (.mk y [])=c at*
 refine aQ func28 call28 rfl (by simp[ntmps28]) ?_;simp only[ntmps28,results28]
 repeat' (first|(refine aA fun _ _=>?_)|refine zHg ?_|(refine aM [] ?_;simp[go_sem])|refine aH rfl (h _ _ _ _) (by simp) ?_|simp(disch:=omega) [go_sem])
theorem bRm (t:Tm):ACall prog 57 [eT t] (fun r=>r=bl (sY t)):=by
 obtain⟨s,ts⟩:=t
 unfold sY
 rw[bX]
 by_cases h2:2<=ts.length
 ·rw[decide_eq_true h2,Bool.true_and]
  match ts,h2 with
  |a::b::r,h2=>
   have hc:=aCd a b
   have e1:(a::b::r).getD 0 zT=a:=rfl
   have e2:(a::b::r).getD 1 zT=b:=rfl
   rw[e1,e2]
   generalize dJ a b=c at*
   refine aQ func57 call57 rfl (by simp[ntmps57]) ?_;simp only[ntmps57,results57]
   repeat' (first|(refine aA fun _ _=>?_)|refine zHg ?_|(refine zdd ?_ ?_<;>(intro h;first|(exfalso;omega)|(simp only[h,zT])))|(refine aM [] ?_;simp[go_sem])|refine dP rfl (hc) rfl (by simp) ?_|simp(disch:=omega) [go_sem]|refine zAo ?_|refine zDr 17 aS ?_|fail)
 ·rw[decide_eq_false h2,Bool.false_and]
  have h2': ¬(2:Int)<=ts.length:=by omega
  refine aQ func57 call57 rfl (by simp[ntmps57]) ?_;simp only[ntmps57,results57]
  repeat' (first|(refine aA fun _ _=>?_)|refine zHg ?_|(refine aM [] ?_;simp[go_sem,h2'])|simp(disch:=omega) [go_sem,h2']|refine zDr 17 aS ?_|fail)
theorem bRn (l:List Tm) (le fu:Bool) (h0:0<l.length) (hl:l.length<=1000000):ACall prog 120 [.list le fu (l.map aO)] (fun r=>r= .own 2 (l.map aO)):=by
 match l,h0 with
 |a::r,h0=>
  rw[List.length_cons]at hl
  refine aQ func120 call120 rfl (by simp[ntmps120]) ?_;simp only[ntmps120,results120]
  repeat' (first|(refine aA fun _ _=>?_)|refine zHg ?_|(refine aM [] ?_;simp[go_sem])|simp(disch:=omega) [go_sem]|refine zAo ?_|fail)
  try any_goals omega
theorem aOa (t:Tm) (h2:2<=t.args.length) (hl:t.args.length<=1000000):ACall prog 72 [eT t] (fun r=>r=eT (lY t)):=by
 obtain⟨s,ts⟩:=t
 rw[bX]at h2 hl
 match ts,h2 with
 |a::b::r,h2=>
  have hc:=bRn (a::b::r) false false (by simp) hl
  simp only[List.map_cons,oS]at hc
  have e:lY (.mk s (a::b::r))= .mk s (b::a::r):=rfl
  rw[e]
  have key:ACall prog 72 [eT (.mk s (a::b::r))] (fun v=>v= .agg [.sc (.string s),.list false false (eT b::eT a::r.map aO)]):=by
   refine aQ func72 call72 rfl (by simp[ntmps72]) ?_;simp only[ntmps72,results72]
   repeat' (first|((fail_if_success (refine sD ?_));refine jQ (fun K hK=>?_))|refine zHg ?_|refine aH rfl (hc) (by simp) ?_|simp(disch:=omega) [go_sem])
   try any_goals omega
   (try refine jQ (fun K hK=>?_));refine qW (Le.frzP 1 rfl (by intro h;cases h)) ?_
   repeat' (first|(refine aA fun _ _=>?_)|refine zHg ?_|(with_reducible refine cY ?_;first|(exact cV)|(refine zSkip ?_)|(refine cW rfl ?_ ?_))|(with_reducible refine cX ?_;first|(refine zDone ?_)|(refine zQu 0 rfl rfl rfl rfl ?_)|(refine zQu 1 rfl rfl rfl rfl ?_)|(refine zQu 2 rfl rfl rfl rfl ?_)|(refine zQu 3 rfl rfl rfl rfl ?_)|(refine zQu 4 rfl rfl rfl rfl ?_)|(refine zQu 5 rfl rfl rfl rfl ?_)|(refine zQu 6 rfl rfl rfl rfl ?_)|(refine zQu 7 rfl rfl rfl rfl ?_)|(refine zQu 8 rfl rfl rfl rfl ?_)|(refine zQu 9 rfl rfl rfl rfl ?_)|(refine zQu 10 rfl rfl rfl rfl ?_)|(refine zQu 11 rfl rfl rfl rfl ?_)|(refine zQu 12 rfl rfl rfl rfl ?_)|(refine zQu 14 rfl rfl rfl rfl ?_)|(refine zAll ?_;show cH _ _ _ _ _ _ _))|with_reducible refine dB ?_|(refine aM [] ?_;simp[go_sem])|simp(disch:=omega) [go_sem]|refine zAo ?_|refine zAny aS ?_|fail)
   try any_goals omega
  have k2:=key.loose rfl
  have e2:Ab.loose (.agg [.sc (.string s),.list false false (eT b::eT a::r.map aO)])=eT (.mk s (b::a::r)):=by
   rw[<-oS a,<-oS b];rfl
  rw[e2]at k2
  exact k2
def iD (h:Tm) (bs:List Lt) (i:Nat):List ByteArray:=cD h.args++jH (bs.take i)
theorem aDx (h:Tm) (bs:List Lt):iD h bs 0=cD h.args:=by simp[iD,jH]
theorem aDy (h:Tm) (bs:List Lt):iD h bs bs.length=fY ⟨h,bs⟩:=by unfold iD fY;rw[List.take_length]
theorem aDz {h:Tm} {bs:List Lt} {i:Nat} (hi:i<bs.length):iD h bs (i+1)=iD h bs i++cD bs[i].atom.args:=by
 unfold iD
 rw[bOw hi,List.append_assoc]
theorem R9 {h:Tm} {bs:List Lt} (hz:SzM ⟨h,bs⟩): ∀i,i<=bs.length->(iD h bs i).length<=20+i*20
 |0,_=>by
  rw[aDx]
  have:=yQ h.args
  have:=hz.head
  dsimp only at this
  omega
 |i+1,hi=>by
  rw[aDz (by omega),List.length_append]
  have:=R9 hz i (by omega)
  have:=yQ bs[i].atom.args
  have hil:i<bs.length:=by omega
  have:=hz.atom bs[i] (List.getElem_mem hil)
  have e:(i+1)*20=i*20+20:=by omega
  omega
theorem wU {r:Rl} (hz:SzM r):(fY r).length<=180:=by
 obtain⟨h,bs⟩:=r
 have:=R9 hz bs.length (Nat.le_refl _)
 rw[aDy]at this
 have:=hz.body
 dsimp only at this
 omega
theorem bRo (r:Rl) (hz:SzM r):
 MCall prog 60 [bH r,.clo 61 [.ptr 1000 0 0]] F7
  (fun v o'=>v= .agg [.sc (.string r.head.name),.list false false (r.head.args.map aO),if r.body.length=0 then .list false true []else .ref 900 0 r.body.length]/\
   o'=(4,⟨false,false,false,3,[.agg [.sc (.string r.head.name),.list false false (r.head.args.map aO),if r.body.length=0 then .list false true []else .ref 900 0 r.body.length]],0⟩)::(1000,bE (fY r).length)::(1001,bI (fY r))::(if r.body.length=0 then[]else[(900,⟨true,false,false,3,r.body.map cF,0⟩)])):=by
 have hsz:=wU hz
 have hle:=R9 (h:=r.head) (bs:=r.body) hz
 obtain⟨h,bs⟩:=r
 obtain⟨hz1,hz2,hz3⟩:=hz
 dsimp only at*
 have hnx:=fun i (hi:i<bs.length)=>aDz (h:=h) hi
 have hn0:=aDx h bs
 have hna:=aDy h bs
 have h1:=aDv _ h.args false false F7 [] (Nat.lt_succ_self _) (by omega) (by(try simp);omega) (.inr ⟨rfl,rfl⟩)
 rw[List.nil_append]at h1
 have ih2: ∀(i:Nat) (hi:i<bs.length) (S:List ByteArray),S.length<=1000000->MCall prog 102 [.list false false (bs[i].atom.args.map aO),.clo 61 [.ptr 1000 0 0]] (fZ S) (fun r o'=>r= .list false false (bs[i].atom.args.map aO)/\o'=fP (S++cD bs[i].atom.args)):=fun i hi S hS=>aDv _ _ false false _ S (Nat.lt_succ_self _) (Nat.le_trans (hz3 _ (List.getElem_mem hi)) (by decide)) (by have:=hz3 _ (List.getElem_mem hi);omega) (.inl ⟨rfl,trivial⟩)
 refine dC func60 call60 rfl (by simp[ntmps60]) ?_;simp only[ntmps60,results60]
 skip
 repeat' (first|((fail_if_success (refine sD ?_));refine jQ (fun K hK=>?_))|refine zHg ?_|simp(disch:=omega) [go_sem,bE,bI])
 refine aIo ⟨44,[(1,.clo 61 [.ptr 1000 0 0]),(2,.ptr 2 0 0),(4,.ptr 4 0 0),(5,.ptr 5 0 0)],(5,⟨false,false,false,3,[.agg [.sc (.string h.name),.list false false (h.args.map aO),.list false true []]],0⟩)::(4,⟨false,false,false,3,[.agg [.sc (.string ⟨#[]⟩),.list false true [],.list false true []]],0⟩)::(2,⟨false,true,false,3,[bH ⟨h,bs⟩],0⟩)::(1000,bE (iD h bs 0).length)::(1001,bI (iD h bs 0)):: []⟩ (fun K hK=>?_) ?_
 ·(try refine jQ (fun K hK=>?_));refine qW (s0:=⟨44,[(1,.clo 61 [.ptr 1000 0 0]),(2,.ptr 2 0 0),(4,.ptr 4 0 0)],(2,⟨false,true,false,3,[bH ⟨h,bs⟩],0⟩)::(4,⟨false,false,false,3,[.agg [.sc (.string ⟨#[]⟩),.list false true [],.list false true []]],0⟩)::F7⟩) (by refine Le.trans ?_ (Le.frzP 2 rfl (by intro h;cases h));exact(Le.sub4 rfl (by simp[go_sem]))) ?_
  repeat' (first|(refine aA fun _ _=>?_)|refine zHg ?_|(with_reducible refine cY ?_;first|(exact cV)|(refine zSkip ?_)|(refine cW rfl ?_ ?_))|(with_reducible refine cX ?_;first|(refine zDone ?_)|(refine zQu 0 rfl rfl rfl rfl ?_)|(refine zQu 1 rfl rfl rfl rfl ?_)|(refine zQu 2 rfl rfl rfl rfl ?_)|(refine zQu 3 rfl rfl rfl rfl ?_)|(refine zQu 4 rfl rfl rfl rfl ?_)|(refine zQu 5 rfl rfl rfl rfl ?_)|(refine zQu 6 rfl rfl rfl rfl ?_)|(refine zQu 7 rfl rfl rfl rfl ?_)|(refine zQu 8 rfl rfl rfl rfl ?_)|(refine zQu 9 rfl rfl rfl rfl ?_)|(refine zQu 10 rfl rfl rfl rfl ?_)|(refine zQu 16 rfl rfl rfl rfl ?_)|(refine zAll ?_;show cH _ _ _ _ _ _ _))|with_reducible refine dB ?_|simp(disch:=omega) [go_sem,bE,bI]|refine zAny aS ?_|fail)
  all_goals refine aX [] [] 10000 _ _ (Fits.mk' (by simp[go_sem,fP,bE,bI]) (by simp[go_sem,fP,bE,bI])) (by simp[go_sem,fP,bE,bI]) (by simp[go_sem,fP,bE,bI]) (h1) (by simp[go_sem,fP,bE,bI]) (by simp[go_sem,fP,bE,bI]) ?_
  all_goals repeat' (first|(refine aA fun _ _=>?_)|refine zHg ?_|(with_reducible refine cY ?_;first|(exact cV)|(refine zSkip ?_)|(refine cW rfl ?_ ?_))|(with_reducible refine cX ?_;first|(refine zDone ?_)|(refine zQu 0 rfl rfl rfl rfl ?_)|(refine zQu 1 rfl rfl rfl rfl ?_)|(refine zQu 2 rfl rfl rfl rfl ?_)|(refine zQu 3 rfl rfl rfl rfl ?_)|(refine zQu 4 rfl rfl rfl rfl ?_)|(refine zQu 5 rfl rfl rfl rfl ?_)|(refine zQu 6 rfl rfl rfl rfl ?_)|(refine zQu 7 rfl rfl rfl rfl ?_)|(refine zQu 8 rfl rfl rfl rfl ?_)|(refine zQu 9 rfl rfl rfl rfl ?_)|(refine zQu 10 rfl rfl rfl rfl ?_)|(refine zQu 16 rfl rfl rfl rfl ?_)|(refine zAll ?_;show cH _ _ _ _ _ _ _))|with_reducible refine dB ?_|refine(hK _ (Le.renSub [(11001,1001),(1001,11001)] [(11001,1001),(1001,11001)] (by simp[go_sem,hn0]) (by simp[go_sem,hn0]) (Le.sub4 rfl (by simp[go_sem,hn0]))))|simp(disch:=omega) [go_sem,bE,bI])
 repeat' (first|(refine aA fun _ _=>?_)|refine zHg ?_|simp(disch:=omega) [go_sem,bE,bI])
 refine bL [1,4,5,19,20] [5,900,1000,1001,2] (fun y:Nat×List Lt=> [(21,nt .i64 y.1)]) (fun y:Nat×List Lt=>(5,⟨false,false,false,3,[.agg [.sc (.string h.name),.list false false (h.args.map aO),if y.2.length=0 then .list false true []else .ref 900 0 y.2.length]],0⟩)::(1000,bE (iD h bs y.1).length)::(1001,bI (iD h bs y.1))::(if y.2.length=0 then[]else[(900,⟨true,false,false,3,y.2.map cF,0⟩)])) (fun y:Nat×List Lt=>bs.length - y.1) (fun y:Nat×List Lt=>y.1<=bs.length/\y.2.length=y.1/\y.2++bs.drop y.1=bs) ((0,[])) (Le.sub4 rfl (by simp[go_sem,bE,bI])) ⟨?_⟩ ?_
 ·exact⟨Nat.zero_le _,rfl,rfl⟩
 intro⟨i,a⟩ ⟨hi,ha,hinv⟩ AA hAA;simp only[kL,Nat.reduceBEq,Nat.reduceEqDiff]
 dsimp only at*
 by_cases hlt:i<bs.length
 ·have hu:=ih2 i hlt (iD h bs i) (by have:=hle i hi;omega)
  have hcn:=hnx i hlt
  rw[List.drop_eq_getElem_cons hlt]at hinv
  clear ih2 hnx hn0 hna hle hsz
  generalize iD h bs i=S at*
  generalize hbi:bs[i]=b at*
  obtain⟨q,⟨s,us⟩⟩:=b
  dsimp only[bX,iT]at*
  rw[R8]at hu
  generalize cD us=V at*
  by_cases h0:i=0
  ·subst h0
   obtain rfl:=List.eq_nil_of_length_eq_zero ha
   repeat' (first|((fail_if_success (refine sD ?_));refine jQ (fun K hK=>?_))|refine zHg ?_|simp(disch:=omega) [go_sem,hlt,hbi,bE,bI])
   (try refine jQ (fun K hK=>?_));refine qW (s0:=⟨44,[(1,.clo 61 [.ptr 1000 0 0]),(4,.ptr 4 0 0),(5,.ptr 5 0 0),(7,.ptr 7 0 0),(19,.list false false (bs.map cF)),(20,nt .i64 bs.length),(21,nt .i64 0)],(5,⟨false,false,false,3,[.agg [.sc (.string h.name),.list false false (h.args.map aO),.list false true []]],0⟩)::(7,⟨false,true,false,3,[cF ⟨q,.mk s us⟩],0⟩)::(1000,bE S.length)::(1001,bI S)::(4,⟨false,false,false,3,[.agg [.sc (.string ⟨#[]⟩),.list false true [],.list false true []]],0⟩):: []⟩) (by refine Le.trans ?_ (Le.frzP 7 rfl (by intro h;cases h));exact(Le.sub4 rfl (by simp[go_sem,bE,bI,ha]))) ?_
   repeat' (first|(refine aA fun _ _=>?_)|refine zHg ?_|(with_reducible refine cY ?_;first|(exact cV)|(refine zSkip ?_)|(refine cW rfl ?_ ?_))|(with_reducible refine cX ?_;first|(refine zDone ?_)|(refine zQu 0 rfl rfl rfl rfl ?_)|(refine zQu 1 rfl rfl rfl rfl ?_)|(refine zQu 2 rfl rfl rfl rfl ?_)|(refine zQu 3 rfl rfl rfl rfl ?_)|(refine zQu 4 rfl rfl rfl rfl ?_)|(refine zQu 5 rfl rfl rfl rfl ?_)|(refine zQu 6 rfl rfl rfl rfl ?_)|(refine zQu 7 rfl rfl rfl rfl ?_)|(refine zQu 8 rfl rfl rfl rfl ?_)|(refine zQu 9 rfl rfl rfl rfl ?_)|(refine zQu 10 rfl rfl rfl rfl ?_)|(refine zQu 16 rfl rfl rfl rfl ?_)|(refine zAll ?_;show cH _ _ _ _ _ _ _))|with_reducible refine dB ?_|simp(disch:=omega) [go_sem,hlt,hbi,bE,bI]|refine zAny aS ?_|fail)
   all_goals refine aX [] [] 10000 _ _ (Fits.mk' (by simp[go_sem,fZ,bE,bI]) (by simp[go_sem,fZ,bE,bI])) (by simp[go_sem,fZ,bE,bI]) (by simp[go_sem,fZ,bE,bI]) (hu) (by simp[go_sem,fZ,bE,bI]) (by simp[go_sem,fZ,bE,bI]) ?_
   all_goals repeat' (first|(refine aA fun _ _=>?_)|refine zHg ?_|(with_reducible refine cY ?_;first|(exact cV)|(refine zSkip ?_)|(refine cW rfl ?_ ?_))|(with_reducible refine cX ?_;first|(refine zDone ?_)|(refine zQu 0 rfl rfl rfl rfl ?_)|(refine zQu 1 rfl rfl rfl rfl ?_)|(refine zQu 2 rfl rfl rfl rfl ?_)|(refine zQu 3 rfl rfl rfl rfl ?_)|(refine zQu 4 rfl rfl rfl rfl ?_)|(refine zQu 5 rfl rfl rfl rfl ?_)|(refine zQu 6 rfl rfl rfl rfl ?_)|(refine zQu 7 rfl rfl rfl rfl ?_)|(refine zQu 8 rfl rfl rfl rfl ?_)|(refine zQu 9 rfl rfl rfl rfl ?_)|(refine zQu 10 rfl rfl rfl rfl ?_)|(refine zQu 16 rfl rfl rfl rfl ?_)|(refine zAll ?_;show cH _ _ _ _ _ _ _))|with_reducible refine dB ?_|(refine(hAA.next ((0+1,[⟨q,.mk s us⟩])) (Le.renSub [(40,900),(11001,1001),(1001,11001)] [(900,40),(11001,1001),(1001,11001)] (by simp[go_sem,hcn]) (by simp[go_sem,hcn]) (Le.sub4 rfl (by simp[go_sem,hcn]))) (by(try dsimp only);omega) ?_))|simp(disch:=omega) [go_sem,hlt,hbi,bE,bI])
   try any_goals omega
   all_goals exact⟨hlt,rfl,hinv⟩
  ·repeat' (first|((fail_if_success (refine sD ?_));refine jQ (fun K hK=>?_))|refine zHg ?_|simp(disch:=omega) [go_sem,hlt,hbi,h0,ha,bE,bI])
   (try refine jQ (fun K hK=>?_));refine qW (s0:=⟨44,[(1,.clo 61 [.ptr 1000 0 0]),(4,.ptr 4 0 0),(5,.ptr 5 0 0),(7,.ptr 7 0 0),(19,.list false false (bs.map cF)),(20,nt .i64 bs.length),(21,nt .i64 i)],(5,⟨false,false,false,3,[.agg [.sc (.string h.name),.list false false (h.args.map aO),.ref 900 0 a.length]],0⟩)::(7,⟨false,true,false,3,[cF ⟨q,.mk s us⟩],0⟩)::(1000,bE S.length)::(1001,bI S)::(4,⟨false,false,false,3,[.agg [.sc (.string ⟨#[]⟩),.list false true [],.list false true []]],0⟩):: [(900,⟨true,false,false,3,a.map cF,0⟩)]⟩) (by refine Le.trans ?_ (Le.frzP 7 rfl (by intro h;cases h));exact(Le.sub4 rfl (by simp[go_sem,bE,bI,ha]))) ?_
   repeat' (first|(refine aA fun _ _=>?_)|refine zHg ?_|(with_reducible refine cY ?_;first|(exact cV)|(refine zSkip ?_)|(refine cW rfl ?_ ?_))|(with_reducible refine cX ?_;first|(refine zDone ?_)|(refine zQu 0 rfl rfl rfl rfl ?_)|(refine zQu 1 rfl rfl rfl rfl ?_)|(refine zQu 2 rfl rfl rfl rfl ?_)|(refine zQu 3 rfl rfl rfl rfl ?_)|(refine zQu 4 rfl rfl rfl rfl ?_)|(refine zQu 5 rfl rfl rfl rfl ?_)|(refine zQu 6 rfl rfl rfl rfl ?_)|(refine zQu 7 rfl rfl rfl rfl ?_)|(refine zQu 8 rfl rfl rfl rfl ?_)|(refine zQu 9 rfl rfl rfl rfl ?_)|(refine zQu 10 rfl rfl rfl rfl ?_)|(refine zQu 16 rfl rfl rfl rfl ?_)|(refine zAll ?_;show cH _ _ _ _ _ _ _))|with_reducible refine dB ?_|simp(disch:=omega) [go_sem,hlt,hbi,h0,ha,bE,bI]|refine zAny aS ?_|fail)
   all_goals refine aX [] [] 10000 _ _ (Fits.mk' (by simp[go_sem,fZ,bE,bI]) (by simp[go_sem,fZ,bE,bI])) (by simp[go_sem,fZ,bE,bI]) (by simp[go_sem,fZ,bE,bI]) (hu) (by simp[go_sem,fZ,bE,bI]) (by simp[go_sem,fZ,bE,bI]) ?_
   all_goals repeat' (first|(refine aA fun _ _=>?_)|refine zHg ?_|(with_reducible refine cY ?_;first|(exact cV)|(refine zSkip ?_)|(refine cW rfl ?_ ?_))|(with_reducible refine cX ?_;first|(refine zDone ?_)|(refine zQu 0 rfl rfl rfl rfl ?_)|(refine zQu 1 rfl rfl rfl rfl ?_)|(refine zQu 2 rfl rfl rfl rfl ?_)|(refine zQu 3 rfl rfl rfl rfl ?_)|(refine zQu 4 rfl rfl rfl rfl ?_)|(refine zQu 5 rfl rfl rfl rfl ?_)|(refine zQu 6 rfl rfl rfl rfl ?_)|(refine zQu 7 rfl rfl rfl rfl ?_)|(refine zQu 8 rfl rfl rfl rfl ?_)|(refine zQu 9 rfl rfl rfl rfl ?_)|(refine zQu 10 rfl rfl rfl rfl ?_)|(refine zQu 16 rfl rfl rfl rfl ?_)|(refine zAll ?_;show cH _ _ _ _ _ _ _))|with_reducible refine dB ?_|(refine(hAA.next ((i+1,a++ [⟨q,.mk s us⟩])) (Le.renSub [(11001,1001),(1001,11001)] [(11001,1001),(1001,11001)] (by simp[go_sem,hcn,ha]) (by simp[go_sem,hcn,ha]) (Le.sub4 rfl (by simp[go_sem,hcn,ha]))) (by(try dsimp only);omega) ?_))|simp(disch:=omega) [go_sem,hlt,hbi,h0,ha,bE,bI]|refine zAo ?_|fail)
   try any_goals omega
   all_goals exact⟨hlt,by simp[ha],by rw[List.append_assoc];exact hinv⟩
 ·obtain rfl:i=bs.length:=by omega
  rw[List.drop_length,List.append_nil]at hinv
  rw[hna]
  subst hinv
  clear ih2 hnx hn0 hna hle
  generalize fY ⟨h,a⟩=S at*
  by_cases h0:a.length=0
  ·obtain rfl:=List.eq_nil_of_length_eq_zero h0
   repeat' (first|(refine aA fun _ _=>?_)|refine zHg ?_|simp(disch:=omega) [go_sem,bE,bI])
   refine cJ ⟨44,[(4,.ptr 4 0 0)],(4,⟨false,false,false,3,[.agg [.sc (.string h.name),.list false false (h.args.map aO),.list false true []]],0⟩)::(1000,bE S.length)::(1001,bI S):: []⟩ [.agg [.sc (.string h.name),.list false false (h.args.map aO),.list false true []]] (Le.renSub [] [] (by simp[go_sem,bE,bI]) (by simp[go_sem,bE,bI]) (Le.sub4 rfl (by simp[go_sem,bE,bI]))) (by simp[go_sem,bE,bI]) ⟨rfl,rfl⟩
  ·have h0': ¬a= []:=fun h=>h0 (by rw[h];rfl)
   repeat' (first|(refine aA fun _ _=>?_)|refine zHg ?_|simp(disch:=omega) [go_sem,h0,h0',bE,bI])
   refine cJ ⟨44,[(4,.ptr 4 0 0)],(4,⟨false,false,false,3,[.agg [.sc (.string h.name),.list false false (h.args.map aO),.ref 900 0 a.length]],0⟩)::(1000,bE S.length)::(1001,bI S):: [(900,⟨true,false,false,3,a.map cF,0⟩)]⟩ [.agg [.sc (.string h.name),.list false false (h.args.map aO),.ref 900 0 a.length]] (Le.renSub [] [] (by simp[go_sem,bE,bI]) (by simp[go_sem,bE,bI]) (Le.sub4 rfl (by simp[go_sem,bE,bI]))) (by simp[go_sem,bE,bI]) ⟨rfl,rfl⟩
theorem aOb (r:Rl) (hz:SzM r):ACall prog 26 [bH r] (fun v=>v= .own 1 ((fY r).map aI)):=by
 have key:=bRo r hz
 have k2:MCall prog 60 [bH r,.clo 61 [.ptr 1000 0 0]] F7 (fun v o'=>v=bH r/\o'=fP (fY r)):=by
  by_cases h0:r.body.length=0
  ·obtain⟨h,bs⟩:=r
   obtain rfl:=List.eq_nil_of_length_eq_zero h0
   simp only[List.length_nil,if_true]at key
   exact key.loose (o1:=fP (fY ⟨h,[]⟩)) (by simp[go_sem]) (by simp[go_sem]) (by simp[go_sem])
  ·simp only[h0,if_false]at key
   refine key.shared (s':=?_) (y:= .agg [.sc (.string r.head.name),.list false false (r.head.args.map aO),.list false false (r.body.map cF)]) (by simp[go_sem,cA];rfl) (by simp[go_sem]) (by simp[go_sem]) (by simp[go_sem])
 clear key
 generalize fY r=S at*
 refine aQ func26 call26 rfl (by simp[ntmps26]) ?_;simp only[ntmps26,results26]
 repeat' (first|(refine aA fun _ _=>?_)|refine zHg ?_|simp(disch:=omega) [go_sem])
 refine aX [(1000,3)] [(3,1000)] 10000 _ _ (Fits.mk' (by simp[go_sem,fP,bE,bI]) (by simp[go_sem,fP,bE,bI])) (by simp[go_sem,fP,bE,bI]) (by simp[go_sem,fP,bE,bI]) (k2) (by simp[go_sem,fP,bE,bI]) (by simp[go_sem,fP,bE,bI]) ?_
 repeat' (first|(refine aA fun _ _=>?_)|refine zHg ?_|(refine aM [] ?_;simp[go_sem,fP,bE,bI])|simp(disch:=omega) [go_sem,fP,bE,bI])
end Go.Proofs.YtbgckcdddlmiaaaGreatDoor
