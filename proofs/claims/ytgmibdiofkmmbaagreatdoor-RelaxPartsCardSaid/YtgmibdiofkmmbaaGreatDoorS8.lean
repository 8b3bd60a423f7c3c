import Derived.Test.YtgmibdiofkmmbaaGreatDoorS7
import Derived.Shelf.SlLaysM
import Derived.Ground.SlgmProg
import Derived.Shelf.SortM.Plain
set_option linter.all false
open Go.Proofs.Tryz
namespace Go.Proofs.YtgmibdiofkmmbaaGreatDoor
open Go.Shelf Go.Proofs
def Tryz.srtS_ren:Go.Shelf.Ren:=⟨fun|6=>191|8=>188|9=>206|19=>203|20=>204|21=>212|22=>213|23=>214|24=>215|25=>216|26=>217|27=>218|28=>219|29=>220|36=>222|31=>208|32=>209|37=>223|38=>224|39=>189|41=>225|n=>n,fun|27=>110|29=>9|3=>3|32=>169|26=>110|0=>0|44=>206|46=>208|4=>4|36=>200|35=>199|41=>124|5=>5|9=>9|53=>211|57=>215|63=>222|64=>223|n=>n,fun|n=>n⟩
theorem Tryz.srtS:Go.Proofs.SlLaysM.n6 prog Tryz.srtS_ren:= {
 mixed:=by kernel_rfl
 f6:=⟨Tryz.f191.name,by decide,func191.trans (congrArg some (by kernel_rfl))⟩
 f8:=func188.trans (congrArg some (by kernel_rfl))
 f9:=⟨Tryz.f206.name,by decide,func206.trans (congrArg some (by kernel_rfl))⟩
 f19:=func203.trans (congrArg some (by kernel_rfl))
 f20:=func204.trans (congrArg some (by kernel_rfl))
 f21:=⟨Tryz.f212.name,by decide,func212.trans (congrArg some (by kernel_rfl))⟩
 f22:=⟨Tryz.f213.name,by decide,func213.trans (congrArg some (by kernel_rfl))⟩
 f23:=⟨Tryz.f214.name,by decide,func214.trans (congrArg some (by kernel_rfl))⟩
 f24:=⟨Tryz.f215.name,by decide,func215.trans (congrArg some (by kernel_rfl))⟩
 f25:=⟨Tryz.f216.name,by decide,func216.trans (congrArg some (by kernel_rfl))⟩
 f26:=⟨Tryz.f217.name,by decide,func217.trans (congrArg some (by kernel_rfl))⟩
 f27:=⟨Tryz.f218.name,by decide,func218.trans (congrArg some (by kernel_rfl))⟩
 f28:=⟨Tryz.f219.name,by decide,func219.trans (congrArg some (by kernel_rfl))⟩
 f29:=⟨Tryz.f220.name,by decide,func220.trans (congrArg some (by kernel_rfl))⟩
 f31:=func208.trans (congrArg some (by kernel_rfl))
 f32:=func209.trans (congrArg some (by kernel_rfl))
 f36:=⟨Tryz.f222.name,by decide,func222.trans (congrArg some (by kernel_rfl))⟩
 f37:=⟨Tryz.f223.name,by decide,func223.trans (congrArg some (by kernel_rfl))⟩
 f38:=⟨Tryz.f224.name,by decide,func224.trans (congrArg some (by kernel_rfl))⟩
 f39:=⟨Tryz.f189.name,by decide,func189.trans (congrArg some (by kernel_rfl))⟩
 f41:=⟨Tryz.f225.name,by decide,func225.trans (congrArg some (by kernel_rfl))⟩
 t0:=underlying0
 a0:=Tryz.isAgg0
 z0:=Tryz.sizeOf0
 v0:=Tryz.zeroValue0
 t3:=underlying3
 a3:=Tryz.isAgg3
 z3:=Tryz.sizeOf3
 v3:=Tryz.zeroValue3
 t4:=underlying4
 a4:=Tryz.isAgg4
 z4:=Tryz.sizeOf4
 v4:=Tryz.zeroValue4
 t5:=underlying5
 a5:=Tryz.isAgg5
 z5:=Tryz.sizeOf5
 v5:=Tryz.zeroValue5
 t9:=underlying9
 a9:=Tryz.isAgg9
 z9:=Tryz.sizeOf9
 v9:=Tryz.zeroValue9
 t26:=underlying110
 a26:=Tryz.isAgg110
 z26:=Tryz.sizeOf110
 v26:=Tryz.zeroValue110
 t27:=underlying110
 a27:=Tryz.isAgg110
 z27:=Tryz.sizeOf110
 v27:=Tryz.zeroValue110
 t29:=underlying9
 a29:=Tryz.isAgg9
 z29:=Tryz.sizeOf9
 v29:=Tryz.zeroValue9
 t32:=underlying169
 a32:=Tryz.isAgg169
 z32:=Tryz.sizeOf169
 v32:=Tryz.zeroValue169
 t35:=underlying199
 a35:=Tryz.isAgg199
 z35:=Tryz.sizeOf199
 v35:=Tryz.zeroValue199
 t36:=underlying200
 a36:=Tryz.isAgg200
 z36:=Tryz.sizeOf200
 v36:=Tryz.zeroValue200
 t41:=underlying124
 a41:=Tryz.isAgg124
 z41:=Tryz.sizeOf124
 v41:=Tryz.zeroValue124
 t44:=underlying206
 a44:=Tryz.isAgg206
 z44:=Tryz.sizeOf206
 v44:=Tryz.zeroValue206
 t46:=underlying208
 a46:=Tryz.isAgg208
 z46:=Tryz.sizeOf208
 v46:=Tryz.zeroValue208
 t53:=underlying211
 a53:=Tryz.isAgg211
 z53:=Tryz.sizeOf211
 v53:=Tryz.zeroValue211
 t57:=underlying215
 a57:=Tryz.isAgg215
 z57:=Tryz.sizeOf215
 v57:=Tryz.zeroValue215
 t63:=underlying222
 a63:=Tryz.isAgg222
 z63:=Tryz.sizeOf222
 v63:=Tryz.zeroValue222
 t64:=underlying223
 a64:=Tryz.isAgg223
 z64:=Tryz.sizeOf223
 v64:=Tryz.zeroValue223}
open Go.Ab
variable [Glob prog]
set_option maxRecDepth 100000
set_option maxHeartbeats 8000000
theorem dK9:MCall prog 212 [.ref 1000 0 0,nt .i64 0,nt .i64 0] [(1000,bP aY 1 0 [])] (fun r o'=>r= .tup []/\o'= [(1000,bP aY 1 0 [])]):=by
 refine dM func212 call212 rfl (by simp[ntmps212]) ?_;simp only[ntmps212,results212]
 repeat' (first|(refine aE fun _ _=>?_)|refine zHg ?_|simp(disch:=omega) [go_sem])
 refine bZ [0,1,2] [] (fun u:Unit=> [(6,nt .i64 1)]) (fun u:Unit=> []) (fun u:Unit=>0) (fun u:Unit=>True) (()) (Le.sub4 rfl (by simp[go_sem])) ⟨?_⟩ ?_
 ·trivial
 intro u hu AA hAA;simp only[kL,Nat.reduceBEq,Nat.reduceEqDiff]
 repeat' (first|(refine aE fun _ _=>?_)|refine zHg ?_|simp(disch:=omega) [go_sem])
 refine eW ⟨49,[],[(1000,bP aY 1 0 [])]⟩ [] (Le.renSub [] [] (by simp[go_sem]) (by simp[go_sem]) (Le.sub4 rfl (by simp[go_sem]))) (by simp[go_sem]) ⟨rfl,rfl⟩
theorem dLa:MCall prog 206 [.ref 1000 0 0,nt .i64 0,nt .i64 0,nt .i64 0] [(1000,bP aY 1 0 [])] (fun r o'=>r= .tup []/\o'= [(1000,bP aY 1 0 [])]):=by
 have hi:=dK9
 refine dM func206 call206 rfl (by simp[ntmps206]) ?_;simp only[ntmps206,results206]
 repeat' (first|(refine aE fun _ _=>?_)|refine zHg ?_|simp(disch:=omega) [go_sem])
 refine bZ [0] [] (fun u:Unit=> [(1,nt .i64 0),(2,nt .i64 0),(3,nt .i64 0),(8,bl true),(9,bl true)]) (fun u:Unit=> []) (fun u:Unit=>0) (fun u:Unit=>True) (()) (Le.sub4 rfl (by simp[go_sem])) ⟨?_⟩ ?_
 ·trivial
 intro u hu AA hAA;simp only[kL,Nat.reduceBEq,Nat.reduceEqDiff]
 repeat' (first|(refine aE fun _ _=>?_)|refine zHg ?_|simp(disch:=omega) [go_sem])
 refine bO [] [] 10000 _ _ (Fits.mk' (by simp[go_sem]) (by simp[go_sem])) (by simp[go_sem]) (by simp[go_sem]) (hi) (by simp[go_sem]) (by simp[go_sem]) ?_
 repeat' (first|(refine aE fun _ _=>?_)|refine zHg ?_|simp(disch:=omega) [go_sem])
 refine dN ⟨134,[],[(1000,bP aY 1 0 [])]⟩ [] (Le.renSub [] [] (by simp[go_sem]) (by simp[go_sem]) (Le.sub4 rfl (by simp[go_sem]))) (by simp[go_sem]) ⟨rfl,rfl⟩
theorem dLb:MCall prog 191 [.ref 1000 0 0] [(1000,bP aY 1 0 [])] (fun r o'=>r= .tup []/\o'= [(1000,bP aY 1 0 [])]):=by
 have hi:=dLa
 have hl:=aTm
 refine dM func191 call191 rfl (by simp[ntmps191]) ?_;simp only[ntmps191,results191]
 repeat' (first|(refine aE fun _ _=>?_)|refine zHg ?_|refine aI rfl (hl) (by simp) ?_|simp(disch:=omega) [go_sem])
 refine bO [] [] 10000 _ _ (Fits.mk' (by simp[go_sem]) (by simp[go_sem])) (by simp[go_sem]) (by simp[go_sem]) (hi) (by simp[go_sem]) (by simp[go_sem]) ?_
 repeat' (first|(refine aE fun _ _=>?_)|refine zHg ?_|simp(disch:=omega) [go_sem])
 refine eW ⟨11,[],[(1000,bP aY 1 0 [])]⟩ [] (Le.renSub [] [] (by simp[go_sem]) (by simp[go_sem]) (Le.sub4 rfl (by simp[go_sem]))) (by simp[go_sem]) ⟨rfl,rfl⟩
theorem dLc (l:List ByteArray) (hb:l.length<=1000000):MCall prog 191 [.ref 1000 0 l.length] [(1000,bP aY 1 0 l)] (fun r o'=>r= .tup []/\o'= [(1000,bP aY 1 0 (qY l))]):=by
 by_cases hl:l= []
 ·subst hl
  rw[show qY []= [] by simp[qY]]
  exact dLb
 ·have h:=bQ9 (P:=prog) (f:=191) encStr (fun _=>rfl) (fun _=>rfl) 0 (by decide) (l.map tM) ((l.map tM).mergeSort fun x y=>decide (x<=y)) (by simpa using hl) (List.length_mergeSort _) call191
   (fun blk cap w hH hblk=>AnyM.slices_Sort_string Tryz.srtS blk 0 cap (l.map tM) w hH hblk (by rw[List.length_map];omega))
  have e1:bP (fun x=>AV.sc (encStr x)) 1 0 (l.map tM)=bP aY 1 0 l:=by
   unfold bP
   rw[List.map_map]
   congr 1
  have e2:bP (fun x=>AV.sc (encStr x)) 1 0 ((l.map tM).mergeSort fun x y=>decide (x<=y))=bP aY 1 0 (qY l):=by
   unfold bP qY
   rw[List.map_map]
   congr 1
  rw[e1,e2,List.length_map]at h
  exact h
theorem dLd (ks:List ByteArray) (w:ByteArray->Value) (hb:ks.length<=1000000) (hn:ks.Nodup):MCall prog 175 [.clo 192 [.ptr 1003 0 0]] (kyO w ks 1004 1003)
 (fun r o'=>r= .ref 1005 0 ks.length/\o'= [(1005,⟨true,false,false,1,(gX dF ks).map aY,0⟩)]):=by
 have h:=dK8 ks w hb
 refine dM func175 call175 rfl (by simp[ntmps175]) ?_;simp only[ntmps175,results175]
 repeat' (first|(refine aE fun _ _=>?_)|refine zHg ?_|simp(disch:=omega) [go_sem])
 refine iE [] [] 10000 _ _ (Fits.mk' (by simp[go_sem,eC]) (by simp[go_sem,eC])) (by simp[go_sem,eC]) (by simp[go_sem,eC]) (h) (by simp[go_sem,eC]) (by intros;simp[go_sem,eC]) ?_;intro l hp
 have hs:=dLc l (by rw[hp.length_eq];exact hb)
 have e:qY l=gX dF ks:=(aUk (hp.nodup_iff.2 hn)).trans (B7 tD fun x=>hp.mem_iff)
 have hll:=hp.length_eq
 have hl2:(gX dF ks).length=ks.length:=by rw[<-e,aUj,hll]
 rw[e,hll]at hs
 repeat' (first|(refine aE fun _ _=>?_)|refine zHg ?_|simp(disch:=omega) [go_sem,hll])
 refine bO [(1000,11005)] [(11005,1000)] 30000 _ _ (Fits.mk' (by simp[go_sem]) (by simp[go_sem])) (by simp[go_sem]) (by simp[go_sem]) (hs) (by simp[go_sem]) (by simp[go_sem]) ?_
 generalize gX dF ks=m at*
 repeat' (first|(refine aE fun _ _=>?_)|refine zHg ?_|simp(disch:=omega) [go_sem,hll])
 refine dN ⟨9,[(2,.ref 1005 0 ks.length)],[(1005,⟨true,false,false,1,m.map aY,0⟩)]⟩ [.ref 1005 0 ks.length] (Le.renSub [(11005,1005),(1005,11005)] [(1005,11005),(11005,1005)] (by simp[go_sem,hl2]) (by simp[go_sem,hl2]) (Le.sub4 rfl (by simp[go_sem,hl2]))) (by simp[go_sem,hl2]) ⟨rfl,rfl⟩
theorem aUl (ks:List ByteArray) (w:ByteArray->Value) (hb:ks.length<=1000000) (hn:ks.Nodup):MCall prog 152 [.mp 1000] [(1000,eC w ks)]
 (fun r o'=>r= .ref 1005 0 (gX dF ks).length/\o'= [(1005,⟨true,false,false,1,(gX dF ks).map aY,0⟩)]):=by
 have hk:=dK6 (eC w ks) rfl
 have h:=dLd ks w hb hn
 have hl2:(gX dF ks).length=ks.length:=by rw[<-aUk hn,aUj]
 generalize gX dF ks=m at*
 refine dM func152 call152 rfl (by simp[ntmps152]) ?_;simp only[ntmps152,results152]
 repeat' (first|(refine aE fun _ _=>?_)|refine zHg ?_|simp(disch:=omega) [go_sem])
 refine bO [] [] 10000 _ _ (Fits.mk' (by simp[go_sem,eC]) (by simp[go_sem,eC])) (by simp[go_sem,eC]) (by simp[go_sem,eC]) (hk) (by simp[go_sem,eC]) (by simp[go_sem,eC]) ?_
 repeat' (first|(refine aE fun _ _=>?_)|refine zHg ?_|simp(disch:=omega) [go_sem])
 refine bO [(1003,11001),(1004,1000)] [(11001,1003),(1000,1004)] 30000 _ _ (Fits.mk' (by simp[go_sem,eC]) (by simp[go_sem,eC])) (by simp[go_sem,eC]) (by simp[go_sem,eC]) (h) (by simp[go_sem,eC]) (by simp[go_sem,eC]) ?_
 repeat' (first|(refine aE fun _ _=>?_)|refine zHg ?_|simp(disch:=omega) [go_sem])
 refine dN ⟨6,[(2,.ref 1005 0 m.length)],[(1005,⟨true,false,false,1,m.map aY,0⟩)]⟩ [.ref 1005 0 m.length] (Le.renSub [(31005,1005),(1005,31005)] [(1005,31005),(31005,1005)] (by simp[go_sem,hl2]) (by simp[go_sem,hl2]) (Le.sub4 rfl (by simp[go_sem,hl2]))) (by simp[go_sem,hl2]) ⟨rfl,rfl⟩
abbrev kE (s:ByteArray):AV:=sR Value.string (fun _=> .sc (.bool true)) s
theorem M9 (ks:List ByteArray) (s:ByteArray):s∉ks\/ ∃(j:Nat) (hj:j<ks.length),ks[j]=s/\ ∀(k:Nat) (hk:k<ks.length),k<j-> ¬ks[k]=s:=by
 rcases aG1 (ks.map fun k=>(k,())) s with h|⟨j,hj,h1,h2⟩
 ·exact .inl fun hs=>h (s,()) (List.mem_map.2 ⟨s,hs,rfl⟩) rfl
 ·exact .inr ⟨j,by simpa using hj,by simpa using h1,fun k hk hkj=>by have h:=h2 k (by simpa using hk) hkj;rw[List.getElem_map]at h;exact h⟩
theorem N0 {s:ByteArray}: ∀{ks:List ByteArray} {i:Nat},s∉ks->dD (.string s) (ks.map kE) i=some none
 | [],_,_=>rfl
 |k::ks,i,h=>by
  rw[List.map_cons,dD,C8,decide_eq_false (fun e=>h (by simp[e]))]
  exact N0 fun hs=>h (by simp[hs])
theorem N1 {s:ByteArray}: ∀{ks:List ByteArray} {j i:Nat} (hj:j<ks.length),ks[j]=s->(∀(k:Nat) (hk:k<ks.length),k<j-> ¬ks[k]=s)->dD (.string s) (ks.map kE) i=some (some (i+j,.sc (.bool true)))
 |k::ks,0,i,_,h,_=>by
  have h:k=s:=h
  rw[List.map_cons,dD,C8,decide_eq_true h.symm]
  rfl
 |k::ks,j+1,i,hj,h,hn=>by
  have h0: ¬k=s:=hn 0 (by simp) (by omega)
  rw[List.map_cons,dD,C8,decide_eq_false (fun e=>h0 e.symm)]
  have:=N1 (ks:=ks) (j:=j) (i:=i+1) (by simpa using hj) h (fun q hk hkj=>hn (q+1) (by simpa using hk) (by omega))
  simp only[this]
  simp only[Option.some.injEq,Prod.mk.injEq,and_true]
  omega
def oN (ks:List ByteArray) (s:ByteArray):List ByteArray:=if iB ks s=true then ks else ks++ [s]
theorem aA1 (ks:List ByteArray) (s:ByteArray):fK (.string s) (.sc (.bool true)) (ks.map kE)=some ((oN ks s).map kE):=by
 unfold fK oN
 rcases M9 ks s with h|⟨j,hj,h1,h2⟩
 ·rw[N0 h,yM.2 h]
  simp
 ·have hs:s∈ks:=h1▸List.getElem_mem hj
  have hh:iB ks s=true:=by
   rw[<-Bool.not_eq_false,yM]
   exact fun h=>h hs
  rw[N1 hj h1 h2,hh,if_pos rfl]
  simp only[Nat.zero_add,Option.some.injEq]
  rw[show(AV.tup [.sc (.string s),.sc (.bool true)])=kE s from rfl,<-List.map_set,<-h1,List.set_getElem_self]
theorem aUm {α β:Type} {f:α->β}: ∀{l:List α} {j:Nat},(l.map f).eraseIdx j=(l.eraseIdx j).map f
 | [],_=>rfl
 |_::_,0=>rfl
 |a::l,j+1=>congrArg (f a:: ·) (aUm (l:=l) (j:=j))
theorem dLe (ks:List ByteArray) (s:ByteArray): ∃ms:List ByteArray,xL (.string s) (ks.map kE)=some (ms.map kE)/\ms.length<=ks.length/\(ks.Nodup->ms.Nodup/\ ∀x,x∈ms↔x∈ks/\x≠s):=by
 unfold xL
 rcases M9 ks s with h|⟨j,hj,h1,h2⟩
 ·rw[N0 h]
  exact⟨ks,rfl,Nat.le_refl _,fun hn=>⟨hn,fun x=>⟨fun hx=>⟨hx,fun e=>h (e▸hx)⟩,fun hx=>hx.1⟩⟩⟩
 ·rw[N1 hj h1 h2]
  refine⟨ks.eraseIdx j,?_,(List.eraseIdx_sublist ks j).length_le,fun hn=>⟨hn.sublist (List.eraseIdx_sublist ks j),fun x=>?_⟩⟩
  ·simp only[Nat.zero_add,Option.some.injEq]
   rw[aUm]
  ·rw[List.mem_eraseIdx_iff_getElem]
   constructor
   ·rintro⟨i,hi,hij,rfl⟩
    exact⟨List.getElem_mem _,fun e=>hij ((List.getElem_inj hn).1 (e.trans h1.symm))⟩
   ·rintro⟨hx,hne⟩
    obtain⟨i,hi,rfl⟩:=List.mem_iff_getElem.1 hx
    exact⟨i,hi,fun e=>hne (by subst e;exact h1),rfl⟩
theorem aUn {ks:List ByteArray} {s x:ByteArray}:x∈oN ks s↔x∈ks\/x=s:=by
 unfold oN
 split
 ·rename_i hs
  have hs':s∈ks:=by
   rcases M9 ks s with h|⟨j,hj,h1,_⟩
   ·rw[yM.2 h]at hs;cases hs
   ·exact h1▸List.getElem_mem hj
  exact⟨.inl,fun h=>by rcases h with h|rfl;exact h;exact hs'⟩
 ·simp
theorem aUo {ks:List ByteArray} {s:ByteArray} (h:ks.Nodup):(oN ks s).Nodup:=by
 unfold oN
 split
 ·exact h
 ·rename_i hs
  have hs':s∉ks:=yM.1 (by simpa using hs)
  exact List.nodup_append.2 ⟨h,by simp,fun a ha b hb e=>hs' (by rw[<-List.mem_singleton.1 hb,<-e];exact ha)⟩
theorem aUp (ks:List ByteArray) (s:ByteArray):(oN ks s).length<=ks.length+1:=by
 unfold oN
 split<;>simp
theorem D0 {α:Type} {A:List α} {c:α} {p:α->Prop}:(∃b∈A++ [c],p b)↔(∃b∈A,p b)\/p c:=by
 simp[or_and_right,exists_or]
theorem dLf {h:Tm} {bs:List Lt} {x:ByteArray}:(∃t∈dO ⟨h,bs⟩,t.name=x)↔x=h.name\/ ∃b∈bs,b.atom.name=x:=by
 constructor
 ·rintro⟨t,ht,rfl⟩
  rcases List.mem_cons.1 ht with rfl|ht
  ·exact .inl rfl
  ·obtain⟨b,hb,rfl⟩:=List.mem_map.1 ht
   exact .inr ⟨b,hb,rfl⟩
 ·rintro(rfl|⟨b,hb,rfl⟩)
  ·exact⟨h,List.mem_cons_self,rfl⟩
  ·exact⟨b.atom,List.mem_cons_of_mem _ (List.mem_map_of_mem hb),rfl⟩
theorem dLg {l:List Rl} {x:ByteArray}:x∈M3 l↔(∃r∈l,∃t∈dO r,t.name=x)/\x≠gE:=by
 simp[M3]
abbrev fJ (ks:List ByteArray):AObj:=⟨true,false,false,0,ks.map kE,1⟩
theorem dLh (l:List Rl) (le fu:Bool) (hl:l.length<=100000) (hb: ∀r∈l,r.body.length<=8):ACall prog 117 [.list le fu (l.map fP)] (fun v=>v= .own 1 ((tF l).map aY)):=by
 have hasc:=fun ks h1 h2=>aUl ks (fun _=> .bool true) h1 h2
 generalize hR:tF l=R
 refine aX func117 call117 rfl (by simp[ntmps117]) ?_;simp only[ntmps117,results117]
 repeat' (first|(refine aE fun _ _=>?_)|refine zHg ?_|simp(disch:=omega) [go_sem])
 refine bZ [3,9,10] [8] (fun y:Nat×List ByteArray=> [(11,nt .i64 y.1)]) (fun y:Nat×List ByteArray=> [(8,fJ y.2)]) (fun y:Nat×List ByteArray=>l.length - y.1) (fun y:Nat×List ByteArray=>y.1<=l.length/\y.2.Nodup/\(∀s,s∈y.2↔ ∃r∈l.take y.1,∃t∈dO r,t.name=s)/\y.2.length<=9*y.1) ((0,[])) (Le.sub4 rfl (by simp[go_sem,fJ,List.map_nil])) ⟨?_⟩ ?_
 ·exact⟨Nat.zero_le _,List.nodup_nil,by simp,by simp⟩
 intro⟨i,ks⟩ ⟨hi,hnd,hmem,hlen⟩ AA hAA;simp only[kL,Nat.reduceBEq,Nat.reduceEqDiff]
 dsimp only at*
 by_cases hlt:i<l.length
 ·have hb8:=hb _ (List.getElem_mem hlt)
  have htk:=hZ hlt
  generalize hbi:l[i]=r at*
  obtain⟨⟨hn,hts⟩,bs⟩:=r
  dsimp only at*
  have hp0:=aA1 ks hn
  have hl0:=aUp ks hn
  have hnd0:=aUo (s:=hn) hnd
  have hm0:=fun x=>aUn (ks:=ks) (s:=hn) (x:=x)
  generalize oN ks hn=k0 at*
  have hr0:k0.length<=140737488355328:=by omega
  repeat' (first|(refine aE fun _ _=>?_)|refine zHg ?_|simp(disch:=omega) [go_sem,hlt,hbi,fJ,hp0,hr0])
  refine bZ [3,9,10,11,20,21] [8,5] (fun z:Nat×List ByteArray=> [(22,nt .i64 z.1)]) (fun z:Nat×List ByteArray=> [(8,fJ z.2)]) (fun z:Nat×List ByteArray=>bs.length - z.1) (fun z:Nat×List ByteArray=>z.1<=bs.length/\z.2.Nodup/\(∀s,s∈z.2↔s∈k0\/ ∃b∈bs.take z.1,b.atom.name=s)/\z.2.length<=k0.length+z.1) ((0,k0)) (Le.sub4 rfl (by simp[go_sem,fJ])) ⟨?_⟩ ?_
  ·exact⟨Nat.zero_le _,hnd0,by simp,by simp⟩
  intro z hin AB hAB;simp only[kL,Nat.reduceBEq,Nat.reduceEqDiff]
  obtain⟨k,k1⟩:=z
  obtain⟨hk,hn1,hm1,hl1⟩:=hin
  dsimp only at*
  by_cases hkl:k<bs.length
  ·have htk':=hZ hkl
   generalize hbk:bs[k]=b at*
   obtain⟨ng,⟨bn,bts⟩⟩:=b
   have hp1:=aA1 k1 bn
   have hl2:=aUp k1 bn
   have hnd2:=aUo (s:=bn) hn1
   have hm2:=fun x=>aUn (ks:=k1) (s:=bn) (x:=x)
   generalize oN k1 bn=k2 at*
   have hr2:k2.length<=140737488355328:=by omega
   repeat' (first|(refine aE fun _ _=>?_)|refine zHg ?_|(refine(hAB.next ((k+1,k2)) (Le.sub4 rfl (by simp[go_sem,fJ])) (by(try dsimp only);omega) ?_))|simp(disch:=omega) [go_sem,hkl,hbk,hp1,hr2,fJ])
   try any_goals omega
   all_goals exact⟨hkl,hnd2,fun x=>by rw[hm2,hm1,htk',D0,or_assoc];exact or_congr Iff.rfl (or_congr Iff.rfl ⟨fun h=>h.symm,fun h=>h.symm⟩),by(try dsimp only);omega⟩
  ·obtain rfl:k=bs.length:=by omega
   rw[List.take_length]at hm1
   repeat' (first|(refine aE fun _ _=>?_)|refine zHg ?_|(refine(hAA.next ((i+1,k1)) (Le.sub4 rfl (by simp[go_sem,fJ])) (by(try dsimp only);omega) ?_))|simp(disch:=omega) [go_sem,fJ])
   try any_goals omega
   all_goals exact⟨hlt,hn1,fun x=>by rw[hm1,hm0,hmem,htk,D0,dLf,or_assoc];exact Iff.rfl,by(try dsimp only);omega⟩
 ·obtain rfl:i=l.length:=by omega
  rw[List.take_length]at hmem
  obtain⟨ms,hd,hml,hms⟩:=dLe ks gE
  obtain⟨hm1,hm2⟩:=hms hnd
  have ha:=hasc ms (by omega) hm1
  have hms:gX dF ms=R:=by
   rw[<-hR]
   refine B7 tD fun x=>?_
   rw[hm2,hmem,dLg]
  rw[hms]at ha
  repeat' (first|(refine aE fun _ _=>?_)|refine zHg ?_|simp(disch:=omega) [go_sem,fJ,hd])
  refine bO [(1000,8)] [(8,1000)] 10000 _ _ (Fits.mk' (by simp[go_sem,eC]) (by simp[go_sem,eC])) (by simp[go_sem,eC]) (by simp[go_sem,eC]) (ha) (by simp[go_sem,eC]) (by simp[go_sem,eC]) ?_
  repeat' (first|(refine aE fun _ _=>?_)|refine zHg ?_|(refine aL [] ?_;simp[go_sem])|simp(disch:=omega) [go_sem])
abbrev xB (e:Ed):Value:= .agg #[.string e.fr,.string e.to,.bool e.neg]
theorem dLi (e:Ed):qC (xB e)=cF e:=rfl
attribute [local go_sem] dLi
instance:Inhabited Ed:=⟨⟨default,default,false⟩⟩
abbrev mF (hd:LH) (l:List Ed):aK:= [(2000,fB true (hd.st .ready none) [.ptr 1000 0 0]),(1000,⟨false,false,true,1,[.ref 1001 0 l.length],0⟩),(1001,⟨true,false,true,3,l.map cF,0⟩)]
abbrev gS (hd:LH) (l:List Ed):aK:= [(2000,fB true (hd.st .ready none) [.ptr 1000 0 0]),(1000,⟨false,false,true,1,[.ref 1002 0 l.length],0⟩),(1002,⟨true,false,false,3,l.map cF,0⟩)]
abbrev fQ (w:Ed->Value) (ks:List Ed):AObj:=⟨true,false,true,0,ks.map (sR xB fun k=> .sc (w k)),1⟩
abbrev vG (w:Ed->Value) (ks:List Ed) (bs:List Nat) (c:Nat):AObj:=⟨true,false,true,0,nF (ks.map (sR xB fun k=> .sc (w k))) bs c,1⟩
theorem dLj (ks:List Ed) (w:Ed->Value) (hb:ks.length<=1000000) (hd:LH) (hY: ∀(l:List Ed) (x:Ed),l.length<1000000->qT prog [.yl 2000,cF x] (mF hd l) (fun r o'=>r=bl true/\o'=gS hd (l++ [x]))):
 MCall prog 172 [.yl 2000,.ptr 1003 0 0] (mF hd []++ [(1003,⟨false,false,true,1,[.mp 1004],0⟩),(1004,fQ w ks)])
  (fun r o'=>r= .tup []/\ ∃l:List Ed,l.Perm ks/\ ∃(bs:List Nat) (c:Nat),o'=gS hd l++ [(1003,⟨false,false,true,1,[.mp 1004],0⟩),(1004,vG w ks bs c)]):=by
 refine dM func172 call172 rfl (by simp[ntmps172]) ?_;simp only[ntmps172,results172]
 repeat' (first|(refine aE fun _ _=>?_)|refine zHg ?_|simp(disch:=omega) [go_sem])
 refine aMk (L:=1004) rfl rfl (by decide+kernel) (by decide) (by simp) fun bs c hbl hbn hbc=>?_
 rw[List.length_map]at hbl
 repeat' (first|(refine aE fun _ _=>?_)|refine zHg ?_|simp(disch:=omega) [go_sem])
 refine bZ [0,5] [2000,1000,1001,5,1004] (fun z:List Nat×List Ed=> []) (fun z:List Nat×List Ed=> [(2000,fB true (hd.st .ready none) [.ptr 1000 0 0]),(1000,⟨false,false,true,1,[.ref 1001 0 z.2.length],0⟩),(1001,⟨true,false,false,3,z.2.map cF,0⟩),(5,iY 1004 c false bs z.1),(1004,vG w ks bs c)]) (fun z:List Nat×List Ed=>ks.length - z.1.length) (fun z:List Nat×List Ed=>z.1.Nodup/\(∀i∈z.1,i<ks.length)/\z.2=z.1.map (ks.getD · default)) (([],[])) (by refine Le.trans ?_ (Le.unpin 1001 rfl);exact(Le.sub4 rfl (by simp[go_sem,mF,wH,List.map_nil]))) ⟨?_⟩ ?_
 ·exact⟨List.nodup_nil,by simp,rfl⟩
 intro⟨is,l⟩ ⟨hin,hil,hlk⟩ AA hAA;simp only[kL,Nat.reduceBEq,Nat.reduceEqDiff]
 dsimp only at*
 have hll:l.length=is.length:=by rw[hlk,List.length_map]
 repeat' (first|(refine aE fun _ _=>?_)|refine zHg ?_|simp(disch:=omega) [go_sem])
 refine aMn (L:=1004) rfl rfl rfl (by simp) hbl hbn hbc hil (fun hall=>?_) (fun i hi hni=>?_)
 ·have hp:l.Perm ks:=hlk▸aUg (fun i hi=>by simp[List.getD_eq_getElem?_getD,List.getElem?_eq_getElem hi]) hin hil hall
  repeat' (first|(refine aE fun _ _=>?_)|refine zHg ?_|simp(disch:=omega) [go_sem])
  refine eW ⟨14,[],gS hd l++ [(1003,⟨false,false,true,1,[.mp 1004],0⟩),(1004,vG w ks bs c)]⟩ [] (Le.renSub [(1001,1002),(1002,1001)] [(1002,1001),(1001,1002)] (by simp[go_sem,gS]) (by simp[go_sem,gS]) (Le.sub4 rfl (by simp[go_sem,gS]))) (by simp[go_sem,gS]) ⟨rfl,l,hp,bs,c,rfl⟩
 ·have hlx:is.length<ks.length:=aUf hin hil hi hni
  have hla:(is++ [i]).length=is.length+1:=by simp
  have hy:=hY l ks[i] (by omega)
  have hkx:ks.getD i default=ks[i]:=by simp[List.getD_eq_getElem?_getD,List.getElem?_eq_getElem hi]
  generalize hx:ks[i]=x at*
  repeat' (first|(refine aE fun _ _=>?_)|refine zHg ?_|simp(disch:=omega) [go_sem,cF])
  refine aMo (L:=1004) (i:=i) rfl rfl rfl (by simp) hbl hi ?_
  rw[hx]
  repeat' (first|(refine aE fun _ _=>?_)|refine zHg ?_|simp(disch:=omega) [go_sem,cF])
  refine aMc [] [] 10000 _ _ (Fits.mk' (by simp[go_sem,mF,gS,cF]) (by simp[go_sem,mF,gS,cF])) (by simp[go_sem,mF,gS,cF]) (by simp[go_sem,mF,gS,cF]) (hy) (by simp[go_sem,mF,gS,cF]) (by simp[go_sem,mF,gS,cF]) ?_
  repeat' (first|(refine aE fun _ _=>?_)|refine zHg ?_|(refine(hAA.next ((is++ [i],l++ [x])) (Le.renSub [(11002,1001),(1001,11002)] [(1001,11002),(11002,1001)] (by simp[go_sem,gS,cF,iY,List.map_append,List.map_cons,List.map_nil,List.length_append,List.length_cons,List.length_nil]) (by simp[go_sem,gS,cF,iY,List.map_append,List.map_cons,List.map_nil,List.length_append,List.length_cons,List.length_nil]) (Le.sub4 rfl (by simp[go_sem,gS,cF,iY,List.map_append,List.map_cons,List.map_nil,List.length_append,List.length_cons,List.length_nil]))) (by(try dsimp only);omega) ?_))|simp(disch:=omega) [go_sem,gS,cF])
  try any_goals omega
  exact⟨List.nodup_append.2 ⟨hin,by simp,fun a ha b hb e=>hni (by rw[<-List.mem_singleton.1 hb,<-e];exact ha)⟩,fun j hj=>by rcases List.mem_append.1 hj with h|h;exact hil j h;simp at h;omega,by rw[hlk,List.map_append,List.map_cons,List.map_nil,hkx]⟩
theorem dLk (o:AObj) (ho:o=⟨true,false,true,0,o.xs,1⟩):MCall prog 149 [.mp 1000] [(1000,o)] (fun r o'=>r= .clo 172 [.ptr 1001 0 0]/\o'= [(1001,⟨false,false,false,1,[.mp 1000],0⟩),(1000,o)]):=by
 rw[ho]
 refine dM func149 call149 rfl (by simp[ntmps149]) ?_;simp only[ntmps149,results149]
 repeat' (first|(refine aE fun _ _=>?_)|refine zHg ?_|simp(disch:=omega) [go_sem])
 refine dN ⟨4,[(2,.clo 172 [.ptr 1001 0 0])],[(1001,⟨false,false,false,1,[.mp 1000],0⟩),(1000,⟨true,false,true,0,o.xs,1⟩)]⟩ [.clo 172 [.ptr 1001 0 0]] (Le.renSub [(1,1001),(1001,1)] [(1001,1),(1,1001)] (by simp[go_sem]) (by simp[go_sem]) (Le.sub4 rfl (by simp[go_sem]))) (by simp[go_sem]) ⟨rfl,rfl⟩
abbrev kzO (w:Ed->Value) (ks:List Ed) (L B:Nat):aK:= [(B,⟨false,false,true,1,[.mp L],0⟩),(L,fQ w ks)]
theorem dLl (ks:List Ed) (w:Ed->Value) (hb:ks.length<=1000000):MCall prog 186 [.list false true [],.clo 172 [.ptr 1003 0 0]] (kzO w ks 1004 1003)
 (fun r o'=> ∃l:List Ed,l.Perm ks/\r= .ref 1005 0 l.length/\o'= [(1005,⟨true,false,false,3,l.map cF,0⟩)]):=by
 refine dM func186 call186 rfl (by simp[ntmps186]) ?_;simp only[ntmps186,results186]
 repeat' (first|(refine aE fun _ _=>?_)|refine zHg ?_|simp(disch:=omega) [go_sem])
 refine aMh (Le.nilBox 2 900 3 rfl (by decide) (by decide)) ?_;simp only[aC3,aC4,zS,S7,aC8,S9,S8,aC9,T0,aDa,aDe,aDf,aDd,aDc,aDg,aDh,aC5,S4,S5,aC6,aC7,S6,aDn,List.map_cons,List.map_nil,Bool.or_false,Bool.false_eq_true,if_false,Nat.reduceEqDiff,Nat.reduceBEq]
 refine aMb 2000 7 30000 [2] [(1000,2),(1001,900)] [(2,1000),(900,1001)] (fun hd=>(2000,fB true (hd.st .ready none) [.ptr 1000 0 0]):: [(1000,⟨false,false,true,1,[.ref 1001 0 0],0⟩),(1001,⟨true,false,true,3,[],0⟩),(1003,⟨false,false,true,1,[.mp 1004],0⟩),(1004,fQ w ks)]) (.yl 2000:: [.ptr 1003 0 0]) (fun hd r o'=>r= .tup []/\ ∃l:List Ed,l.Perm ks/\ ∃(bs:List Nat) (c:Nat),o'=gS hd l++ [(1003,⟨false,false,true,1,[.mp 1004],0⟩),(1004,vG w ks bs c)]) rfl (by simp[go_sem]) (by simp) rfl (by simp[go_sem]) ?_;intro hd hps has hbd hn hks
 refine⟨Fits.mk' (by simp[go_sem,mF,gS,fQ,vG,iY]) (by simp[go_sem,mF,gS,fQ,vG,iY]),(by simp[go_sem,mF,gS,fQ,vG,iY]),(by simp[go_sem,mF,gS,fQ,vG,iY]),(by simp[go_sem,mF,gS,fQ,vG,iY]),?_,?_⟩
 ·have hk:=dLj ks w hb hd fun A x hA=>by
   refine aL8 (ts:= [.ptr 1000 0 0]) (by simp[go_sem,mF,gS]) hps has hbd hn hks rfl (by decide) (by decide) rfl rfl ?_;simp only[List.zip_cons_cons,List.zip_nil_left,List.zip_nil_right,List.cons_append,List.nil_append]
   repeat' (first|(refine aE fun _ _=>?_)|refine zHg ?_|simp(disch:=omega) [go_sem,mF,cF])
   refine aMg [.ptr 1000 0 0] (by simp[go_sem]) ?_;simp only[aEi,aEh,Nat.reduceEqDiff,if_true,if_false]
   repeat' (first|(refine aE fun _ _=>?_)|refine zHg ?_|simp(disch:=omega) [go_sem,mF,cF]|refine zAo ?_|fail)
   refine aMf (aMd ⟨13,[],[(2000,fB true (hd.st .busy none) [.ptr 1000 0 0]),(1000,⟨false,false,true,1,[.ref 1002 0 (A.length+1)],0⟩),(1002,⟨true,false,false,3,A.map cF++ [cF x],0⟩)]⟩ [.ptr 1000 0 0] (Le.renSub [(11,1002),(1002,11)] [(1002,11),(11,1002)] (by simp[go_sem,cF]) (by simp[go_sem,cF]) (Le.sub4 rfl (by simp[go_sem,cF]))) (by simp[go_sem,cF]) (by simp[go_sem,cF]))
  exact hk
 ·rintro r o' ⟨rfl,l,hp,bs,c,rfl⟩
  have hlb:l.length<=1000000:=by rw[hp.length_eq];exact hb
  refine⟨(by simp[go_sem,gS]),aMe (hd.st .ready none) [.ptr 1000 0 0] (by simp[go_sem,gS]) (by simp[go_sem,gS]) ⟨13,[(2,.ptr 2 0 0)],[(2,⟨false,false,false,1,[.ref 31002 0 l.length],0⟩),(31002,⟨true,false,false,3,l.map cF,0⟩)]⟩ (Le.sub4 rfl (by simp[go_sem,gS])) (by simp[go_sem,gS]) ?_⟩
  repeat' (first|(refine aE fun _ _=>?_)|refine zHg ?_|simp(disch:=omega) [go_sem])
  refine dN ⟨13,[(4,.ref 1005 0 l.length)],[(1005,⟨true,false,false,3,l.map cF,0⟩)]⟩ [.ref 1005 0 l.length] (Le.renSub [(31002,1005),(1005,31002)] [(1005,31002),(31002,1005)] (by simp[go_sem]) (by simp[go_sem]) (Le.sub4 rfl (by simp[go_sem]))) (by simp[go_sem]) ⟨l,hp,rfl,rfl⟩
theorem dLm (ks:List Ed) (w:Ed->Value) (hb:ks.length<=1000000):MCall prog 170 [.clo 172 [.ptr 1003 0 0]] (kzO w ks 1004 1003)
 (fun r o'=> ∃l:List Ed,l.Perm ks/\r= .ref 1005 0 l.length/\o'= [(1005,⟨true,false,false,3,l.map cF,0⟩)]):=by
 have h:=dLl ks w hb
 refine dM func170 call170 rfl (by simp[ntmps170]) ?_;simp only[ntmps170,results170]
 repeat' (first|(refine aE fun _ _=>?_)|refine zHg ?_|simp(disch:=omega) [go_sem])
 refine iE [] [] 10000 _ _ (Fits.mk' (by simp[go_sem,fQ]) (by simp[go_sem,fQ])) (by simp[go_sem,fQ]) (by simp[go_sem,fQ]) (h) (by simp[go_sem,fQ]) (by intros;simp[go_sem,fQ]) ?_;intro l hp
 repeat' (first|(refine aE fun _ _=>?_)|refine zHg ?_|simp(disch:=omega) [go_sem])
 refine dN ⟨5,[(2,.ref 1005 0 l.length)],[(1005,⟨true,false,false,3,l.map cF,0⟩)]⟩ [.ref 1005 0 l.length] (Le.renSub [(11005,1005),(1005,11005)] [(1005,11005),(11005,1005)] (by simp[go_sem]) (by simp[go_sem]) (Le.sub4 rfl (by simp[go_sem]))) (by simp[go_sem]) ⟨l,hp,rfl,rfl⟩
theorem aUq (a:ByteArray):ACall prog 189 [.sc (.string a)] (fun r=>r=bl false):=by
 refine aX func189 call189 rfl (by simp[ntmps189]) ?_;simp only[ntmps189,results189]
 repeat' (first|(refine aE fun _ _=>?_)|refine zHg ?_|(refine aL [] ?_;simp[go_sem])|simp(disch:=omega) [go_sem])
theorem aUr (a b:ByteArray):ACall prog 174 [.sc (.string a),.sc (.string b)] (fun r=>r=nt .i64 (dF a b)):=by
 have h1:=aUq a
 have h2:=aUq b
 refine aX func174 call174 rfl (by simp[ntmps174]) ?_;simp only[ntmps174,results174]
 repeat' (first|(refine aE fun _ _=>?_)|refine zHg ?_|(refine aL [] ?_;simp[go_sem])|refine aI rfl (h1) (by simp) ?_|refine aI rfl (h2) (by simp) ?_|simp(disch:=omega) [go_sem]|(refine zqs ?_ ?_<;>(intro h;((try simp only[h]);(try simp at h)))))
 all_goals
  rename_i h
  have hr:=K6 a b
  have hz:=tD.zero a b
  simp only[aNx,decide_eq_true_eq,decide_eq_false_iff_not]at*
  first
  |omega
  |(
   obtain⟨g1,g2⟩:=h
   have g3: ¬dF a b=0:=fun e=>g2 (hz.1 e)
   omega)
  |(
   have g3:dF a b=0:=hz.2 (h (by assumption))
   omega)
theorem dLn (a b:Int) (ha:a= -1\/a=0\/a=1) (hb:b= -1\/b=0\/b=1) (le fu:Bool):ACall prog 173 [.list le fu [nt .i64 a,nt .i64 b]] (fun r=>r=nt .i64 (gC a b)):=by
 refine aX func173 call173 rfl (by simp[ntmps173]) ?_;simp only[ntmps173,results173]
 generalize hR:gC a b=R
 unfold gC at hR
 repeat' (first|(refine aE fun _ _=>?_)|refine zHg ?_|simp(disch:=omega) [go_sem])
 refine bZ [3,6,7] [] (fun i:Nat=> [(8,nt .i64 i)]) (fun i:Nat=> []) (fun i:Nat=>2 - i) (fun i:Nat=>i<=2/\(1<=i->a=0)/\(2<=i->b=0)) (0) (Le.sub4 rfl (by simp[go_sem])) ⟨?_⟩ ?_
 ·exact⟨by omega,fun h=>by omega,fun h=>by omega⟩
 intro i ⟨hi,h1,h2⟩ AA hAA;simp only[kL,Nat.reduceBEq,Nat.reduceEqDiff]
 have hi3:i=0\/i=1\/i=2:=by omega
 rcases hi3 with rfl|rfl|rfl
 ·by_cases h0:a=0
  ·subst h0
   repeat' (first|(refine aE fun _ _=>?_)|refine zHg ?_|(refine(hAA.next (1) (Le.sub4 rfl (by simp[go_sem])) (by(try dsimp only);omega) ?_))|simp(disch:=omega) [go_sem])
   try any_goals omega
   all_goals exact⟨by omega,fun _=>rfl,fun h=>by omega⟩
  ·rw[if_pos h0]at hR
   subst hR
   repeat' (first|(refine aE fun _ _=>?_)|refine zHg ?_|(refine aL [] ?_;simp[go_sem,h0])|simp(disch:=omega) [go_sem,h0])
 ·obtain rfl:=h1 (by omega)
  by_cases h0:b=0
  ·subst h0
   repeat' (first|(refine aE fun _ _=>?_)|refine zHg ?_|(refine(hAA.next (2) (Le.sub4 rfl (by simp[go_sem])) (by(try dsimp only);omega) ?_))|simp(disch:=omega) [go_sem])
   try any_goals omega
   all_goals exact⟨by omega,fun _=>rfl,fun _=>rfl⟩
  ·rw[if_neg (by simp)]at hR
   subst hR
   repeat' (first|(refine aE fun _ _=>?_)|refine zHg ?_|(refine aL [] ?_;simp[go_sem,h0])|simp(disch:=omega) [go_sem,h0])
 ·obtain rfl:=h1 (by omega)
  obtain rfl:=h2 (by omega)
  rw[if_neg (by simp)]at hR
  subst hR
  repeat' (first|(refine aE fun _ _=>?_)|refine zHg ?_|(refine aL [] ?_;simp[go_sem])|simp(disch:=omega) [go_sem])
theorem dLo (x y:Ed):ACall prog 150 [cF x,cF y] (fun r=>r=nt .i64 (kM x y)):=by
 obtain⟨f,t,n⟩:=x
 obtain⟨f2,t2,n2⟩:=y
 have h1:=aUr f f2
 have h2:=aUr t t2
 have r1:=K6 f f2
 have r2:=K6 t t2
 generalize hR:kM ⟨f,t,n⟩ ⟨f2,t2,n2⟩=R
 unfold kM at hR
 dsimp only at hR
 generalize dF f f2=a at*
 generalize dF t t2=b at*
 have h3:=dLn a b r1 r2 true false
 generalize hc:gC a b=c at*
 have hlenT:True:=trivial
 refine aX func150 call150 rfl (by simp[ntmps150]) ?_;simp only[ntmps150,results150]
 repeat' (first|(refine aE fun _ _=>?_)|refine zHg ?_|((first|refine zqd ?_ ?_|refine zgn ?_ ?_)<;>(intro h;first|(simp only[h,zT])|skip))|(refine aL [] ?_;simp[go_sem,hlenT])|refine bI rfl (h1) rfl (by simp) ?_|refine bI rfl (h2) rfl (by simp) ?_|refine aI rfl (h3) (by simp) ?_|simp(disch:=omega) [go_sem,hlenT]|refine zDr 10 bA ?_|(refine zqs ?_ ?_<;>(intro h;((try simp only[h]);(try simp at h)))))
 all_goals
  rw[<-hR]
  clear h1 h2 h3 hR
  cases n<;>cases n2<;>simp_all [gC,cR,nb]
section
variable {α : Type} [DecidableEq α] {kv : α -> Value}
abbrev kS (kv:α->Value) (a:α):AV:=sR kv (fun _=> .sc (.bool true)) a
theorem aUs (hk: ∀a b,jS (kv a) (kv b)=some (decide (a=b))) {s:α}: ∀{ks:List α} {i:Nat},s∉ks->dD (kv s) (ks.map (kS kv)) i=some none
 | [],_,_=>rfl
 |k::ks,i,h=>by
  rw[List.map_cons,dD,hk,decide_eq_false (fun e=>h (by simp[e]))]
  exact aUs hk fun hs=>h (by simp[hs])
theorem aUt (hk: ∀a b,jS (kv a) (kv b)=some (decide (a=b))) {s:α}: ∀{ks:List α} {j i:Nat} (hj:j<ks.length),ks[j]=s->(∀(k:Nat) (hk:k<ks.length),k<j-> ¬ks[k]=s)->dD (kv s) (ks.map (kS kv)) i=some (some (i+j,.sc (.bool true)))
 |k::ks,0,i,_,h,_=>by
  have h:k=s:=h
  rw[List.map_cons,dD,hk,decide_eq_true h.symm]
  rfl
 |k::ks,j+1,i,hj,h,hn=>by
  have h0: ¬k=s:=hn 0 (by simp) (by omega)
  rw[List.map_cons,dD,hk,decide_eq_false (fun e=>h0 e.symm)]
  have:=aUt hk (ks:=ks) (j:=j) (i:=i+1) (by simpa using hj) h (fun q hk hkj=>hn (q+1) (by simpa using hk) (by omega))
  simp only[this]
  simp only[Option.some.injEq,Prod.mk.injEq,and_true]
  omega
omit [DecidableEq α]in
theorem dLp (ks:List α) (s:α):s∉ks\/ ∃(j:Nat) (hj:j<ks.length),ks[j]=s/\ ∀(k:Nat) (hk:k<ks.length),k<j-> ¬ks[k]=s:=by
 induction ks with
 |nil=>exact .inl (by simp)
 |cons p l ih=>
  by_cases h:p=s
  ·exact .inr ⟨0,by simp,h,fun k _ hk=>by omega⟩
  ·rcases ih with h1|⟨j,hj,h1,h2⟩
   ·refine .inl fun hq=>?_
    rcases List.mem_cons.1 hq with rfl|hq
    ·exact h rfl
    ·exact h1 hq
   ·refine .inr ⟨j+1,by simpa using hj,h1,fun k hk hkj=>?_⟩
    cases k with
    |zero=>exact h
    |succ k=>exact h2 k (by simpa using hk) (by omega)
def tN (ks:List α) (s:α):List α:=if s∈ks then ks else ks++ [s]
theorem dLq (hk: ∀a b,jS (kv a) (kv b)=some (decide (a=b))) (ks:List α) (s:α):fK (kv s) (.sc (.bool true)) (ks.map (kS kv))=some ((tN ks s).map (kS kv)):=by
 unfold fK tN
 rcases dLp ks s with h|⟨j,hj,h1,h2⟩
 ·rw[aUs hk h,if_neg h]
  simp
 ·rw[aUt hk hj h1 h2,if_pos (h1▸List.getElem_mem hj)]
  simp only[Nat.zero_add,Option.some.injEq]
  rw[show(AV.tup [.sc (kv s),.sc (.bool true)])=kS kv s from rfl,<-List.map_set,<-h1,List.set_getElem_self]
theorem dLr {ks:List α} {s x:α}:x∈tN ks s↔x∈ks\/x=s:=by
 unfold tN
 split
 ·rename_i hs
  exact⟨.inl,fun h=>by rcases h with h|rfl;exact h;exact hs⟩
 ·simp
theorem dLs {ks:List α} {s:α} (h:ks.Nodup):(tN ks s).Nodup:=by
 unfold tN
 split
 ·exact h
 ·rename_i hs
  exact List.nodup_append.2 ⟨h,by simp,fun a ha b hb e=>hs (by rw[<-List.mem_singleton.1 hb,<-e];exact ha)⟩
theorem dLt (ks:List α) (s:α):(tN ks s).length<=ks.length+1:=by
 unfold tN
 split<;>simp
end
instance edDec:DecidableEq Ed:=fun a b=>decidable_of_iff (a.fr=b.fr/\a.to=b.to/\a.neg=b.neg) (by cases a;cases b;simp)
theorem dLu (a b:Ed):jS (xB a) (xB b)=some (decide (a=b)):=by
 obtain⟨f,t,n⟩:=a
 obtain⟨f2,t2,n2⟩:=b
 simp only[jS,kF,nW,Option.some.injEq,Ed.mk.injEq,Bool.and_true,Bool.decide_and]
 cases n<;>cases n2<;>simp
def N2:Prop:= ∀l:List Ed,l.length<=1000000->MCall prog 171 [.ref 1000 0 l.length,.clo 150 []] [(1000,bP cF 3 0 l)]
 (fun r o'=> ∃m:List Ed,(m.Perm l/\m.Pairwise (fun x y=>kM x y<=0))/\r= .tup []/\o'= [(1000,bP cF 3 0 m)])
theorem dLv {l m:List Ed} (hn:l.Nodup) (hp:m.Perm l) (hs:m.Pairwise fun a b=>kM a b<=0):m=gX kM l:=by
 have ha:tC kM m:=by
  refine(hs.and (hp.nodup_iff.2 hn)).imp fun {a b} hab=>?_
  have h1: ¬kM a b=0:=fun e=>hab.2 ((yK.zero a b).1 e)
  have h2:kM a b<=0:=hab.1
  show kM a b<0
  omega
 rw[<-aR9 yK ha]
 exact B7 yK fun x=>hp.mem_iff
theorem dLw (hS:N2) (ks:List Ed) (w:Ed->Value) (hb:ks.length<=1000000) (hn:ks.Nodup):MCall prog 148 [.clo 172 [.ptr 1003 0 0],.clo 150 []] (kzO w ks 1004 1003)
 (fun r o'=>r= .ref 1005 0 (gX kM ks).length/\o'= [(1005,⟨true,false,false,3,(gX kM ks).map cF,0⟩)]):=by
 have h:=dLm ks w hb
 refine dM func148 call148 rfl (by simp[ntmps148]) ?_;simp only[ntmps148,results148]
 repeat' (first|(refine aE fun _ _=>?_)|refine zHg ?_|simp(disch:=omega) [go_sem])
 refine iE [] [] 10000 _ _ (Fits.mk' (by simp[go_sem,fQ]) (by simp[go_sem,fQ])) (by simp[go_sem,fQ]) (by simp[go_sem,fQ]) (h) (by simp[go_sem,fQ]) (by intros;simp[go_sem,fQ]) ?_;intro l hp
 have hs:=hS l (by rw[hp.length_eq];exact hb)
 repeat' (first|(refine aE fun _ _=>?_)|refine zHg ?_|simp(disch:=omega) [go_sem])
 refine iE [(1000,11005)] [(11005,1000)] 30000 _ _ (Fits.mk' (by simp[go_sem]) (by simp[go_sem])) (by simp[go_sem]) (by simp[go_sem]) (hs) (by simp[go_sem]) (by intros;simp[go_sem]) ?_;intro m hm
 obtain⟨hmp,hms⟩:=hm
 have e:m=gX kM ks:=dLv hn (hmp.trans hp) hms
 have hll:l.length=m.length:=hmp.length_eq.symm
 generalize gX kM ks=q at*
 subst e
 repeat' (first|(refine aE fun _ _=>?_)|refine zHg ?_|simp(disch:=omega) [go_sem,hll])
 refine dN ⟨12,[(4,.ref 1005 0 m.length)],[(1005,⟨true,false,false,3,m.map cF,0⟩)]⟩ [.ref 1005 0 m.length] (Le.renSub [(11005,1005),(1005,11005)] [(1005,11005),(11005,1005)] (by simp[go_sem]) (by simp[go_sem]) (Le.sub4 rfl (by simp[go_sem]))) (by simp[go_sem]) ⟨rfl,rfl⟩
abbrev oO (ks:List Ed):AObj:=⟨true,false,false,0,ks.map (kS xB),1⟩
theorem dLx {r:Rl} {e:Ed} (h: ¬r.head.name=gE):e∈yL r↔ ∃b∈r.body,¬b.atom.name=gE/\e=⟨r.head.name,b.atom.name,b.neg⟩:=by
 unfold yL
 rw[if_neg h,List.mem_map]
 constructor
 ·rintro⟨b,hb,rfl⟩
  obtain⟨h1,h2⟩:=List.mem_filter.1 hb
  exact⟨b,h1,by simpa using h2,rfl⟩
 ·rintro⟨b,hb,h2,rfl⟩
  exact⟨b,List.mem_filter.2 ⟨hb,by simpa using h2⟩,rfl⟩
theorem aUu (hS:N2) (l:List Rl) (le fu:Bool) (hl:l.length<=100000) (hb: ∀r∈l,r.body.length<=8):ACall prog 113 [.list le fu (l.map fP)] (fun v=>v= .own 3 ((iS l).map cF)):=by
 have hke:=fun ks=>dLk (fQ (fun _=> .bool true) ks) rfl
 have hso:=fun ks h1 h2=>dLw hS ks (fun _=> .bool true) h1 h2
 generalize hR:iS l=R
 refine aX func113 call113 rfl (by simp[ntmps113]) ?_;simp only[ntmps113,results113]
 repeat' (first|(refine aE fun _ _=>?_)|refine zHg ?_|simp(disch:=omega) [go_sem])
 refine bZ [3,9,10] [8] (fun y:Nat×List Ed=> [(11,nt .i64 y.1)]) (fun y:Nat×List Ed=> [(8,oO y.2)]) (fun y:Nat×List Ed=>l.length - y.1) (fun y:Nat×List Ed=>y.1<=l.length/\y.2.Nodup/\(∀e,e∈y.2↔ ∃r∈l.take y.1,e∈yL r)/\y.2.length<=8*y.1) ((0,[])) (Le.sub4 rfl (by simp[go_sem,oO,List.map_nil])) ⟨?_⟩ ?_
 ·exact⟨Nat.zero_le _,List.nodup_nil,by simp,by simp⟩
 intro⟨i,ks⟩ ⟨hi,hnd,hmem,hlen⟩ AA hAA;simp only[kL,Nat.reduceBEq,Nat.reduceEqDiff]
 dsimp only at*
 by_cases hlt:i<l.length
 ·have hb8:=hb _ (List.getElem_mem hlt)
  have htk:=hZ hlt
  generalize hbi:l[i]=r at*
  obtain⟨⟨hn,hts⟩,bs⟩:=r
  dsimp only at*
  by_cases hd:hn=gE
  ·have hno:yL ⟨.mk hn hts,bs⟩= []:=if_pos hd
   subst hd
   repeat' (first|(refine aE fun _ _=>?_)|refine zHg ?_|(refine(hAA.next ((i+1,ks)) (Le.sub4 rfl (by simp[go_sem,oO])) (by(try dsimp only);omega) ?_))|simp(disch:=omega) [go_sem,hlt,hbi,oO])
   try any_goals omega
   all_goals exact⟨hlt,hnd,fun x=>by rw[htk,D0,hno,hmem];simp,by(try dsimp only);omega⟩
  ·have hex:=fun e=>dLx (r:=⟨.mk hn hts,bs⟩) (e:=e) hd
   repeat' (first|(refine aE fun _ _=>?_)|refine zHg ?_|simp(disch:=omega) [go_sem,hlt,hbi,oO,hd])
   refine bZ [3,5,9,10,11,20,21] [8,5] (fun z:Nat×List Ed=> [(22,nt .i64 z.1)]) (fun z:Nat×List Ed=> [(8,oO z.2),(5,⟨false,false,false,3,[fP ⟨.mk hn hts,bs⟩],0⟩)]) (fun z:Nat×List Ed=>bs.length - z.1) (fun z:Nat×List Ed=>z.1<=bs.length/\z.2.Nodup/\(∀e,e∈z.2↔e∈ks\/ ∃b∈bs.take z.1,¬b.atom.name=gE/\e=⟨hn,b.atom.name,b.neg⟩)/\z.2.length<=ks.length+z.1) ((0,ks)) (Le.sub4 rfl (by simp[go_sem,oO])) ⟨?_⟩ ?_
   ·exact⟨Nat.zero_le _,hnd,by simp,by simp⟩
   intro z hin AB hAB;simp only[kL,Nat.reduceBEq,Nat.reduceEqDiff]
   obtain⟨k,k1⟩:=z
   obtain⟨hk,hn1,hm1,hl1⟩:=hin
   dsimp only at*
   by_cases hkl:k<bs.length
   ·have htk':=hZ hkl
    generalize hbk:bs[k]=b at*
    obtain⟨ng,⟨bn,bts⟩⟩:=b
    by_cases hbd:bn=gE
    ·subst hbd
     repeat' (first|(refine aE fun _ _=>?_)|refine zHg ?_|(refine(hAB.next ((k+1,k1)) (Le.sub4 rfl (by simp[go_sem,oO])) (by(try dsimp only);omega) ?_))|simp(disch:=omega) [go_sem,hkl,hbk,oO])
     try any_goals omega
     all_goals exact⟨hkl,hn1,fun x=>by rw[hm1,htk',D0];simp[jI],by(try dsimp only);omega⟩
    ·have hp1:fK (.agg #[.string hn,.string bn,.bool ng]) (.sc (.bool true)) (k1.map (kS xB))=some ((tN k1 ⟨hn,bn,ng⟩).map (kS xB)):=dLq dLu k1 ⟨hn,bn,ng⟩
     have hl2:=dLt k1 (⟨hn,bn,ng⟩:Ed)
     have hnd2:=dLs (s:=(⟨hn,bn,ng⟩:Ed)) hn1
     have hm2:=fun x=>dLr (ks:=k1) (s:=(⟨hn,bn,ng⟩:Ed)) (x:=x)
     generalize tN k1 (⟨hn,bn,ng⟩:Ed)=k2 at*
     have hr2:k2.length<=140737488355328:=by omega
     repeat' (first|(refine aE fun _ _=>?_)|refine zHg ?_|(refine(hAB.next ((k+1,k2)) (Le.sub4 rfl (by simp[go_sem,oO])) (by(try dsimp only);omega) ?_))|simp(disch:=omega) [go_sem,hkl,hbk,hbd,hp1,hr2,oO])
     try any_goals omega
     all_goals exact⟨hkl,hnd2,fun x=>by rw[hm2,hm1,htk',D0,or_assoc];simp[jI,hbd],by(try dsimp only);omega⟩
   ·obtain rfl:k=bs.length:=by omega
    rw[List.take_length]at hm1
    repeat' (first|(refine aE fun _ _=>?_)|refine zHg ?_|(refine(hAA.next ((i+1,k1)) (Le.sub4 rfl (by simp[go_sem,oO])) (by(try dsimp only);omega) ?_))|simp(disch:=omega) [go_sem,oO])
    try any_goals omega
    all_goals exact⟨hlt,hn1,fun x=>by rw[hm1,hmem,htk,D0,hex];exact Iff.rfl,by(try dsimp only);omega⟩
 ·obtain rfl:i=l.length:=by omega
  rw[List.take_length]at hmem
  have hk:=hke ks
  have hs:=hso ks (by omega) hnd
  have hms:gX kM ks=R:=by
   rw[<-hR]
   exact B7 yK fun x=>by rw[hmem,List.mem_flatMap]
  rw[hms]at hs
  repeat' (first|(refine aE fun _ _=>?_)|refine zHg ?_|simp(disch:=omega) [go_sem,oO])
  refine bO [(1000,8)] [(8,1000)] 10000 _ _ (Fits.mk' (by simp[go_sem,fQ]) (by simp[go_sem,fQ])) (by simp[go_sem,fQ]) (by simp[go_sem,fQ]) (hk) (by simp[go_sem,fQ]) (by simp[go_sem,fQ]) ?_
  repeat' (first|(refine aE fun _ _=>?_)|refine zHg ?_|simp(disch:=omega) [go_sem])
  refine bO [(1003,11001),(1004,8)] [(11001,1003),(8,1004)] 30000 _ _ (Fits.mk' (by simp[go_sem,fQ]) (by simp[go_sem,fQ])) (by simp[go_sem,fQ]) (by simp[go_sem,fQ]) (hs) (by simp[go_sem,fQ]) (by simp[go_sem,fQ]) ?_
  repeat' (first|(refine aE fun _ _=>?_)|refine zHg ?_|(refine aL [] ?_;simp[go_sem])|simp(disch:=omega) [go_sem])
open Go.Ab
set_option maxRecDepth 100000
set_option maxHeartbeats 8000000
def aA2:Prop:= ∀(es:List Ed) (s:ByteArray) (le fu:Bool),es.length<=1000000->ACall prog 116 [.list le fu (es.map cF),.sc (.string s)] (fun r=>r= .own 1 ((lZ es s).map aY))
abbrev dpO (es:List Ed):aK:= [(1000,⟨false,false,true,1,[.ref 1001 0 es.length],0⟩),(1001,⟨true,false,true,3,es.map cF,0⟩)]
theorem N3 (hR:aA2) (es:List Ed) (hb:es.length<=1000000) (a b:ByteArray):MCall prog 114 [.sc (.string a),.sc (.string b),.ptr 1000 0 0] (dpO es) (fun r o'=>r=bl (iB (lZ es a) b)/\o'=dpO es):=by
 have hr:=hR es a true false hb
 have hc:=aF5 (lZ es a) b true false
 generalize iB (lZ es a) b=q at*
 generalize lZ es a=m at*
 have hlenT:True:=trivial
 refine dM func114 call114 rfl (by simp[ntmps114]) ?_;simp only[ntmps114,results114]
 repeat' (first|(refine aE fun _ _=>?_)|refine zHg ?_|(refine aI ?hl (hr) (by simp) ?_;(case hl=>(simp[go_sem,hlenT];done)))|(refine aI ?hl (hc) (by simp) ?_;(case hl=>(simp[go_sem,hlenT];done)))|simp(disch:=omega) [go_sem,hlenT])
 refine dN ⟨11,[(5,bl q)],dpO es⟩ [bl q] (Le.renSub [] [] (by simp[go_sem]) (by simp[go_sem]) (Le.sub4 rfl (by simp[go_sem]))) (by simp[go_sem]) ⟨rfl,rfl⟩
theorem dLy (hS:N2) (hR:aA2) (l:List Rl) (le fu:Bool) (hl:l.length<=100000) (hb: ∀r∈l,r.body.length<=8) (he:(iS l).length<=1000000):ACall prog 66 [.list le fu (l.map fP)] (fun v=>v=bl (M4 l)):=by
 have hE:=aUu hS l le fu hl hb
 unfold M4
 generalize iS l=es at*
 have h1:=N3 hR es he yH Z1
 have h2:=N3 hR es he yH pX
 have h3:=N3 hR es he Z2 pX
 have h4:=N3 hR es he Z4 pX
 have h5:=N3 hR es he Z3 pX
 generalize iB (lZ es yH) Z1=b1 at*
 generalize iB (lZ es yH) pX=b2 at*
 generalize iB (lZ es Z2) pX=b3 at*
 generalize iB (lZ es Z4) pX=b4 at*
 generalize iB (lZ es Z3) pX=b5 at*
 cases b1
 ·cases b2
  ·cases b3
   ·cases b4
    ·cases b5
     ·refine aX func66 call66 rfl (by simp[ntmps66]) ?_;simp only[ntmps66,results66]
      repeat' (first|(refine aE fun _ _=>?_)|refine zHg ?_|refine aI rfl (hE) (by simp) ?_|simp(disch:=omega) [go_sem])
      refine bO [(1000,3),(1001,6)] [(3,1000),(6,1001)] 10000 _ _ (Fits.mk' (by simp[go_sem]) (by simp[go_sem])) (by simp[go_sem]) (by simp[go_sem]) (h1) (by simp[go_sem]) (by simp[go_sem]) ?_
      repeat' (first|(refine aE fun _ _=>?_)|refine zHg ?_|simp(disch:=omega) [go_sem])
      refine bO [(1000,3),(1001,6)] [(3,1000),(6,1001)] 10000 _ _ (Fits.mk' (by simp[go_sem]) (by simp[go_sem])) (by simp[go_sem]) (by simp[go_sem]) (h2) (by simp[go_sem]) (by simp[go_sem]) ?_
      repeat' (first|(refine aE fun _ _=>?_)|refine zHg ?_|simp(disch:=omega) [go_sem])
      refine bO [(1000,3),(1001,6)] [(3,1000),(6,1001)] 10000 _ _ (Fits.mk' (by simp[go_sem]) (by simp[go_sem])) (by simp[go_sem]) (by simp[go_sem]) (h3) (by simp[go_sem]) (by simp[go_sem]) ?_
      repeat' (first|(refine aE fun _ _=>?_)|refine zHg ?_|simp(disch:=omega) [go_sem])
      refine bO [(1000,3),(1001,6)] [(3,1000),(6,1001)] 10000 _ _ (Fits.mk' (by simp[go_sem]) (by simp[go_sem])) (by simp[go_sem]) (by simp[go_sem]) (h4) (by simp[go_sem]) (by simp[go_sem]) ?_
      repeat' (first|(refine aE fun _ _=>?_)|refine zHg ?_|simp(disch:=omega) [go_sem])
      refine bO [(1000,3),(1001,6)] [(3,1000),(6,1001)] 10000 _ _ (Fits.mk' (by simp[go_sem]) (by simp[go_sem])) (by simp[go_sem]) (by simp[go_sem]) (h5) (by simp[go_sem]) (by simp[go_sem]) ?_
      repeat' (first|(refine aE fun _ _=>?_)|refine zHg ?_|(refine aL [] ?_;simp[go_sem])|simp(disch:=omega) [go_sem])
     ·refine aX func66 call66 rfl (by simp[ntmps66]) ?_;simp only[ntmps66,results66]
      repeat' (first|(refine aE fun _ _=>?_)|refine zHg ?_|refine aI rfl (hE) (by simp) ?_|simp(disch:=omega) [go_sem])
      refine bO [(1000,3),(1001,6)] [(3,1000),(6,1001)] 10000 _ _ (Fits.mk' (by simp[go_sem]) (by simp[go_sem])) (by simp[go_sem]) (by simp[go_sem]) (h1) (by simp[go_sem]) (by simp[go_sem]) ?_
      repeat' (first|(refine aE fun _ _=>?_)|refine zHg ?_|simp(disch:=omega) [go_sem])
      refine bO [(1000,3),(1001,6)] [(3,1000),(6,1001)] 10000 _ _ (Fits.mk' (by simp[go_sem]) (by simp[go_sem])) (by simp[go_sem]) (by simp[go_sem]) (h2) (by simp[go_sem]) (by simp[go_sem]) ?_
      repeat' (first|(refine aE fun _ _=>?_)|refine zHg ?_|simp(disch:=omega) [go_sem])
      refine bO [(1000,3),(1001,6)] [(3,1000),(6,1001)] 10000 _ _ (Fits.mk' (by simp[go_sem]) (by simp[go_sem])) (by simp[go_sem]) (by simp[go_sem]) (h3) (by simp[go_sem]) (by simp[go_sem]) ?_
      repeat' (first|(refine aE fun _ _=>?_)|refine zHg ?_|simp(disch:=omega) [go_sem])
      refine bO [(1000,3),(1001,6)] [(3,1000),(6,1001)] 10000 _ _ (Fits.mk' (by simp[go_sem]) (by simp[go_sem])) (by simp[go_sem]) (by simp[go_sem]) (h4) (by simp[go_sem]) (by simp[go_sem]) ?_
      repeat' (first|(refine aE fun _ _=>?_)|refine zHg ?_|simp(disch:=omega) [go_sem])
      refine bO [(1000,3),(1001,6)] [(3,1000),(6,1001)] 10000 _ _ (Fits.mk' (by simp[go_sem]) (by simp[go_sem])) (by simp[go_sem]) (by simp[go_sem]) (h5) (by simp[go_sem]) (by simp[go_sem]) ?_
      repeat' (first|(refine aE fun _ _=>?_)|refine zHg ?_|(refine aL [] ?_;simp[go_sem])|simp(disch:=omega) [go_sem])
    ·refine aX func66 call66 rfl (by simp[ntmps66]) ?_;simp only[ntmps66,results66]
     repeat' (first|(refine aE fun _ _=>?_)|refine zHg ?_|refine aI rfl (hE) (by simp) ?_|simp(disch:=omega) [go_sem])
     refine bO [(1000,3),(1001,6)] [(3,1000),(6,1001)] 10000 _ _ (Fits.mk' (by simp[go_sem]) (by simp[go_sem])) (by simp[go_sem]) (by simp[go_sem]) (h1) (by simp[go_sem]) (by simp[go_sem]) ?_
     repeat' (first|(refine aE fun _ _=>?_)|refine zHg ?_|simp(disch:=omega) [go_sem])
     refine bO [(1000,3),(1001,6)] [(3,1000),(6,1001)] 10000 _ _ (Fits.mk' (by simp[go_sem]) (by simp[go_sem])) (by simp[go_sem]) (by simp[go_sem]) (h2) (by simp[go_sem]) (by simp[go_sem]) ?_
     repeat' (first|(refine aE fun _ _=>?_)|refine zHg ?_|simp(disch:=omega) [go_sem])
     refine bO [(1000,3),(1001,6)] [(3,1000),(6,1001)] 10000 _ _ (Fits.mk' (by simp[go_sem]) (by simp[go_sem])) (by simp[go_sem]) (by simp[go_sem]) (h3) (by simp[go_sem]) (by simp[go_sem]) ?_
     repeat' (first|(refine aE fun _ _=>?_)|refine zHg ?_|simp(disch:=omega) [go_sem])
     refine bO [(1000,3),(1001,6)] [(3,1000),(6,1001)] 10000 _ _ (Fits.mk' (by simp[go_sem]) (by simp[go_sem])) (by simp[go_sem]) (by simp[go_sem]) (h4) (by simp[go_sem]) (by simp[go_sem]) ?_
     repeat' (first|(refine aE fun _ _=>?_)|refine zHg ?_|(refine aL [] ?_;simp[go_sem])|simp(disch:=omega) [go_sem])
   ·refine aX func66 call66 rfl (by simp[ntmps66]) ?_;simp only[ntmps66,results66]
    repeat' (first|(refine aE fun _ _=>?_)|refine zHg ?_|refine aI rfl (hE) (by simp) ?_|simp(disch:=omega) [go_sem])
    refine bO [(1000,3),(1001,6)] [(3,1000),(6,1001)] 10000 _ _ (Fits.mk' (by simp[go_sem]) (by simp[go_sem])) (by simp[go_sem]) (by simp[go_sem]) (h1) (by simp[go_sem]) (by simp[go_sem]) ?_
    repeat' (first|(refine aE fun _ _=>?_)|refine zHg ?_|simp(disch:=omega) [go_sem])
    refine bO [(1000,3),(1001,6)] [(3,1000),(6,1001)] 10000 _ _ (Fits.mk' (by simp[go_sem]) (by simp[go_sem])) (by simp[go_sem]) (by simp[go_sem]) (h2) (by simp[go_sem]) (by simp[go_sem]) ?_
    repeat' (first|(refine aE fun _ _=>?_)|refine zHg ?_|simp(disch:=omega) [go_sem])
    refine bO [(1000,3),(1001,6)] [(3,1000),(6,1001)] 10000 _ _ (Fits.mk' (by simp[go_sem]) (by simp[go_sem])) (by simp[go_sem]) (by simp[go_sem]) (h3) (by simp[go_sem]) (by simp[go_sem]) ?_
    repeat' (first|(refine aE fun _ _=>?_)|refine zHg ?_|(refine aL [] ?_;simp[go_sem])|simp(disch:=omega) [go_sem])
  ·refine aX func66 call66 rfl (by simp[ntmps66]) ?_;simp only[ntmps66,results66]
   repeat' (first|(refine aE fun _ _=>?_)|refine zHg ?_|refine aI rfl (hE) (by simp) ?_|simp(disch:=omega) [go_sem])
   refine bO [(1000,3),(1001,6)] [(3,1000),(6,1001)] 10000 _ _ (Fits.mk' (by simp[go_sem]) (by simp[go_sem])) (by simp[go_sem]) (by simp[go_sem]) (h1) (by simp[go_sem]) (by simp[go_sem]) ?_
   repeat' (first|(refine aE fun _ _=>?_)|refine zHg ?_|simp(disch:=omega) [go_sem])
   refine bO [(1000,3),(1001,6)] [(3,1000),(6,1001)] 10000 _ _ (Fits.mk' (by simp[go_sem]) (by simp[go_sem])) (by simp[go_sem]) (by simp[go_sem]) (h2) (by simp[go_sem]) (by simp[go_sem]) ?_
   repeat' (first|(refine aE fun _ _=>?_)|refine zHg ?_|(refine aL [] ?_;simp[go_sem])|simp(disch:=omega) [go_sem])
 ·refine aX func66 call66 rfl (by simp[ntmps66]) ?_;simp only[ntmps66,results66]
  repeat' (first|(refine aE fun _ _=>?_)|refine zHg ?_|refine aI rfl (hE) (by simp) ?_|simp(disch:=omega) [go_sem])
  refine bO [(1000,3),(1001,6)] [(3,1000),(6,1001)] 10000 _ _ (Fits.mk' (by simp[go_sem]) (by simp[go_sem])) (by simp[go_sem]) (by simp[go_sem]) (h1) (by simp[go_sem]) (by simp[go_sem]) ?_
  repeat' (first|(refine aE fun _ _=>?_)|refine zHg ?_|(refine aL [] ?_;simp[go_sem])|simp(disch:=omega) [go_sem])
set_option maxHeartbeats 16000000
def gM:List (ByteArray×Nat)->ByteArray->Nat
 | [],_=>0
 |p::l,x=>if p.1=x then p.2 else gM l x
theorem aUv {x:ByteArray}: ∀{l:List (ByteArray×Nat)},(∀p∈l,¬p.1=x)->gM l x=0
 | [],_=>rfl
 |p::l,h=>by
  rw[gM,if_neg (h p (by simp))]
  exact aUv fun q hq=>h q (by simp[hq])
theorem aUw {x:ByteArray}: ∀{l:List (ByteArray×Nat)} {j:Nat} (hj:j<l.length),l[j].1=x->(∀(k:Nat) (hk:k<l.length),k<j-> ¬l[k].1=x)->gM l x=l[j].2
 |p::l,0,_,h,_=>by
  have h:p.1=x:=h
  rw[gM,if_pos h];rfl
 |p::l,j+1,hj,h,hn=>by
  have h0: ¬p.1=x:=hn 0 (by simp) (by omega)
  rw[gM,if_neg h0]
  exact aUw (l:=l) (j:=j) (by simpa using hj) h fun k hk hkj=>hn (k+1) (by simpa using hk) (by omega)
theorem aUx {s:ByteArray} {v:Nat} {x:ByteArray}: ∀{l:List (ByteArray×Nat)},(∀p∈l,¬p.1=s)->gM (l++ [(s,v)]) x=if x=s then v else gM l x
 | [],_=>by
  rw[List.nil_append,gM,gM]
  by_cases h:s=x
  ·rw[if_pos h,if_pos h.symm]
  ·rw[if_neg h,if_neg (fun e=>h e.symm)];rfl
 |p::l,h=>by
  rw[List.cons_append,gM,gM]
  have h0: ¬p.1=s:=h p (by simp)
  by_cases hx:p.1=x
  ·have: ¬x=s:=fun e=>h0 (hx.trans e)
   rw[if_pos hx,if_neg this,if_pos hx]
  ·rw[if_neg hx,if_neg hx]
   exact aUx fun q hq=>h q (by simp[hq])
theorem aUy {s:ByteArray} {v:Nat} {x:ByteArray}: ∀{l:List (ByteArray×Nat)} {j:Nat} (hj:j<l.length),l[j].1=s->(∀(k:Nat) (hk:k<l.length),k<j-> ¬l[k].1=s)->gM (l.set j (s,v)) x=if x=s then v else gM l x
 |p::l,0,_,h,_=>by
  have h:p.1=s:=h
  rw[List.set_cons_zero,gM,gM]
  by_cases hx:s=x
  ·rw[if_pos hx,if_pos hx.symm]
  ·rw[if_neg hx,if_neg (fun e=>hx e.symm),h,if_neg hx]
 |p::l,j+1,hj,h,hn=>by
  have h0: ¬p.1=s:=hn 0 (by simp) (by omega)
  rw[List.set_cons_succ,gM,gM]
  by_cases hx:p.1=x
  ·have: ¬x=s:=fun e=>h0 (hx.trans e)
   rw[if_pos hx,if_neg this,if_pos hx]
  ·rw[if_neg hx,if_neg hx]
   exact aUy (l:=l) (j:=j) (by simpa using hj) h fun k hk hkj=>hn (k+1) (by simpa using hk) (by omega)
theorem aUz {f:ByteArray->Nat} {n:Nat} (h: ∀x,f x<=n): ∀l:List ByteArray,(l.map f).sum<=n*l.length
 | []=>by simp
 |a::l=>by
  have:=aUz h l
  have:=h a
  simp only[List.map_cons,List.sum_cons,List.length_cons,Nat.mul_add,Nat.mul_one]
  omega
theorem aU0 {f g:ByteArray->Nat} (h: ∀x,f x<=g x): ∀l:List ByteArray,(l.map f).sum<=(l.map g).sum
 | []=>by simp
 |a::l=>by
  have:=aU0 h l
  have:=h a
  simp only[List.map_cons,List.sum_cons]
  omega
theorem aU1 {f g:ByteArray->Nat} (h: ∀x,f x<=g x) {a:ByteArray} (ha:f a<g a): ∀{l:List ByteArray},a∈l->(l.map f).sum<(l.map g).sum
 |b::l,hm=>by
  simp only[List.map_cons,List.sum_cons]
  rcases List.mem_cons.1 hm with rfl|hm
  ·have:=aU0 h l
   omega
  ·have:=aU1 h ha hm
   have:=h b
   omega
theorem dLz (e:Ed):ACall prog 118 [cF e] (fun r=>r=nt .i64 (eX e)):=by
 obtain⟨f,t,n⟩:=e
 unfold eX
 cases n
 ·refine aX func118 call118 rfl (by simp[ntmps118]) ?_;simp only[ntmps118,results118]
  repeat' (first|(refine aE fun _ _=>?_)|refine zHg ?_|(refine aL [] ?_;simp[go_sem])|simp(disch:=omega) [go_sem])
 ·refine aX func118 call118 rfl (by simp[ntmps118]) ?_;simp only[ntmps118,results118]
  repeat' (first|(refine aE fun _ _=>?_)|refine zHg ?_|(refine aL [] ?_;simp[go_sem])|simp(disch:=omega) [go_sem])
theorem aG7 (asc:List (ByteArray×Nat)) (s:ByteArray):(dD (.string s) (asc.map (mD jX)) 0=some none/\gM asc s=0/\ ∀v:Nat,∃as2:List (ByteArray×Nat),fK (.string s) (.sc (.int .i64 (v:Int))) (asc.map (mD jX))=some (as2.map (mD jX))/\as2.length<=asc.length+1/\ ∀x,gM as2 x=if x=s then v else gM asc x)
 \/ ∃j:Nat,dD (.string s) (asc.map (mD jX)) 0=some (some (j,jX (gM asc s)))/\ ∀v:Nat,∃as2:List (ByteArray×Nat),fK (.string s) (.sc (.int .i64 (v:Int))) (asc.map (mD jX))=some (as2.map (mD jX))/\as2.length=asc.length/\ ∀x,gM as2 x=if x=s then v else gM asc x:=by
 rcases aG1 asc s with hno|⟨j,hj,hjs,hjn⟩
 ·refine .inl ⟨aAz hno,aUv hno,fun v=>⟨asc++ [(s,v)],?_,by simp,fun x=>aUx hno⟩⟩
  have h:=aUc (e:=jX) hno (jX v)
  refine h.trans ?_
  simp
 ·refine .inr ⟨j,?_,fun v=>⟨asc.set j (s,v),aUd (e:=jX) hj hjs hjn v,by simp,fun x=>aUy hj hjs hjn⟩⟩
  rw[aAy hj hjs hjn,Nat.zero_add,aUw hj hjs hjn]
def sM (nms:List ByteArray) (asc:List (ByteArray×Nat)):Nat:=(nms.map (gM asc)).sum
def cN:Bool->Nat
 |true=>1
 |false=>0
def N4 (es:List Ed) (nms:List ByteArray) (asc:List (ByteArray×Nat)):Prop:=(∀x,gM asc x<=nms.length)/\(∀L,uS es L-> ∀x,gM asc x<=L x)/\asc.length<=sM nms asc
theorem aA4 {es:List Ed} {nms:List ByteArray} (hin: ∀e∈es,e.fr∈nms/\e.to∈nms) {asc as2:List (ByteArray×Nat)} (h:N4 es nms asc) {e:Ed} (he:e∈es) {v:Nat} (hv:v=gM asc e.to+eX e) (hlt:gM asc e.fr<v) (hs:v<nms.length) (hlen:as2.length<=asc.length+1) (hg: ∀x,gM as2 x=if x=e.fr then v else gM asc x):N4 es nms as2/\sM nms asc<sM nms as2:=by
 have hle: ∀x,gM asc x<=gM as2 x:=fun x=>by
  rw[hg]
  split
  ·rename_i hx;subst hx;omega
  ·exact Nat.le_refl _
 have hlt':sM nms asc<sM nms as2:=aU1 hle (a:=e.fr) (by rw[hg,if_pos rfl];exact hlt) (hin e he).1
 refine⟨⟨fun x=>?_,fun L hL x=>?_,?_⟩,hlt'⟩
 ·rw[hg]
  split
  ·omega
  ·exact h.1 x
 ·rw[hg]
  have:=dH7 h.2.1 he L hL x
  rw[hv]
  exact this
 ·have:=h.2.2;omega
abbrev N5 (p:ByteArray×Nat):AV:= .agg [.sc (.string p.1),jX p.2]
theorem dL0 (hS:N2) (l:List Rl) (le fu:Bool) (hl:l.length<=100000) (hb: ∀r∈l,r.body.length<=8) (hn:(tF l).length<=1000000) (he:(iS l).length<=1000000):
 ACall prog 67 [.list le fu (l.map fP)] (fun v=>(pZ (iS l)=0/\ ∃xs,v= .tup [.own 2 xs,nt .i64 0])\/(pZ (iS l)=10/\v= .tup [.list false true [],nt .i64 10])):=by
 have hN:=dLh l le fu hl hb
 have hE:=aUu hS l le fu hl hb
 have hin:=dH8 (l:=l)
 generalize iS l=es at*
 generalize tF l=nms at*
 refine aX func67 call67 rfl (by simp[ntmps67]) ?_;simp only[ntmps67,results67]
 repeat' (first|(refine aE fun _ _=>?_)|refine zHg ?_|refine aI rfl (hN) (by simp) ?_|refine aI rfl (hE) (by simp) ?_|simp(disch:=omega) [go_sem])
 have hBs: ∀asc,(∀x,gM asc x<=nms.length)->sM nms asc<=nms.length*nms.length:=fun asc h=>aUz h nms
 have hB1:nms.length*nms.length<=1000000*1000000:=Nat.mul_le_mul hn hn
 generalize nms.length*nms.length=B at*
 have hcT:cN true=1:=rfl
 have hcF:cN false=0:=rfl
 refine bZ [4,5,6] [18] (fun y:Bool×List (ByteArray×Nat)=> [(7,bl y.1)]) (fun y:Bool×List (ByteArray×Nat)=> [(18,dH y.2)]) (fun y:Bool×List (ByteArray×Nat)=>2*(B - sM nms y.2)+cN y.1) (fun y:Bool×List (ByteArray×Nat)=>N4 es nms y.2/\(y.1=false->uS es (gM y.2))) ((true,[])) (Le.sub4 rfl (by simp[go_sem,dH,List.map_nil])) ⟨?_⟩ ?_
 ·exact⟨⟨fun x=>by simp[gM],fun L _ x=>by simp[gM],by simp⟩,fun h=>by cases h⟩
 intro⟨c0,asc⟩ ⟨hok,hc00⟩ AA hAA;simp only[kL,Nat.reduceBEq,Nat.reduceEqDiff]
 dsimp only at*
 have hsB0:=hBs _ hok.1
 cases c0
 ·have hlv:=aSl (hc00 rfl)
  repeat' (first|(refine aE fun _ _=>?_)|refine zHg ?_|simp(disch:=omega) [go_sem,dH])
  have h0:(nms.take 0).map (fun x=>N5 (x,gM asc x))= []:=by simp
  refine bZ [6,48,49] [900] (fun i:Nat=> [(50,nt .i64 i),(11,.ref 900 0 i)]) (fun i:Nat=> [(900,⟨true,false,false,2,(nms.take i).map (fun x=>N5 (x,gM asc x)),0⟩)]) (fun i:Nat=>nms.length - i) (fun i:Nat=>i<=nms.length) (0) (by refine Le.trans ?_ (Le.nil (i:=11) (T:=900) (es:=2) rfl);exact(Le.sub4 rfl (by simp[go_sem,h0,dH]))) ⟨?_⟩ ?_
  ·exact Nat.zero_le _
  intro i hi AA hAA;simp only[kL,Nat.reduceBEq,Nat.reduceEqDiff]
  by_cases hlt:i<nms.length
  ·have hnx:=hZ hlt
   have hln:(nms.take i).length=i:=by rw[List.length_take];omega
   have hn1:(nms.take (i+1)).map (fun x=>N5 (x,gM asc x))=(nms.take i).map (fun x=>N5 (x,gM asc x))++ [N5 (nms[i],gM asc nms[i])]:=by rw[hnx,List.map_append];rfl
   generalize nms.take i=A at*
   generalize hbi:nms[i]=x at*
   rcases aG7 asc x with⟨g1,g2,_⟩|⟨j,g1,_⟩
   ·rw[g2]at hn1
    repeat' (first|(refine aE fun _ _=>?_)|refine zHg ?_|(refine(hAA.next (i+1) (Le.sub4 rfl (by simp[go_sem,hn1,hln,List.map_append])) (by(try dsimp only);omega) ?_))|simp(disch:=omega) [go_sem,hlt,hbi,g1,hln,dH,aY]|refine zAo ?_|fail)
    try any_goals omega
    exact⟨hlt⟩
   ·have hb3:=hok.1 x
    repeat' (first|(refine aE fun _ _=>?_)|refine zHg ?_|(refine(hAA.next (i+1) (Le.sub4 rfl (by simp[go_sem,hn1,hln,List.map_append])) (by(try dsimp only);omega) ?_))|simp(disch:=omega) [go_sem,hlt,hbi,g1,hln,dH,aY]|refine zAo ?_|fail)
    try any_goals omega
    exact⟨hlt⟩
  ·obtain rfl:i=nms.length:=by omega
   rw[List.take_length]
   repeat' (first|(refine aE fun _ _=>?_)|refine zHg ?_|(refine aL [] ?_;simp[go_sem,hlv,List.length_map])|simp(disch:=omega) [go_sem,hlv,List.length_map])
 ·repeat' (first|(refine aE fun _ _=>?_)|refine zHg ?_|simp(disch:=omega) [go_sem,dH])
  refine bZ [4,5,6,20,21] [18] (fun z:Nat×Bool×List (ByteArray×Nat)=> [(22,nt .i64 z.1),(7,bl z.2.1)]) (fun z:Nat×Bool×List (ByteArray×Nat)=> [(18,dH z.2.2)]) (fun z:Nat×Bool×List (ByteArray×Nat)=>es.length - z.1) (fun z:Nat×Bool×List (ByteArray×Nat)=>z.1<=es.length/\N4 es nms z.2.2/\(z.2.1=false->z.2.2=asc/\ ∀e∈es.take z.1,gM asc e.to+eX e<=gM asc e.fr)/\(z.2.1=true->sM nms asc<sM nms z.2.2)) ((0,false,asc)) (Le.sub4 rfl (by simp[go_sem,dH])) ⟨?_⟩ ?_
  ·exact⟨Nat.zero_le _,hok,fun _=>⟨rfl,by simp⟩,fun h=>by cases h⟩
  intro z hin2 AB hAB;simp only[kL,Nat.reduceBEq,Nat.reduceEqDiff]
  obtain⟨k,c,as2⟩:=z
  obtain⟨hk,hok2,hc0,hc1⟩:=hin2
  dsimp only at*
  by_cases hkl:k<es.length
  ·have htk':=hZ hkl
   have hmem:es[k]∈es:=List.getElem_mem hkl
   generalize hbk:es[k]=e at*
   have hst:=dLz e
   have hs1:eX e<=1:=by unfold eX;split<;>omega
   have hb1:=hok2.1 e.to
   have hb2:=hok2.1 e.fr
   have hsB2:=hBs _ hok2.1
   have hl2:=hok2.2.2
   rcases aG7 as2 e.to with⟨g1,g2,_⟩|⟨j,g1,_⟩<;>rcases aG7 as2 e.fr with⟨p1,p2,p3⟩|⟨j2,p1,p3⟩
   ·obtain⟨as3,hp,hl3,hg3⟩:=p3 (gM as2 e.to+eX e)
    rw[g2,Nat.zero_add]at hp
    have hl3:as3.length<=as2.length+1:=by omega
    by_cases hv:gM as2 e.fr<gM as2 e.to+eX e
    ·have hv1:(0<(eX e:Int)):=by omega
     have hmr:as3.length<=140737488355328:=by omega
     by_cases hf:nms.length<=gM as2 e.to+eX e
     ·have hlf:=Z8 hin hok2.2.1 hmem hf
      have hf1:((nms.length:Int)<=(eX e:Int)):=by omega
      repeat' (first|(refine aE fun _ _=>?_)|refine zHg ?_|(with_reducible refine eO ?_;first|(exact eL)|(refine zSkip ?_)|(refine eM rfl ?_ ?_))|(with_reducible refine eN ?_;first|(refine zDone ?_)|(refine zQu 0 rfl rfl rfl rfl ?_)|(refine zQu 1 rfl rfl rfl rfl ?_)|(refine zQu 2 rfl rfl rfl rfl ?_)|(refine zQu 4 rfl rfl rfl rfl ?_)|(refine zQu 6 rfl rfl rfl rfl ?_)|(refine zQu 7 rfl rfl rfl rfl ?_)|(refine zAll ?_;show dR _ _ _ _ _ _ _))|with_reducible refine eJ ?_|(refine zqd ?_ ?_<;>(intro h;first|(exfalso;omega)|(simp only[h,zT])))|(refine aL [] ?_;simp[go_sem,hkl,hbk,cF,g1,p1,hp,hv1,hf1,hlf,hmr,dH])|refine aI rfl (hst) (by simp) ?_|simp(disch:=omega) [go_sem,hkl,hbk,cF,g1,p1,hp,hv1,hf1,hlf,hmr,dH]|refine zAny bA ?_|fail)
     ·have hup:=aA4 hin hok2 hmem rfl hv (by omega) hl3 hg3
      have hsl:sM nms asc<sM nms as3:=by
       cases c
       ·rw[<-(hc0 rfl).1];exact hup.2
       ·have:=hc1 rfl;have:=hup.2;omega
      have hf1: ¬((nms.length:Int)<=(eX e:Int)):=by omega
      have hsB:=hBs _ hup.1.1
      repeat' (first|(refine aE fun _ _=>?_)|refine zHg ?_|(with_reducible refine eO ?_;first|(exact eL)|(refine zSkip ?_)|(refine eM rfl ?_ ?_))|(with_reducible refine eN ?_;first|(refine zDone ?_)|(refine zQu 0 rfl rfl rfl rfl ?_)|(refine zQu 1 rfl rfl rfl rfl ?_)|(refine zQu 2 rfl rfl rfl rfl ?_)|(refine zQu 4 rfl rfl rfl rfl ?_)|(refine zQu 6 rfl rfl rfl rfl ?_)|(refine zQu 7 rfl rfl rfl rfl ?_)|(refine zAll ?_;show dR _ _ _ _ _ _ _))|with_reducible refine eJ ?_|(refine zqd ?_ ?_<;>(intro h;first|(exfalso;omega)|(simp only[h,zT])))|refine aI rfl (hst) (by simp) ?_|(refine(hAB.next ((k+1,true,as3)) (Le.sub4 rfl (by simp[go_sem,dH])) (by(try dsimp only);omega) ?_))|simp(disch:=omega) [go_sem,hkl,hbk,cF,g1,p1,hp,hv1,hf1,hmr,dH]|refine zAny bA ?_|fail)
      try any_goals omega
      all_goals exact⟨hkl,hup.1,(fun h=>by cases h),(fun _=>hsl)⟩
    ·have hv1: ¬(0<(eX e:Int)):=by omega
     repeat' (first|(refine aE fun _ _=>?_)|refine zHg ?_|(with_reducible refine eO ?_;first|(exact eL)|(refine zSkip ?_)|(refine eM rfl ?_ ?_))|(with_reducible refine eN ?_;first|(refine zDone ?_)|(refine zQu 0 rfl rfl rfl rfl ?_)|(refine zQu 1 rfl rfl rfl rfl ?_)|(refine zQu 2 rfl rfl rfl rfl ?_)|(refine zQu 4 rfl rfl rfl rfl ?_)|(refine zQu 6 rfl rfl rfl rfl ?_)|(refine zQu 7 rfl rfl rfl rfl ?_)|(refine zAll ?_;show dR _ _ _ _ _ _ _))|with_reducible refine eJ ?_|(refine zqd ?_ ?_<;>(intro h;first|(exfalso;omega)|(simp only[h,zT])))|refine aI rfl (hst) (by simp) ?_|(refine(hAB.next ((k+1,c,as2)) (Le.sub4 rfl (by simp[go_sem,dH])) (by(try dsimp only);omega) ?_))|simp(disch:=omega) [go_sem,hkl,hbk,cF,g1,p1,hv1,dH]|refine zAny bA ?_|fail)
     try any_goals omega
     all_goals exact⟨hkl,hok2,fun h=>⟨(hc0 h).1,fun e' he'=>by rw[htk']at he';rcases List.mem_append.1 he' with he'|he';(· exact(hc0 h).2 e' he');(· rw[List.mem_singleton.1 he',<-(hc0 h).1];omega)⟩,hc1⟩
   ·obtain⟨as3,hp,hl3,hg3⟩:=p3 (gM as2 e.to+eX e)
    rw[g2,Nat.zero_add]at hp
    have hl3:as3.length<=as2.length+1:=by omega
    by_cases hv:gM as2 e.fr<gM as2 e.to+eX e
    ·have hv1:((gM as2 e.fr:Int)<(eX e:Int)):=by omega
     have hmr:as3.length<=140737488355328:=by omega
     by_cases hf:nms.length<=gM as2 e.to+eX e
     ·have hlf:=Z8 hin hok2.2.1 hmem hf
      have hf1:((nms.length:Int)<=(eX e:Int)):=by omega
      repeat' (first|(refine aE fun _ _=>?_)|refine zHg ?_|(with_reducible refine eO ?_;first|(exact eL)|(refine zSkip ?_)|(refine eM rfl ?_ ?_))|(with_reducible refine eN ?_;first|(refine zDone ?_)|(refine zQu 0 rfl rfl rfl rfl ?_)|(refine zQu 1 rfl rfl rfl rfl ?_)|(refine zQu 2 rfl rfl rfl rfl ?_)|(refine zQu 4 rfl rfl rfl rfl ?_)|(refine zQu 6 rfl rfl rfl rfl ?_)|(refine zQu 7 rfl rfl rfl rfl ?_)|(refine zAll ?_;show dR _ _ _ _ _ _ _))|with_reducible refine eJ ?_|(refine aL [] ?_;simp[go_sem,hkl,hbk,cF,g1,p1,hp,hv1,hf1,hlf,hmr,dH])|refine aI rfl (hst) (by simp) ?_|simp(disch:=omega) [go_sem,hkl,hbk,cF,g1,p1,hp,hv1,hf1,hlf,hmr,dH]|refine zAny bA ?_|fail)
     ·have hup:=aA4 hin hok2 hmem rfl hv (by omega) hl3 hg3
      have hsl:sM nms asc<sM nms as3:=by
       cases c
       ·rw[<-(hc0 rfl).1];exact hup.2
       ·have:=hc1 rfl;have:=hup.2;omega
      have hf1: ¬((nms.length:Int)<=(eX e:Int)):=by omega
      have hsB:=hBs _ hup.1.1
      repeat' (first|(refine aE fun _ _=>?_)|refine zHg ?_|(with_reducible refine eO ?_;first|(exact eL)|(refine zSkip ?_)|(refine eM rfl ?_ ?_))|(with_reducible refine eN ?_;first|(refine zDone ?_)|(refine zQu 0 rfl rfl rfl rfl ?_)|(refine zQu 1 rfl rfl rfl rfl ?_)|(refine zQu 2 rfl rfl rfl rfl ?_)|(refine zQu 4 rfl rfl rfl rfl ?_)|(refine zQu 6 rfl rfl rfl rfl ?_)|(refine zQu 7 rfl rfl rfl rfl ?_)|(refine zAll ?_;show dR _ _ _ _ _ _ _))|with_reducible refine eJ ?_|refine aI rfl (hst) (by simp) ?_|(refine(hAB.next ((k+1,true,as3)) (Le.sub4 rfl (by simp[go_sem,dH])) (by(try dsimp only);omega) ?_))|simp(disch:=omega) [go_sem,hkl,hbk,cF,g1,p1,hp,hv1,hf1,hmr,dH]|refine zAny bA ?_|fail)
      try any_goals omega
      all_goals exact⟨hkl,hup.1,(fun h=>by cases h),(fun _=>hsl)⟩
    ·have hv1: ¬((gM as2 e.fr:Int)<(eX e:Int)):=by omega
     repeat' (first|(refine aE fun _ _=>?_)|refine zHg ?_|(with_reducible refine eO ?_;first|(exact eL)|(refine zSkip ?_)|(refine eM rfl ?_ ?_))|(with_reducible refine eN ?_;first|(refine zDone ?_)|(refine zQu 0 rfl rfl rfl rfl ?_)|(refine zQu 1 rfl rfl rfl rfl ?_)|(refine zQu 2 rfl rfl rfl rfl ?_)|(refine zQu 4 rfl rfl rfl rfl ?_)|(refine zQu 6 rfl rfl rfl rfl ?_)|(refine zQu 7 rfl rfl rfl rfl ?_)|(refine zAll ?_;show dR _ _ _ _ _ _ _))|with_reducible refine eJ ?_|refine aI rfl (hst) (by simp) ?_|(refine(hAB.next ((k+1,c,as2)) (Le.sub4 rfl (by simp[go_sem,dH])) (by(try dsimp only);omega) ?_))|simp(disch:=omega) [go_sem,hkl,hbk,cF,g1,p1,hv1,dH]|refine zAny bA ?_|fail)
     try any_goals omega
     all_goals exact⟨hkl,hok2,fun h=>⟨(hc0 h).1,fun e' he'=>by rw[htk']at he';rcases List.mem_append.1 he' with he'|he';(· exact(hc0 h).2 e' he');(· rw[List.mem_singleton.1 he',<-(hc0 h).1];omega)⟩,hc1⟩
   ·obtain⟨as3,hp,hl3,hg3⟩:=p3 (gM as2 e.to+eX e)
    rw[Int.natCast_add]at hp
    have hl3:as3.length<=as2.length+1:=by omega
    by_cases hv:gM as2 e.fr<gM as2 e.to+eX e
    ·have hv1:(0<(gM as2 e.to:Int)+(eX e:Int)):=by omega
     have hmr:as3.length<=140737488355328:=by omega
     by_cases hf:nms.length<=gM as2 e.to+eX e
     ·have hlf:=Z8 hin hok2.2.1 hmem hf
      have hf1:((nms.length:Int)<=(gM as2 e.to:Int)+(eX e:Int)):=by omega
      repeat' (first|(refine aE fun _ _=>?_)|refine zHg ?_|(with_reducible refine eO ?_;first|(exact eL)|(refine zSkip ?_)|(refine eM rfl ?_ ?_))|(with_reducible refine eN ?_;first|(refine zDone ?_)|(refine zQu 0 rfl rfl rfl rfl ?_)|(refine zQu 1 rfl rfl rfl rfl ?_)|(refine zQu 2 rfl rfl rfl rfl ?_)|(refine zQu 4 rfl rfl rfl rfl ?_)|(refine zQu 6 rfl rfl rfl rfl ?_)|(refine zQu 7 rfl rfl rfl rfl ?_)|(refine zAll ?_;show dR _ _ _ _ _ _ _))|with_reducible refine eJ ?_|(refine aL [] ?_;simp[go_sem,hkl,hbk,cF,g1,p1,hp,hv1,hf1,hlf,hmr,dH])|refine aI rfl (hst) (by simp) ?_|simp(disch:=omega) [go_sem,hkl,hbk,cF,g1,p1,hp,hv1,hf1,hlf,hmr,dH]|refine zAny bA ?_|fail)
     ·have hup:=aA4 hin hok2 hmem rfl hv (by omega) hl3 hg3
      have hsl:sM nms asc<sM nms as3:=by
       cases c
       ·rw[<-(hc0 rfl).1];exact hup.2
       ·have:=hc1 rfl;have:=hup.2;omega
      have hf1: ¬((nms.length:Int)<=(gM as2 e.to:Int)+(eX e:Int)):=by omega
      have hsB:=hBs _ hup.1.1
      repeat' (first|(refine aE fun _ _=>?_)|refine zHg ?_|(with_reducible refine eO ?_;first|(exact eL)|(refine zSkip ?_)|(refine eM rfl ?_ ?_))|(with_reducible refine eN ?_;first|(refine zDone ?_)|(refine zQu 0 rfl rfl rfl rfl ?_)|(refine zQu 1 rfl rfl rfl rfl ?_)|(refine zQu 2 rfl rfl rfl rfl ?_)|(refine zQu 4 rfl rfl rfl rfl ?_)|(refine zQu 6 rfl rfl rfl rfl ?_)|(refine zQu 7 rfl rfl rfl rfl ?_)|(refine zAll ?_;show dR _ _ _ _ _ _ _))|with_reducible refine eJ ?_|refine aI rfl (hst) (by simp) ?_|(refine(hAB.next ((k+1,true,as3)) (Le.sub4 rfl (by simp[go_sem,dH])) (by(try dsimp only);omega) ?_))|simp(disch:=omega) [go_sem,hkl,hbk,cF,g1,p1,hp,hv1,hf1,hmr,dH]|refine zAny bA ?_|fail)
      try any_goals omega
      all_goals exact⟨hkl,hup.1,(fun h=>by cases h),(fun _=>hsl)⟩
    ·have hv1: ¬(0<(gM as2 e.to:Int)+(eX e:Int)):=by omega
     repeat' (first|(refine aE fun _ _=>?_)|refine zHg ?_|(with_reducible refine eO ?_;first|(exact eL)|(refine zSkip ?_)|(refine eM rfl ?_ ?_))|(with_reducible refine eN ?_;first|(refine zDone ?_)|(refine zQu 0 rfl rfl rfl rfl ?_)|(refine zQu 1 rfl rfl rfl rfl ?_)|(refine zQu 2 rfl rfl rfl rfl ?_)|(refine zQu 4 rfl rfl rfl rfl ?_)|(refine zQu 6 rfl rfl rfl rfl ?_)|(refine zQu 7 rfl rfl rfl rfl ?_)|(refine zAll ?_;show dR _ _ _ _ _ _ _))|with_reducible refine eJ ?_|refine aI rfl (hst) (by simp) ?_|(refine(hAB.next ((k+1,c,as2)) (Le.sub4 rfl (by simp[go_sem,dH])) (by(try dsimp only);omega) ?_))|simp(disch:=omega) [go_sem,hkl,hbk,cF,g1,p1,hv1,dH]|refine zAny bA ?_|fail)
     try any_goals omega
     all_goals exact⟨hkl,hok2,fun h=>⟨(hc0 h).1,fun e' he'=>by rw[htk']at he';rcases List.mem_append.1 he' with he'|he';(· exact(hc0 h).2 e' he');(· rw[List.mem_singleton.1 he',<-(hc0 h).1];omega)⟩,hc1⟩
   ·obtain⟨as3,hp,hl3,hg3⟩:=p3 (gM as2 e.to+eX e)
    rw[Int.natCast_add]at hp
    have hl3:as3.length<=as2.length+1:=by omega
    by_cases hv:gM as2 e.fr<gM as2 e.to+eX e
    ·have hv1:((gM as2 e.fr:Int)<(gM as2 e.to:Int)+(eX e:Int)):=by omega
     have hmr:as3.length<=140737488355328:=by omega
     by_cases hf:nms.length<=gM as2 e.to+eX e
     ·have hlf:=Z8 hin hok2.2.1 hmem hf
      have hf1:((nms.length:Int)<=(gM as2 e.to:Int)+(eX e:Int)):=by omega
      repeat' (first|(refine aE fun _ _=>?_)|refine zHg ?_|(with_reducible refine eO ?_;first|(exact eL)|(refine zSkip ?_)|(refine eM rfl ?_ ?_))|(with_reducible refine eN ?_;first|(refine zDone ?_)|(refine zQu 0 rfl rfl rfl rfl ?_)|(refine zQu 1 rfl rfl rfl rfl ?_)|(refine zQu 2 rfl rfl rfl rfl ?_)|(refine zQu 4 rfl rfl rfl rfl ?_)|(refine zQu 6 rfl rfl rfl rfl ?_)|(refine zQu 7 rfl rfl rfl rfl ?_)|(refine zAll ?_;show dR _ _ _ _ _ _ _))|with_reducible refine eJ ?_|(refine aL [] ?_;simp[go_sem,hkl,hbk,cF,g1,p1,hp,hv1,hf1,hlf,hmr,dH])|refine aI rfl (hst) (by simp) ?_|simp(disch:=omega) [go_sem,hkl,hbk,cF,g1,p1,hp,hv1,hf1,hlf,hmr,dH]|refine zAny bA ?_|fail)
     ·have hup:=aA4 hin hok2 hmem rfl hv (by omega) hl3 hg3
      have hsl:sM nms asc<sM nms as3:=by
       cases c
       ·rw[<-(hc0 rfl).1];exact hup.2
       ·have:=hc1 rfl;have:=hup.2;omega
      have hf1: ¬((nms.length:Int)<=(gM as2 e.to:Int)+(eX e:Int)):=by omega
      have hsB:=hBs _ hup.1.1
      repeat' (first|(refine aE fun _ _=>?_)|refine zHg ?_|(with_reducible refine eO ?_;first|(exact eL)|(refine zSkip ?_)|(refine eM rfl ?_ ?_))|(with_reducible refine eN ?_;first|(refine zDone ?_)|(refine zQu 0 rfl rfl rfl rfl ?_)|(refine zQu 1 rfl rfl rfl rfl ?_)|(refine zQu 2 rfl rfl rfl rfl ?_)|(refine zQu 4 rfl rfl rfl rfl ?_)|(refine zQu 6 rfl rfl rfl rfl ?_)|(refine zQu 7 rfl rfl rfl rfl ?_)|(refine zAll ?_;show dR _ _ _ _ _ _ _))|with_reducible refine eJ ?_|refine aI rfl (hst) (by simp) ?_|(refine(hAB.next ((k+1,true,as3)) (Le.sub4 rfl (by simp[go_sem,dH])) (by(try dsimp only);omega) ?_))|simp(disch:=omega) [go_sem,hkl,hbk,cF,g1,p1,hp,hv1,hf1,hmr,dH]|refine zAny bA ?_|fail)
      try any_goals omega
      all_goals exact⟨hkl,hup.1,(fun h=>by cases h),(fun _=>hsl)⟩
    ·have hv1: ¬((gM as2 e.fr:Int)<(gM as2 e.to:Int)+(eX e:Int)):=by omega
     repeat' (first|(refine aE fun _ _=>?_)|refine zHg ?_|(with_reducible refine eO ?_;first|(exact eL)|(refine zSkip ?_)|(refine eM rfl ?_ ?_))|(with_reducible refine eN ?_;first|(refine zDone ?_)|(refine zQu 0 rfl rfl rfl rfl ?_)|(refine zQu 1 rfl rfl rfl rfl ?_)|(refine zQu 2 rfl rfl rfl rfl ?_)|(refine zQu 4 rfl rfl rfl rfl ?_)|(refine zQu 6 rfl rfl rfl rfl ?_)|(refine zQu 7 rfl rfl rfl rfl ?_)|(refine zAll ?_;show dR _ _ _ _ _ _ _))|with_reducible refine eJ ?_|refine aI rfl (hst) (by simp) ?_|(refine(hAB.next ((k+1,c,as2)) (Le.sub4 rfl (by simp[go_sem,dH])) (by(try dsimp only);omega) ?_))|simp(disch:=omega) [go_sem,hkl,hbk,cF,g1,p1,hv1,dH]|refine zAny bA ?_|fail)
     try any_goals omega
     all_goals exact⟨hkl,hok2,fun h=>⟨(hc0 h).1,fun e' he'=>by rw[htk']at he';rcases List.mem_append.1 he' with he'|he';(· exact(hc0 h).2 e' he');(· rw[List.mem_singleton.1 he',<-(hc0 h).1];omega)⟩,hc1⟩
  ·obtain rfl:k=es.length:=by omega
   rw[List.take_length]at hc0
   have hsB2:=hBs _ hok2.1
   have hmea:2*(B - sM nms as2)+cN c<2*(B - sM nms asc)+cN true:=by
    cases c
    ·rw[(hc0 rfl).1];omega
    ·have:=hc1 rfl;omega
   repeat' (first|(refine aE fun _ _=>?_)|refine zHg ?_|(refine(hAA.next ((c,as2)) (Le.sub4 rfl (by simp[go_sem,dH])) (by(try dsimp only);omega) ?_))|simp(disch:=omega) [go_sem,dH])
   try any_goals omega
   all_goals exact⟨hok2,fun h=>by rw[(hc0 h).1];exact(hc0 h).2⟩
end Go.Proofs.YtgmibdiofkmmbaaGreatDoor
