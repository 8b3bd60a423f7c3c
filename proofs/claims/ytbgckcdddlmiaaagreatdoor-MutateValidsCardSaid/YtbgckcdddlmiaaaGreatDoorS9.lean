import Derived.Test.YtbgckcdddlmiaaaGreatDoorS8
import Derived.Shelf.SlLaysM
import Derived.Ground.SlgmProg
import Derived.Shelf.SortM.Plain
set_option linter.all false
open Go.Proofs.Tryz
namespace Go.Proofs.YtbgckcdddlmiaaaGreatDoor
open Go.Ab
variable [Glob prog]
set_option maxRecDepth 100000
set_option maxHeartbeats 8000000
theorem aO4: ∀a b:List UInt8,a<b↔Lib.compareBytes a b<0
 | [],[]=>by simp[Lib.compareBytes]
 | [],b::bs=>by simp[Lib.compareBytes]
 |a::xs,[]=>by simp[Lib.compareBytes]
 |a::xs,b::bs=>by
  rw[List.cons_lt_cons_iff,Lib.compareBytes]
  by_cases h1:a<b
  ·simp[h1]
  ·rw[if_neg h1]
   by_cases h2:b<a
   ·rw[if_pos h2]
    have:a≠b:=fun e=>by subst e;exact h1 h2
    simp[h1,this]
   ·rw[if_neg h2]
    have e:a=b:=by
     have g1: ¬a.toNat<b.toNat:=h1
     have g2: ¬b.toNat<a.toNat:=h2
     exact UInt8.toNat_inj.1 (by omega)
    rw[aO4 xs bs]
    simp[h1,e]
def rO (s:ByteArray):List UInt8:=s.data.toList
def tG (l:List UInt8):ByteArray:=⟨l.toArray⟩
theorem bTa (s:ByteArray):tG (rO s)=s:=by
 obtain⟨⟨l⟩⟩:=s
 rfl
theorem bTb (a b:List UInt8):a<=b↔cT (tG a) (tG b)<=0:=by
 have h:=aO4 b a
 have hn:=aCb a b
 have e:cT (tG a) (tG b)=Lib.compareBytes a b:=by simp[cT,tG]
 rw[e]
 show ¬b<a↔_
 rw[h]
 omega
def pF (l:List ByteArray):List ByteArray:=((l.map rO).mergeSort fun x y=>decide (x<=y)).map tG
theorem aO5 (l:List ByteArray):(pF l).Perm l:=by
 have h:=((List.mergeSort_perm (l.map rO) fun x y=>decide (x<=y)).map tG)
 rw[List.map_map]at h
 have e:(tG∘rO)=(id:ByteArray->ByteArray):=funext bTa
 rw[e,List.map_id]at h
 exact h
theorem aO6 (l:List ByteArray):(pF l).length=l.length:=(aO5 l).length_eq
theorem bTc (l:List ByteArray):(pF l).Pairwise fun a b=>cT a b<=0:=by
 have h:=List.pairwise_mergeSort (le:=fun x y:List UInt8=>decide (x<=y)) (fun a b c h1 h2=>by simp at*;exact List.le_trans h1 h2) (fun a b=>by simp;exact List.le_total a b) (l.map rO)
 refine List.pairwise_map.2 (h.imp fun {a b} hab=>?_)
 exact(bTb a b).1 (by simpa using hab)
theorem aO7 {l:List ByteArray} (hn:l.Nodup):pF l=fM cT l:=by
 have hp:=aO5 l
 have ha:rG cT (pF l):=by
  have hn':(pF l).Nodup:=hp.nodup_iff.2 hn
  refine((bTc l).and hn').imp fun {a b} hab=>?_
  have h1: ¬cT a b=0:=fun e=>hab.2 ((rH.zero a b).1 e)
  have h2:cT a b<=0:=hab.1
  show cT a b<0
  omega
 rw[<-aMn rH ha]
 exact yK rH fun x=>hp.mem_iff
theorem bTd (o:AObj) (ho:o=⟨true,false,true,0,o.xs,1⟩):MCall prog 167 [.mp 1000] [(1000,o)] (fun r o'=>r= .clo 181 [.ptr 1001 0 0]/\o'= [(1001,⟨false,false,false,1,[.mp 1000],0⟩),(1000,o)]):=by
 rw[ho]
 refine dC func167 call167 rfl (by simp[ntmps167]) ?_;simp only[ntmps167,results167]
 repeat' (first|(refine aA fun _ _=>?_)|refine zHg ?_|simp(disch:=omega) [go_sem])
 refine cJ ⟨4,[(2,.clo 181 [.ptr 1001 0 0])],[(1001,⟨false,false,false,1,[.mp 1000],0⟩),(1000,⟨true,false,true,0,o.xs,1⟩)]⟩ [.clo 181 [.ptr 1001 0 0]] (Le.renSub [(1,1001),(1001,1)] [(1001,1),(1,1001)] (by simp[go_sem]) (by simp[go_sem]) (Le.sub4 rfl (by simp[go_sem]))) (by simp[go_sem]) ⟨rfl,rfl⟩
abbrev kyO (w:ByteArray->Value) (ks:List ByteArray) (L B:Nat):aF:= [(B,⟨false,false,true,1,[.mp L],0⟩),(L,dN w ks)]
theorem bTe (ks:List ByteArray) (w:ByteArray->Value) (hb:ks.length<=1000000):MCall prog 193 [.list false true [],.clo 181 [.ptr 1003 0 0]] (kyO w ks 1004 1003)
 (fun r o'=> ∃l:List ByteArray,l.Perm ks/\r= .ref 1005 0 l.length/\o'= [(1005,⟨true,false,false,1,l.map aI,0⟩)]):=by
 refine dC func193 call193 rfl (by simp[ntmps193]) ?_;simp only[ntmps193,results193]
 repeat' (first|(refine aA fun _ _=>?_)|refine zHg ?_|simp(disch:=omega) [go_sem])
 refine aJf (Le.nilBox 2 900 1 rfl (by decide) (by decide)) ?_;simp only[aAb,aAc,L3,aAg,aAh,aAj,aAi,aAl,aAk,aAm,aAp,aAq,aAo,aAn,aAr,aAs,aAd,K8,K9,aAe,aAf,L0,aAy,List.map_cons,List.map_nil,Bool.or_false,Bool.false_eq_true,if_false,Nat.reduceEqDiff,Nat.reduceBEq]
 refine aI9 2000 7 30000 [2] [(1000,2),(1001,900)] [(2,1000),(900,1001)] (fun hd=>(2000,eA true (hd.st .ready none) [.ptr 1000 0 0]):: [(1000,⟨false,false,true,1,[.ref 1001 0 0],0⟩),(1001,⟨true,false,true,1,[],0⟩),(1003,⟨false,false,true,1,[.mp 1004],0⟩),(1004,dN w ks)]) (.yl 2000:: [.ptr 1003 0 0]) (fun hd r o'=>r= .tup []/\ ∃l:List ByteArray,l.Perm ks/\ ∃(bs:List Nat) (c:Nat),o'=fH hd l++ [(1003,⟨false,false,true,1,[.mp 1004],0⟩),(1004,tF w ks bs c)]) rfl (by simp[go_sem]) (by simp) rfl (by simp[go_sem]) ?_;intro hd hps has hbd hn hks
 refine⟨Fits.mk' (by simp[go_sem,kN,fH,dN,tF,gN]) (by simp[go_sem,kN,fH,dN,tF,gN]),(by simp[go_sem,kN,fH,dN,tF,gN]),(by simp[go_sem,kN,fH,dN,tF,gN]),(by simp[go_sem,kN,fH,dN,tF,gN]),?_,?_⟩
 ·have hk:=bS9 ks w hb hd fun A x hA=>by
   refine aI6 (ts:= [.ptr 1000 0 0]) (by simp[go_sem,kN,fH]) hps has hbd hn hks rfl (by decide) (by decide) rfl rfl ?_;simp only[List.zip_cons_cons,List.zip_nil_left,List.zip_nil_right,List.cons_append,List.nil_append]
   repeat' (first|(refine aA fun _ _=>?_)|refine zHg ?_|simp(disch:=omega) [go_sem,kN,aI])
   refine aJe [.ptr 1000 0 0] (by simp[go_sem]) ?_;simp only[aBq,aBp,Nat.reduceEqDiff,if_true,if_false]
   repeat' (first|(refine aA fun _ _=>?_)|refine zHg ?_|simp(disch:=omega) [go_sem,kN,aI]|refine zAo ?_|fail)
   refine aJd (aJb ⟨13,[],[(2000,eA true (hd.st .busy none) [.ptr 1000 0 0]),(1000,⟨false,false,true,1,[.ref 1002 0 (A.length+1)],0⟩),(1002,⟨true,false,false,1,A.map aI++ [aI x],0⟩)]⟩ [.ptr 1000 0 0] (Le.renSub [(11,1002),(1002,11)] [(1002,11),(11,1002)] (by simp[go_sem,aI]) (by simp[go_sem,aI]) (Le.sub4 rfl (by simp[go_sem,aI]))) (by simp[go_sem,aI]) (by simp[go_sem,aI]))
  exact hk
 ·rintro r o' ⟨rfl,l,hp,bs,c,rfl⟩
  have hlb:l.length<=1000000:=by rw[hp.length_eq];exact hb
  refine⟨(by simp[go_sem,fH]),aJc (hd.st .ready none) [.ptr 1000 0 0] (by simp[go_sem,fH]) (by simp[go_sem,fH]) ⟨13,[(2,.ptr 2 0 0)],[(2,⟨false,false,false,1,[.ref 31002 0 l.length],0⟩),(31002,⟨true,false,false,1,l.map aI,0⟩)]⟩ (Le.sub4 rfl (by simp[go_sem,fH])) (by simp[go_sem,fH]) ?_⟩
  repeat' (first|(refine aA fun _ _=>?_)|refine zHg ?_|simp(disch:=omega) [go_sem])
  refine cJ ⟨13,[(4,.ref 1005 0 l.length)],[(1005,⟨true,false,false,1,l.map aI,0⟩)]⟩ [.ref 1005 0 l.length] (Le.renSub [(31002,1005),(1005,31002)] [(1005,31002),(31002,1005)] (by simp[go_sem]) (by simp[go_sem]) (Le.sub4 rfl (by simp[go_sem]))) (by simp[go_sem]) ⟨l,hp,rfl,rfl⟩
theorem bTf (ks:List ByteArray) (w:ByteArray->Value) (hb:ks.length<=1000000):MCall prog 179 [.clo 181 [.ptr 1003 0 0]] (kyO w ks 1004 1003)
 (fun r o'=> ∃l:List ByteArray,l.Perm ks/\r= .ref 1005 0 l.length/\o'= [(1005,⟨true,false,false,1,l.map aI,0⟩)]):=by
 have h:=bTe ks w hb
 refine dC func179 call179 rfl (by simp[ntmps179]) ?_;simp only[ntmps179,results179]
 repeat' (first|(refine aA fun _ _=>?_)|refine zHg ?_|simp(disch:=omega) [go_sem])
 refine vW [] [] 10000 _ _ (Fits.mk' (by simp[go_sem,dN]) (by simp[go_sem,dN])) (by simp[go_sem,dN]) (by simp[go_sem,dN]) (h) (by simp[go_sem,dN]) (by intros;simp[go_sem,dN]) ?_;intro l hp
 repeat' (first|(refine aA fun _ _=>?_)|refine zHg ?_|simp(disch:=omega) [go_sem])
 refine cJ ⟨5,[(2,.ref 1005 0 l.length)],[(1005,⟨true,false,false,1,l.map aI,0⟩)]⟩ [.ref 1005 0 l.length] (Le.renSub [(11005,1005),(1005,11005)] [(1005,11005),(11005,1005)] (by simp[go_sem]) (by simp[go_sem]) (Le.sub4 rfl (by simp[go_sem]))) (by simp[go_sem]) ⟨l,hp,rfl,rfl⟩
open Go.Shelf Go.Proofs
def Tryz.srtS_ren:Go.Shelf.Ren:=⟨fun|6=>180|8=>63|9=>194|19=>111|20=>112|21=>198|22=>199|23=>200|24=>201|25=>202|26=>203|27=>204|28=>205|29=>206|36=>208|31=>140|32=>141|37=>209|38=>210|39=>178|41=>211|n=>n,fun|27=>29|29=>9|3=>3|32=>104|26=>29|0=>0|44=>151|46=>114|4=>4|36=>145|35=>144|41=>121|5=>5|9=>9|53=>180|57=>184|63=>207|64=>208|n=>n,fun|n=>n⟩
theorem Tryz.srtS:Go.Proofs.SlLaysM.n6 prog Tryz.srtS_ren:= {
 mixed:=by kernel_rfl
 f6:=⟨Tryz.f180.name,by decide,func180.trans (congrArg some (by kernel_rfl))⟩
 f8:=func63.trans (congrArg some (by kernel_rfl))
 f9:=⟨Tryz.f194.name,by decide,func194.trans (congrArg some (by kernel_rfl))⟩
 f19:=func111.trans (congrArg some (by kernel_rfl))
 f20:=func112.trans (congrArg some (by kernel_rfl))
 f21:=⟨Tryz.f198.name,by decide,func198.trans (congrArg some (by kernel_rfl))⟩
 f22:=⟨Tryz.f199.name,by decide,func199.trans (congrArg some (by kernel_rfl))⟩
 f23:=⟨Tryz.f200.name,by decide,func200.trans (congrArg some (by kernel_rfl))⟩
 f24:=⟨Tryz.f201.name,by decide,func201.trans (congrArg some (by kernel_rfl))⟩
 f25:=⟨Tryz.f202.name,by decide,func202.trans (congrArg some (by kernel_rfl))⟩
 f26:=⟨Tryz.f203.name,by decide,func203.trans (congrArg some (by kernel_rfl))⟩
 f27:=⟨Tryz.f204.name,by decide,func204.trans (congrArg some (by kernel_rfl))⟩
 f28:=⟨Tryz.f205.name,by decide,func205.trans (congrArg some (by kernel_rfl))⟩
 f29:=⟨Tryz.f206.name,by decide,func206.trans (congrArg some (by kernel_rfl))⟩
 f31:=func140.trans (congrArg some (by kernel_rfl))
 f32:=func141.trans (congrArg some (by kernel_rfl))
 f36:=⟨Tryz.f208.name,by decide,func208.trans (congrArg some (by kernel_rfl))⟩
 f37:=⟨Tryz.f209.name,by decide,func209.trans (congrArg some (by kernel_rfl))⟩
 f38:=⟨Tryz.f210.name,by decide,func210.trans (congrArg some (by kernel_rfl))⟩
 f39:=⟨Tryz.f178.name,by decide,func178.trans (congrArg some (by kernel_rfl))⟩
 f41:=⟨Tryz.f211.name,by decide,func211.trans (congrArg some (by kernel_rfl))⟩
 t0:=underlying0
 a0:=Tryz.isAgg0
 z0:=Tryz.sizeOf0
 v0:=Tryz.zeroValue0
 t3:=underlying3
 a3:=Tryz.isAgg3
 z3:=Tryz.sizeOf3
 v3:=Tryz.zeroValue3
 t4:=underlying4
 a4:=Tryz.isAgg4
 z4:=Tryz.sizeOf4
 v4:=Tryz.zeroValue4
 t5:=underlying5
 a5:=Tryz.isAgg5
 z5:=Tryz.sizeOf5
 v5:=Tryz.zeroValue5
 t9:=underlying9
 a9:=Tryz.isAgg9
 z9:=Tryz.sizeOf9
 v9:=Tryz.zeroValue9
 t26:=underlying29
 a26:=Tryz.isAgg29
 z26:=Tryz.sizeOf29
 v26:=Tryz.zeroValue29
 t27:=underlying29
 a27:=Tryz.isAgg29
 z27:=Tryz.sizeOf29
 v27:=Tryz.zeroValue29
 t29:=underlying9
 a29:=Tryz.isAgg9
 z29:=Tryz.sizeOf9
 v29:=Tryz.zeroValue9
 t32:=underlying104
 a32:=Tryz.isAgg104
 z32:=Tryz.sizeOf104
 v32:=Tryz.zeroValue104
 t35:=underlying144
 a35:=Tryz.isAgg144
 z35:=Tryz.sizeOf144
 v35:=Tryz.zeroValue144
 t36:=underlying145
 a36:=Tryz.isAgg145
 z36:=Tryz.sizeOf145
 v36:=Tryz.zeroValue145
 t41:=underlying121
 a41:=Tryz.isAgg121
 z41:=Tryz.sizeOf121
 v41:=Tryz.zeroValue121
 t44:=underlying151
 a44:=Tryz.isAgg151
 z44:=Tryz.sizeOf151
 v44:=Tryz.zeroValue151
 t46:=underlying114
 a46:=Tryz.isAgg114
 z46:=Tryz.sizeOf114
 v46:=Tryz.zeroValue114
 t53:=underlying180
 a53:=Tryz.isAgg180
 z53:=Tryz.sizeOf180
 v53:=Tryz.zeroValue180
 t57:=underlying184
 a57:=Tryz.isAgg184
 z57:=Tryz.sizeOf184
 v57:=Tryz.zeroValue184
 t63:=underlying207
 a63:=Tryz.isAgg207
 z63:=Tryz.sizeOf207
 v63:=Tryz.zeroValue207
 t64:=underlying208
 a64:=Tryz.isAgg208
 z64:=Tryz.sizeOf208
 v64:=Tryz.zeroValue208}
theorem bTg:MCall prog 198 [.ref 1000 0 0,nt .i64 0,nt .i64 0] [(1000,bB aI 1 0 [])] (fun r o'=>r= .tup []/\o'= [(1000,bB aI 1 0 [])]):=by
 refine dC func198 call198 rfl (by simp[ntmps198]) ?_;simp only[ntmps198,results198]
 repeat' (first|(refine aA fun _ _=>?_)|refine zHg ?_|simp(disch:=omega) [go_sem])
 refine bL [0,1,2] [] (fun u:Unit=> [(6,nt .i64 1)]) (fun u:Unit=> []) (fun u:Unit=>0) (fun u:Unit=>True) (()) (Le.sub4 rfl (by simp[go_sem])) ⟨?_⟩ ?_
 ·trivial
 intro u hu AA hAA;simp only[kL,Nat.reduceBEq,Nat.reduceEqDiff]
 repeat' (first|(refine aA fun _ _=>?_)|refine zHg ?_|simp(disch:=omega) [go_sem])
 refine nS ⟨49,[],[(1000,bB aI 1 0 [])]⟩ [] (Le.renSub [] [] (by simp[go_sem]) (by simp[go_sem]) (Le.sub4 rfl (by simp[go_sem]))) (by simp[go_sem]) ⟨rfl,rfl⟩
theorem bTh:MCall prog 194 [.ref 1000 0 0,nt .i64 0,nt .i64 0,nt .i64 0] [(1000,bB aI 1 0 [])] (fun r o'=>r= .tup []/\o'= [(1000,bB aI 1 0 [])]):=by
 have hi:=bTg
 refine dC func194 call194 rfl (by simp[ntmps194]) ?_;simp only[ntmps194,results194]
 repeat' (first|(refine aA fun _ _=>?_)|refine zHg ?_|simp(disch:=omega) [go_sem])
 refine bL [0] [] (fun u:Unit=> [(1,nt .i64 0),(2,nt .i64 0),(3,nt .i64 0),(8,bl true),(9,bl true)]) (fun u:Unit=> []) (fun u:Unit=>0) (fun u:Unit=>True) (()) (Le.sub4 rfl (by simp[go_sem])) ⟨?_⟩ ?_
 ·trivial
 intro u hu AA hAA;simp only[kL,Nat.reduceBEq,Nat.reduceEqDiff]
 repeat' (first|(refine aA fun _ _=>?_)|refine zHg ?_|simp(disch:=omega) [go_sem])
 refine aX [] [] 10000 _ _ (Fits.mk' (by simp[go_sem]) (by simp[go_sem])) (by simp[go_sem]) (by simp[go_sem]) (hi) (by simp[go_sem]) (by simp[go_sem]) ?_
 repeat' (first|(refine aA fun _ _=>?_)|refine zHg ?_|simp(disch:=omega) [go_sem])
 refine cJ ⟨134,[],[(1000,bB aI 1 0 [])]⟩ [] (Le.renSub [] [] (by simp[go_sem]) (by simp[go_sem]) (Le.sub4 rfl (by simp[go_sem]))) (by simp[go_sem]) ⟨rfl,rfl⟩
theorem bTi:MCall prog 180 [.ref 1000 0 0] [(1000,bB aI 1 0 [])] (fun r o'=>r= .tup []/\o'= [(1000,bB aI 1 0 [])]):=by
 have hi:=bTh
 have hl:=aC3
 refine dC func180 call180 rfl (by simp[ntmps180]) ?_;simp only[ntmps180,results180]
 repeat' (first|(refine aA fun _ _=>?_)|refine zHg ?_|refine aH rfl (hl) (by simp) ?_|simp(disch:=omega) [go_sem])
 refine aX [] [] 10000 _ _ (Fits.mk' (by simp[go_sem]) (by simp[go_sem])) (by simp[go_sem]) (by simp[go_sem]) (hi) (by simp[go_sem]) (by simp[go_sem]) ?_
 repeat' (first|(refine aA fun _ _=>?_)|refine zHg ?_|simp(disch:=omega) [go_sem])
 refine nS ⟨11,[],[(1000,bB aI 1 0 [])]⟩ [] (Le.renSub [] [] (by simp[go_sem]) (by simp[go_sem]) (Le.sub4 rfl (by simp[go_sem]))) (by simp[go_sem]) ⟨rfl,rfl⟩
theorem bTj (l:List ByteArray) (hb:l.length<=1000000):MCall prog 180 [.ref 1000 0 l.length] [(1000,bB aI 1 0 l)] (fun r o'=>r= .tup []/\o'= [(1000,bB aI 1 0 (pF l))]):=by
 by_cases hl:l= []
 ·subst hl
  rw[show pF []= [] by simp[pF]]
  exact bTi
 ·have h:=bJi (P:=prog) (f:=180) encStr (fun _=>rfl) (fun _=>rfl) 0 (by decide) (l.map rO) ((l.map rO).mergeSort fun x y=>decide (x<=y)) (by simpa using hl) (List.length_mergeSort _) call180
   (fun blk cap w hH hblk=>AnyM.slices_Sort_string Tryz.srtS blk 0 cap (l.map rO) w hH hblk (by rw[List.length_map];omega))
  have e1:bB (fun x=>AV.sc (encStr x)) 1 0 (l.map rO)=bB aI 1 0 l:=by
   unfold bB
   rw[List.map_map]
   congr 1
  have e2:bB (fun x=>AV.sc (encStr x)) 1 0 ((l.map rO).mergeSort fun x y=>decide (x<=y))=bB aI 1 0 (pF l):=by
   unfold bB pF
   rw[List.map_map]
   congr 1
  rw[e1,e2,List.length_map]at h
  exact h
theorem bTk (ks:List ByteArray) (w:ByteArray->Value) (hb:ks.length<=1000000) (hn:ks.Nodup):MCall prog 166 [.clo 181 [.ptr 1003 0 0]] (kyO w ks 1004 1003)
 (fun r o'=>r= .ref 1005 0 ks.length/\o'= [(1005,⟨true,false,false,1,(fM cT ks).map aI,0⟩)]):=by
 have h:=bTf ks w hb
 refine dC func166 call166 rfl (by simp[ntmps166]) ?_;simp only[ntmps166,results166]
 repeat' (first|(refine aA fun _ _=>?_)|refine zHg ?_|simp(disch:=omega) [go_sem])
 refine vW [] [] 10000 _ _ (Fits.mk' (by simp[go_sem,dN]) (by simp[go_sem,dN])) (by simp[go_sem,dN]) (by simp[go_sem,dN]) (h) (by simp[go_sem,dN]) (by intros;simp[go_sem,dN]) ?_;intro l hp
 have hs:=bTj l (by rw[hp.length_eq];exact hb)
 have e:pF l=fM cT ks:=(aO7 (hp.nodup_iff.2 hn)).trans (yK rH fun x=>hp.mem_iff)
 have hll:=hp.length_eq
 have hl2:(fM cT ks).length=ks.length:=by rw[<-e,aO6,hll]
 rw[e,hll]at hs
 repeat' (first|(refine aA fun _ _=>?_)|refine zHg ?_|simp(disch:=omega) [go_sem,hll])
 refine aX [(1000,11005)] [(11005,1000)] 30000 _ _ (Fits.mk' (by simp[go_sem]) (by simp[go_sem])) (by simp[go_sem]) (by simp[go_sem]) (hs) (by simp[go_sem]) (by simp[go_sem]) ?_
 generalize fM cT ks=m at*
 repeat' (first|(refine aA fun _ _=>?_)|refine zHg ?_|simp(disch:=omega) [go_sem,hll])
 refine cJ ⟨9,[(2,.ref 1005 0 ks.length)],[(1005,⟨true,false,false,1,m.map aI,0⟩)]⟩ [.ref 1005 0 ks.length] (Le.renSub [(11005,1005),(1005,11005)] [(1005,11005),(11005,1005)] (by simp[go_sem,hl2]) (by simp[go_sem,hl2]) (Le.sub4 rfl (by simp[go_sem,hl2]))) (by simp[go_sem,hl2]) ⟨rfl,rfl⟩
theorem aO8 (ks:List ByteArray) (w:ByteArray->Value) (hb:ks.length<=1000000) (hn:ks.Nodup):MCall prog 135 [.mp 1000] [(1000,dN w ks)]
 (fun r o'=>r= .ref 1005 0 (fM cT ks).length/\o'= [(1005,⟨true,false,false,1,(fM cT ks).map aI,0⟩)]):=by
 have hk:=bTd (dN w ks) rfl
 have h:=bTk ks w hb hn
 have hl2:(fM cT ks).length=ks.length:=by rw[<-aO7 hn,aO6]
 generalize fM cT ks=m at*
 refine dC func135 call135 rfl (by simp[ntmps135]) ?_;simp only[ntmps135,results135]
 repeat' (first|(refine aA fun _ _=>?_)|refine zHg ?_|simp(disch:=omega) [go_sem])
 refine aX [] [] 10000 _ _ (Fits.mk' (by simp[go_sem,dN]) (by simp[go_sem,dN])) (by simp[go_sem,dN]) (by simp[go_sem,dN]) (hk) (by simp[go_sem,dN]) (by simp[go_sem,dN]) ?_
 repeat' (first|(refine aA fun _ _=>?_)|refine zHg ?_|simp(disch:=omega) [go_sem])
 refine aX [(1003,11001),(1004,1000)] [(11001,1003),(1000,1004)] 30000 _ _ (Fits.mk' (by simp[go_sem,dN]) (by simp[go_sem,dN])) (by simp[go_sem,dN]) (by simp[go_sem,dN]) (h) (by simp[go_sem,dN]) (by simp[go_sem,dN]) ?_
 repeat' (first|(refine aA fun _ _=>?_)|refine zHg ?_|simp(disch:=omega) [go_sem])
 refine cJ ⟨6,[(2,.ref 1005 0 m.length)],[(1005,⟨true,false,false,1,m.map aI,0⟩)]⟩ [.ref 1005 0 m.length] (Le.renSub [(31005,1005),(1005,31005)] [(1005,31005),(31005,1005)] (by simp[go_sem,hl2]) (by simp[go_sem,hl2]) (Le.sub4 rfl (by simp[go_sem,hl2]))) (by simp[go_sem,hl2]) ⟨rfl,rfl⟩
abbrev kE (s:ByteArray):AV:=qY Value.string (fun _=> .sc (.bool true)) s
theorem F9 (ks:List ByteArray) (s:ByteArray):s∉ks\/ ∃(j:Nat) (hj:j<ks.length),ks[j]=s/\ ∀(k:Nat) (hk:k<ks.length),k<j-> ¬ks[k]=s:=by
 rcases aEc (ks.map fun k=>(k,())) s with h|⟨j,hj,h1,h2⟩
 ·exact .inl fun hs=>h (s,()) (List.mem_map.2 ⟨s,hs,rfl⟩) rfl
 ·exact .inr ⟨j,by simpa using hj,by simpa using h1,fun k hk hkj=>by have h:=h2 k (by simpa using hk) hkj;rw[List.getElem_map]at h;exact h⟩
theorem G0 {s:ByteArray}: ∀{ks:List ByteArray} {i:Nat},s∉ks->cI (.string s) (ks.map kE) i=some none
 | [],_,_=>rfl
 |k::ks,i,h=>by
  rw[List.map_cons,cI,yS,decide_eq_false (fun e=>h (by simp[e]))]
  exact G0 fun hs=>h (by simp[hs])
theorem G1 {s:ByteArray}: ∀{ks:List ByteArray} {j i:Nat} (hj:j<ks.length),ks[j]=s->(∀(k:Nat) (hk:k<ks.length),k<j-> ¬ks[k]=s)->cI (.string s) (ks.map kE) i=some (some (i+j,.sc (.bool true)))
 |k::ks,0,i,_,h,_=>by
  have h:k=s:=h
  rw[List.map_cons,cI,yS,decide_eq_true h.symm]
  rfl
 |k::ks,j+1,i,hj,h,hn=>by
  have h0: ¬k=s:=hn 0 (by simp) (by omega)
  rw[List.map_cons,cI,yS,decide_eq_false (fun e=>h0 e.symm)]
  have:=G1 (ks:=ks) (j:=j) (i:=i+1) (by simpa using hj) h (fun q hk hkj=>hn (q+1) (by simpa using hk) (by omega))
  simp only[this]
  simp only[Option.some.injEq,Prod.mk.injEq,and_true]
  omega
def nC (ks:List ByteArray) (s:ByteArray):List ByteArray:=if fS ks s=true then ks else ks++ [s]
theorem T1 (ks:List ByteArray) (s:ByteArray):fC (.string s) (.sc (.bool true)) (ks.map kE)=some ((nC ks s).map kE):=by
 unfold fC nC
 rcases F9 ks s with h|⟨j,hj,h1,h2⟩
 ·rw[G0 h,wQ.2 h]
  simp
 ·have hs:s∈ks:=h1▸List.getElem_mem hj
  have hh:fS ks s=true:=by
   rw[<-Bool.not_eq_false,wQ]
   exact fun h=>h hs
  rw[G1 hj h1 h2,hh,if_pos rfl]
  simp only[Nat.zero_add,Option.some.injEq]
  rw[show(AV.tup [.sc (.string s),.sc (.bool true)])=kE s from rfl,<-List.map_set,<-h1,List.set_getElem_self]
theorem aO9 {α β:Type} {f:α->β}: ∀{l:List α} {j:Nat},(l.map f).eraseIdx j=(l.eraseIdx j).map f
 | [],_=>rfl
 |_::_,0=>rfl
 |a::l,j+1=>congrArg (f a:: ·) (aO9 (l:=l) (j:=j))
theorem bTl (ks:List ByteArray) (s:ByteArray): ∃ms:List ByteArray,vH (.string s) (ks.map kE)=some (ms.map kE)/\ms.length<=ks.length/\(ks.Nodup->ms.Nodup/\ ∀x,x∈ms↔x∈ks/\x≠s):=by
 unfold vH
 rcases F9 ks s with h|⟨j,hj,h1,h2⟩
 ·rw[G0 h]
  exact⟨ks,rfl,Nat.le_refl _,fun hn=>⟨hn,fun x=>⟨fun hx=>⟨hx,fun e=>h (e▸hx)⟩,fun hx=>hx.1⟩⟩⟩
 ·rw[G1 hj h1 h2]
  refine⟨ks.eraseIdx j,?_,(List.eraseIdx_sublist ks j).length_le,fun hn=>⟨hn.sublist (List.eraseIdx_sublist ks j),fun x=>?_⟩⟩
  ·simp only[Nat.zero_add,Option.some.injEq]
   rw[aO9]
  ·rw[List.mem_eraseIdx_iff_getElem]
   constructor
   ·rintro⟨i,hi,hij,rfl⟩
    exact⟨List.getElem_mem _,fun e=>hij ((List.getElem_inj hn).1 (e.trans h1.symm))⟩
   ·rintro⟨hx,hne⟩
    obtain⟨i,hi,rfl⟩:=List.mem_iff_getElem.1 hx
    exact⟨i,hi,fun e=>hne (by subst e;exact h1),rfl⟩
theorem aPa {ks:List ByteArray} {s x:ByteArray}:x∈nC ks s↔x∈ks\/x=s:=by
 unfold nC
 split
 ·rename_i hs
  have hs':s∈ks:=by
   rcases F9 ks s with h|⟨j,hj,h1,_⟩
   ·rw[wQ.2 h]at hs;cases hs
   ·exact h1▸List.getElem_mem hj
  exact⟨.inl,fun h=>by rcases h with h|rfl;exact h;exact hs'⟩
 ·simp
theorem aPb {ks:List ByteArray} {s:ByteArray} (h:ks.Nodup):(nC ks s).Nodup:=by
 unfold nC
 split
 ·exact h
 ·rename_i hs
  have hs':s∉ks:=wQ.1 (by simpa using hs)
  exact List.nodup_append.2 ⟨h,by simp,fun a ha b hb e=>hs' (by rw[<-List.mem_singleton.1 hb,<-e];exact ha)⟩
theorem aPc (ks:List ByteArray) (s:ByteArray):(nC ks s).length<=ks.length+1:=by
 unfold nC
 split<;>simp
theorem yU {α:Type} {A:List α} {c:α} {p:α->Prop}:(∃b∈A++ [c],p b)↔(∃b∈A,p b)\/p c:=by
 simp[or_and_right,exists_or]
theorem bTm {h:Tm} {bs:List Lt} {x:ByteArray}:(∃t∈cU ⟨h,bs⟩,t.name=x)↔x=h.name\/ ∃b∈bs,b.atom.name=x:=by
 constructor
 ·rintro⟨t,ht,rfl⟩
  rcases List.mem_cons.1 ht with rfl|ht
  ·exact .inl rfl
  ·obtain⟨b,hb,rfl⟩:=List.mem_map.1 ht
   exact .inr ⟨b,hb,rfl⟩
 ·rintro(rfl|⟨b,hb,rfl⟩)
  ·exact⟨h,List.mem_cons_self,rfl⟩
  ·exact⟨b.atom,List.mem_cons_of_mem _ (List.mem_map_of_mem hb),rfl⟩
theorem bTn {l:List Rl} {x:ByteArray}:x∈E4 l↔(∃r∈l,∃t∈cU r,t.name=x)/\x≠lX:=by
 simp[E4]
abbrev eI (ks:List ByteArray):AObj:=⟨true,false,false,0,ks.map kE,1⟩
theorem bTo (l:List Rl) (le fu:Bool) (hl:l.length<=100000) (hb: ∀r∈l,r.body.length<=8):ACall prog 94 [.list le fu (l.map bH)] (fun v=>v= .own 1 ((rI l).map aI)):=by
 have hasc:=fun ks h1 h2=>aO8 ks (fun _=> .bool true) h1 h2
 generalize hR:rI l=R
 refine aQ func94 call94 rfl (by simp[ntmps94]) ?_;simp only[ntmps94,results94]
 repeat' (first|(refine aA fun _ _=>?_)|refine zHg ?_|simp(disch:=omega) [go_sem])
 refine bL [3,9,10] [8] (fun y:Nat×List ByteArray=> [(11,nt .i64 y.1)]) (fun y:Nat×List ByteArray=> [(8,eI y.2)]) (fun y:Nat×List ByteArray=>l.length - y.1) (fun y:Nat×List ByteArray=>y.1<=l.length/\y.2.Nodup/\(∀s,s∈y.2↔ ∃r∈l.take y.1,∃t∈cU r,t.name=s)/\y.2.length<=9*y.1) ((0,[])) (Le.sub4 rfl (by simp[go_sem,eI,List.map_nil])) ⟨?_⟩ ?_
 ·exact⟨Nat.zero_le _,List.nodup_nil,by simp,by simp⟩
 intro⟨i,ks⟩ ⟨hi,hnd,hmem,hlen⟩ AA hAA;simp only[kL,Nat.reduceBEq,Nat.reduceEqDiff]
 dsimp only at*
 by_cases hlt:i<l.length
 ·have hb8:=hb _ (List.getElem_mem hlt)
  have htk:=eZ hlt
  generalize hbi:l[i]=r at*
  obtain⟨⟨hn,hts⟩,bs⟩:=r
  dsimp only at*
  have hp0:=T1 ks hn
  have hl0:=aPc ks hn
  have hnd0:=aPb (s:=hn) hnd
  have hm0:=fun x=>aPa (ks:=ks) (s:=hn) (x:=x)
  generalize nC ks hn=k0 at*
  have hr0:k0.length<=140737488355328:=by omega
  repeat' (first|(refine aA fun _ _=>?_)|refine zHg ?_|simp(disch:=omega) [go_sem,hlt,hbi,eI,hp0,hr0])
  refine bL [3,9,10,11,20,21] [8,5] (fun z:Nat×List ByteArray=> [(22,nt .i64 z.1)]) (fun z:Nat×List ByteArray=> [(8,eI z.2)]) (fun z:Nat×List ByteArray=>bs.length - z.1) (fun z:Nat×List ByteArray=>z.1<=bs.length/\z.2.Nodup/\(∀s,s∈z.2↔s∈k0\/ ∃b∈bs.take z.1,b.atom.name=s)/\z.2.length<=k0.length+z.1) ((0,k0)) (Le.sub4 rfl (by simp[go_sem,eI])) ⟨?_⟩ ?_
  ·exact⟨Nat.zero_le _,hnd0,by simp,by simp⟩
  intro z hin AB hAB;simp only[kL,Nat.reduceBEq,Nat.reduceEqDiff]
  obtain⟨k,k1⟩:=z
  obtain⟨hk,hn1,hm1,hl1⟩:=hin
  dsimp only at*
  by_cases hkl:k<bs.length
  ·have htk':=eZ hkl
   generalize hbk:bs[k]=b at*
   obtain⟨ng,⟨bn,bts⟩⟩:=b
   have hp1:=T1 k1 bn
   have hl2:=aPc k1 bn
   have hnd2:=aPb (s:=bn) hn1
   have hm2:=fun x=>aPa (ks:=k1) (s:=bn) (x:=x)
   generalize nC k1 bn=k2 at*
   have hr2:k2.length<=140737488355328:=by omega
   repeat' (first|(refine aA fun _ _=>?_)|refine zHg ?_|(refine(hAB.next ((k+1,k2)) (Le.sub4 rfl (by simp[go_sem,eI])) (by(try dsimp only);omega) ?_))|simp(disch:=omega) [go_sem,hkl,hbk,hp1,hr2,eI])
   try any_goals omega
   all_goals exact⟨hkl,hnd2,fun x=>by rw[hm2,hm1,htk',yU,or_assoc];exact or_congr Iff.rfl (or_congr Iff.rfl ⟨fun h=>h.symm,fun h=>h.symm⟩),by(try dsimp only);omega⟩
  ·obtain rfl:k=bs.length:=by omega
   rw[List.take_length]at hm1
   repeat' (first|(refine aA fun _ _=>?_)|refine zHg ?_|(refine(hAA.next ((i+1,k1)) (Le.sub4 rfl (by simp[go_sem,eI])) (by(try dsimp only);omega) ?_))|simp(disch:=omega) [go_sem,eI])
   try any_goals omega
   all_goals exact⟨hlt,hn1,fun x=>by rw[hm1,hm0,hmem,htk,yU,bTm,or_assoc];exact Iff.rfl,by(try dsimp only);omega⟩
 ·obtain rfl:i=l.length:=by omega
  rw[List.take_length]at hmem
  obtain⟨ms,hd,hml,hms⟩:=bTl ks lX
  obtain⟨hm1,hm2⟩:=hms hnd
  have ha:=hasc ms (by omega) hm1
  have hms:fM cT ms=R:=by
   rw[<-hR]
   refine yK rH fun x=>?_
   rw[hm2,hmem,bTn]
  rw[hms]at ha
  repeat' (first|(refine aA fun _ _=>?_)|refine zHg ?_|simp(disch:=omega) [go_sem,eI,hd])
  refine aX [(1000,8)] [(8,1000)] 10000 _ _ (Fits.mk' (by simp[go_sem,dN]) (by simp[go_sem,dN])) (by simp[go_sem,dN]) (by simp[go_sem,dN]) (ha) (by simp[go_sem,dN]) (by simp[go_sem,dN]) ?_
  repeat' (first|(refine aA fun _ _=>?_)|refine zHg ?_|(refine aM [] ?_;simp[go_sem])|simp(disch:=omega) [go_sem])
abbrev uX (e:Ed):Value:= .agg #[.string e.fr,.string e.to,.bool e.neg]
theorem bTp (e:Ed):oG (uX e)=bP e:=rfl
attribute [local go_sem] bTp
instance:Inhabited Ed:=⟨⟨default,default,false⟩⟩
abbrev kO (hd:LH) (l:List Ed):aF:= [(2000,eA true (hd.st .ready none) [.ptr 1000 0 0]),(1000,⟨false,false,true,1,[.ref 1001 0 l.length],0⟩),(1001,⟨true,false,true,3,l.map bP,0⟩)]
abbrev fI (hd:LH) (l:List Ed):aF:= [(2000,eA true (hd.st .ready none) [.ptr 1000 0 0]),(1000,⟨false,false,true,1,[.ref 1002 0 l.length],0⟩),(1002,⟨true,false,false,3,l.map bP,0⟩)]
abbrev eN (w:Ed->Value) (ks:List Ed):AObj:=⟨true,false,true,0,ks.map (qY uX fun k=> .sc (w k)),1⟩
abbrev tH (w:Ed->Value) (ks:List Ed) (bs:List Nat) (c:Nat):AObj:=⟨true,false,true,0,lO (ks.map (qY uX fun k=> .sc (w k))) bs c,1⟩
theorem bTq (ks:List Ed) (w:Ed->Value) (hb:ks.length<=1000000) (hd:LH) (hY: ∀(l:List Ed) (x:Ed),l.length<1000000->zU prog [.yl 2000,bP x] (kO hd l) (fun r o'=>r=bl true/\o'=fI hd (l++ [x]))):
 MCall prog 163 [.yl 2000,.ptr 1003 0 0] (kO hd []++ [(1003,⟨false,false,true,1,[.mp 1004],0⟩),(1004,eN w ks)])
  (fun r o'=>r= .tup []/\ ∃l:List Ed,l.Perm ks/\ ∃(bs:List Nat) (c:Nat),o'=fI hd l++ [(1003,⟨false,false,true,1,[.mp 1004],0⟩),(1004,tH w ks bs c)]):=by
 refine dC func163 call163 rfl (by simp[ntmps163]) ?_;simp only[ntmps163,results163]
 repeat' (first|(refine aA fun _ _=>?_)|refine zHg ?_|simp(disch:=omega) [go_sem])
 refine aJk (L:=1004) rfl rfl (by decide+kernel) (by decide) (by simp) fun bs c hbl hbn hbc=>?_
 rw[List.length_map]at hbl
 repeat' (first|(refine aA fun _ _=>?_)|refine zHg ?_|simp(disch:=omega) [go_sem])
 refine bL [0,5] [2000,1000,1001,5,1004] (fun z:List Nat×List Ed=> []) (fun z:List Nat×List Ed=> [(2000,eA true (hd.st .ready none) [.ptr 1000 0 0]),(1000,⟨false,false,true,1,[.ref 1001 0 z.2.length],0⟩),(1001,⟨true,false,false,3,z.2.map bP,0⟩),(5,gN 1004 c false bs z.1),(1004,tH w ks bs c)]) (fun z:List Nat×List Ed=>ks.length - z.1.length) (fun z:List Nat×List Ed=>z.1.Nodup/\(∀i∈z.1,i<ks.length)/\z.2=z.1.map (ks.getD · default)) (([],[])) (by refine Le.trans ?_ (Le.unpin 1001 rfl);exact(Le.sub4 rfl (by simp[go_sem,kO,uH,List.map_nil]))) ⟨?_⟩ ?_
 ·exact⟨List.nodup_nil,by simp,rfl⟩
 intro⟨is,l⟩ ⟨hin,hil,hlk⟩ AA hAA;simp only[kL,Nat.reduceBEq,Nat.reduceEqDiff]
 dsimp only at*
 have hll:l.length=is.length:=by rw[hlk,List.length_map]
 repeat' (first|(refine aA fun _ _=>?_)|refine zHg ?_|simp(disch:=omega) [go_sem])
 refine aJn (L:=1004) rfl rfl rfl (by simp) hbl hbn hbc hil (fun hall=>?_) (fun i hi hni=>?_)
 ·have hp:l.Perm ks:=hlk▸aO3 (fun i hi=>by simp[List.getD_eq_getElem?_getD,List.getElem?_eq_getElem hi]) hin hil hall
  repeat' (first|(refine aA fun _ _=>?_)|refine zHg ?_|simp(disch:=omega) [go_sem])
  refine nS ⟨14,[],fI hd l++ [(1003,⟨false,false,true,1,[.mp 1004],0⟩),(1004,tH w ks bs c)]⟩ [] (Le.renSub [(1001,1002),(1002,1001)] [(1002,1001),(1001,1002)] (by simp[go_sem,fI]) (by simp[go_sem,fI]) (Le.sub4 rfl (by simp[go_sem,fI]))) (by simp[go_sem,fI]) ⟨rfl,l,hp,bs,c,rfl⟩
 ·have hlx:is.length<ks.length:=aO2 hin hil hi hni
  have hla:(is++ [i]).length=is.length+1:=by simp
  have hy:=hY l ks[i] (by omega)
  have hkx:ks.getD i default=ks[i]:=by simp[List.getD_eq_getElem?_getD,List.getElem?_eq_getElem hi]
  generalize hx:ks[i]=x at*
  repeat' (first|(refine aA fun _ _=>?_)|refine zHg ?_|simp(disch:=omega) [go_sem,bP])
  refine aJo (L:=1004) (i:=i) rfl rfl rfl (by simp) hbl hi ?_
  rw[hx]
  repeat' (first|(refine aA fun _ _=>?_)|refine zHg ?_|simp(disch:=omega) [go_sem,bP])
  refine aJa [] [] 10000 _ _ (Fits.mk' (by simp[go_sem,kO,fI,bP]) (by simp[go_sem,kO,fI,bP])) (by simp[go_sem,kO,fI,bP]) (by simp[go_sem,kO,fI,bP]) (hy) (by simp[go_sem,kO,fI,bP]) (by simp[go_sem,kO,fI,bP]) ?_
  repeat' (first|(refine aA fun _ _=>?_)|refine zHg ?_|(refine(hAA.next ((is++ [i],l++ [x])) (Le.renSub [(11002,1001),(1001,11002)] [(1001,11002),(11002,1001)] (by simp[go_sem,fI,bP,gN,List.map_append,List.map_cons,List.map_nil,List.length_append,List.length_cons,List.length_nil]) (by simp[go_sem,fI,bP,gN,List.map_append,List.map_cons,List.map_nil,List.length_append,List.length_cons,List.length_nil]) (Le.sub4 rfl (by simp[go_sem,fI,bP,gN,List.map_append,List.map_cons,List.map_nil,List.length_append,List.length_cons,List.length_nil]))) (by(try dsimp only);omega) ?_))|simp(disch:=omega) [go_sem,fI,bP])
  try any_goals omega
  exact⟨List.nodup_append.2 ⟨hin,by simp,fun a ha b hb e=>hni (by rw[<-List.mem_singleton.1 hb,<-e];exact ha)⟩,fun j hj=>by rcases List.mem_append.1 hj with h|h;exact hil j h;simp at h;omega,by rw[hlk,List.map_append,List.map_cons,List.map_nil,hkx]⟩
theorem bTr (o:AObj) (ho:o=⟨true,false,true,0,o.xs,1⟩):MCall prog 132 [.mp 1000] [(1000,o)] (fun r o'=>r= .clo 163 [.ptr 1001 0 0]/\o'= [(1001,⟨false,false,false,1,[.mp 1000],0⟩),(1000,o)]):=by
 rw[ho]
 refine dC func132 call132 rfl (by simp[ntmps132]) ?_;simp only[ntmps132,results132]
 repeat' (first|(refine aA fun _ _=>?_)|refine zHg ?_|simp(disch:=omega) [go_sem])
 refine cJ ⟨4,[(2,.clo 163 [.ptr 1001 0 0])],[(1001,⟨false,false,false,1,[.mp 1000],0⟩),(1000,⟨true,false,true,0,o.xs,1⟩)]⟩ [.clo 163 [.ptr 1001 0 0]] (Le.renSub [(1,1001),(1001,1)] [(1001,1),(1,1001)] (by simp[go_sem]) (by simp[go_sem]) (Le.sub4 rfl (by simp[go_sem]))) (by simp[go_sem]) ⟨rfl,rfl⟩
abbrev kzO (w:Ed->Value) (ks:List Ed) (L B:Nat):aF:= [(B,⟨false,false,true,1,[.mp L],0⟩),(L,eN w ks)]
theorem bTs (ks:List Ed) (w:Ed->Value) (hb:ks.length<=1000000):MCall prog 176 [.list false true [],.clo 163 [.ptr 1003 0 0]] (kzO w ks 1004 1003)
 (fun r o'=> ∃l:List Ed,l.Perm ks/\r= .ref 1005 0 l.length/\o'= [(1005,⟨true,false,false,3,l.map bP,0⟩)]):=by
 refine dC func176 call176 rfl (by simp[ntmps176]) ?_;simp only[ntmps176,results176]
 repeat' (first|(refine aA fun _ _=>?_)|refine zHg ?_|simp(disch:=omega) [go_sem])
 refine aJf (Le.nilBox 2 900 3 rfl (by decide) (by decide)) ?_;simp only[aAb,aAc,L3,aAg,aAh,aAj,aAi,aAl,aAk,aAm,aAp,aAq,aAo,aAn,aAr,aAs,aAd,K8,K9,aAe,aAf,L0,aAy,List.map_cons,List.map_nil,Bool.or_false,Bool.false_eq_true,if_false,Nat.reduceEqDiff,Nat.reduceBEq]
 refine aI9 2000 7 30000 [2] [(1000,2),(1001,900)] [(2,1000),(900,1001)] (fun hd=>(2000,eA true (hd.st .ready none) [.ptr 1000 0 0]):: [(1000,⟨false,false,true,1,[.ref 1001 0 0],0⟩),(1001,⟨true,false,true,3,[],0⟩),(1003,⟨false,false,true,1,[.mp 1004],0⟩),(1004,eN w ks)]) (.yl 2000:: [.ptr 1003 0 0]) (fun hd r o'=>r= .tup []/\ ∃l:List Ed,l.Perm ks/\ ∃(bs:List Nat) (c:Nat),o'=fI hd l++ [(1003,⟨false,false,true,1,[.mp 1004],0⟩),(1004,tH w ks bs c)]) rfl (by simp[go_sem]) (by simp) rfl (by simp[go_sem]) ?_;intro hd hps has hbd hn hks
 refine⟨Fits.mk' (by simp[go_sem,kO,fI,eN,tH,gN]) (by simp[go_sem,kO,fI,eN,tH,gN]),(by simp[go_sem,kO,fI,eN,tH,gN]),(by simp[go_sem,kO,fI,eN,tH,gN]),(by simp[go_sem,kO,fI,eN,tH,gN]),?_,?_⟩
 ·have hk:=bTq ks w hb hd fun A x hA=>by
   refine aI6 (ts:= [.ptr 1000 0 0]) (by simp[go_sem,kO,fI]) hps has hbd hn hks rfl (by decide) (by decide) rfl rfl ?_;simp only[List.zip_cons_cons,List.zip_nil_left,List.zip_nil_right,List.cons_append,List.nil_append]
   repeat' (first|(refine aA fun _ _=>?_)|refine zHg ?_|simp(disch:=omega) [go_sem,kO,bP])
   refine aJe [.ptr 1000 0 0] (by simp[go_sem]) ?_;simp only[aBq,aBp,Nat.reduceEqDiff,if_true,if_false]
   repeat' (first|(refine aA fun _ _=>?_)|refine zHg ?_|simp(disch:=omega) [go_sem,kO,bP]|refine zAo ?_|fail)
   refine aJd (aJb ⟨13,[],[(2000,eA true (hd.st .busy none) [.ptr 1000 0 0]),(1000,⟨false,false,true,1,[.ref 1002 0 (A.length+1)],0⟩),(1002,⟨true,false,false,3,A.map bP++ [bP x],0⟩)]⟩ [.ptr 1000 0 0] (Le.renSub [(11,1002),(1002,11)] [(1002,11),(11,1002)] (by simp[go_sem,bP]) (by simp[go_sem,bP]) (Le.sub4 rfl (by simp[go_sem,bP]))) (by simp[go_sem,bP]) (by simp[go_sem,bP]))
  exact hk
 ·rintro r o' ⟨rfl,l,hp,bs,c,rfl⟩
  have hlb:l.length<=1000000:=by rw[hp.length_eq];exact hb
  refine⟨(by simp[go_sem,fI]),aJc (hd.st .ready none) [.ptr 1000 0 0] (by simp[go_sem,fI]) (by simp[go_sem,fI]) ⟨13,[(2,.ptr 2 0 0)],[(2,⟨false,false,false,1,[.ref 31002 0 l.length],0⟩),(31002,⟨true,false,false,3,l.map bP,0⟩)]⟩ (Le.sub4 rfl (by simp[go_sem,fI])) (by simp[go_sem,fI]) ?_⟩
  repeat' (first|(refine aA fun _ _=>?_)|refine zHg ?_|simp(disch:=omega) [go_sem])
  refine cJ ⟨13,[(4,.ref 1005 0 l.length)],[(1005,⟨true,false,false,3,l.map bP,0⟩)]⟩ [.ref 1005 0 l.length] (Le.renSub [(31002,1005),(1005,31002)] [(1005,31002),(31002,1005)] (by simp[go_sem]) (by simp[go_sem]) (Le.sub4 rfl (by simp[go_sem]))) (by simp[go_sem]) ⟨l,hp,rfl,rfl⟩
theorem bTt (ks:List Ed) (w:Ed->Value) (hb:ks.length<=1000000):MCall prog 161 [.clo 163 [.ptr 1003 0 0]] (kzO w ks 1004 1003)
 (fun r o'=> ∃l:List Ed,l.Perm ks/\r= .ref 1005 0 l.length/\o'= [(1005,⟨true,false,false,3,l.map bP,0⟩)]):=by
 have h:=bTs ks w hb
 refine dC func161 call161 rfl (by simp[ntmps161]) ?_;simp only[ntmps161,results161]
 repeat' (first|(refine aA fun _ _=>?_)|refine zHg ?_|simp(disch:=omega) [go_sem])
 refine vW [] [] 10000 _ _ (Fits.mk' (by simp[go_sem,eN]) (by simp[go_sem,eN])) (by simp[go_sem,eN]) (by simp[go_sem,eN]) (h) (by simp[go_sem,eN]) (by intros;simp[go_sem,eN]) ?_;intro l hp
 repeat' (first|(refine aA fun _ _=>?_)|refine zHg ?_|simp(disch:=omega) [go_sem])
 refine cJ ⟨5,[(2,.ref 1005 0 l.length)],[(1005,⟨true,false,false,3,l.map bP,0⟩)]⟩ [.ref 1005 0 l.length] (Le.renSub [(11005,1005),(1005,11005)] [(1005,11005),(11005,1005)] (by simp[go_sem]) (by simp[go_sem]) (Le.sub4 rfl (by simp[go_sem]))) (by simp[go_sem]) ⟨l,hp,rfl,rfl⟩
theorem aPd (a:ByteArray):ACall prog 178 [.sc (.string a)] (fun r=>r=bl false):=by
 refine aQ func178 call178 rfl (by simp[ntmps178]) ?_;simp only[ntmps178,results178]
 repeat' (first|(refine aA fun _ _=>?_)|refine zHg ?_|(refine aM [] ?_;simp[go_sem])|simp(disch:=omega) [go_sem])
theorem aPe (a b:ByteArray):ACall prog 165 [.sc (.string a),.sc (.string b)] (fun r=>r=nt .i64 (cT a b)):=by
 have h1:=aPd a
 have h2:=aPd b
 refine aQ func165 call165 rfl (by simp[ntmps165]) ?_;simp only[ntmps165,results165]
 repeat' (first|(refine aA fun _ _=>?_)|refine zHg ?_|(refine aM [] ?_;simp[go_sem])|refine aH rfl (h1) (by simp) ?_|refine aH rfl (h2) (by simp) ?_|simp(disch:=omega) [go_sem]|(refine zqs ?_ ?_<;>(intro h;((try simp only[h]);(try simp at h)))))
 all_goals
  rename_i h
  have hr:=N9 a b
  have hz:=rH.zero a b
  simp only[bLx,decide_eq_true_eq,decide_eq_false_iff_not]at*
  first
  |omega
  |(
   obtain⟨g1,g2⟩:=h
   have g3: ¬cT a b=0:=fun e=>g2 (hz.1 e)
   omega)
  |(
   have g3:cT a b=0:=hz.2 (h (by assumption))
   omega)
theorem bTu (a b:Int) (ha:a= -1\/a=0\/a=1) (hb:b= -1\/b=0\/b=1) (le fu:Bool):ACall prog 164 [.list le fu [nt .i64 a,nt .i64 b]] (fun r=>r=nt .i64 (eV a b)):=by
 refine aQ func164 call164 rfl (by simp[ntmps164]) ?_;simp only[ntmps164,results164]
 generalize hR:eV a b=R
 unfold eV at hR
 repeat' (first|(refine aA fun _ _=>?_)|refine zHg ?_|simp(disch:=omega) [go_sem])
 refine bL [3,6,7] [] (fun i:Nat=> [(8,nt .i64 i)]) (fun i:Nat=> []) (fun i:Nat=>2 - i) (fun i:Nat=>i<=2/\(1<=i->a=0)/\(2<=i->b=0)) (0) (Le.sub4 rfl (by simp[go_sem])) ⟨?_⟩ ?_
 ·exact⟨by omega,fun h=>by omega,fun h=>by omega⟩
 intro i ⟨hi,h1,h2⟩ AA hAA;simp only[kL,Nat.reduceBEq,Nat.reduceEqDiff]
 have hi3:i=0\/i=1\/i=2:=by omega
 rcases hi3 with rfl|rfl|rfl
 ·by_cases h0:a=0
  ·subst h0
   repeat' (first|(refine aA fun _ _=>?_)|refine zHg ?_|(refine(hAA.next (1) (Le.sub4 rfl (by simp[go_sem])) (by(try dsimp only);omega) ?_))|simp(disch:=omega) [go_sem])
   try any_goals omega
   all_goals exact⟨by omega,fun _=>rfl,fun h=>by omega⟩
  ·rw[if_pos h0]at hR
   subst hR
   repeat' (first|(refine aA fun _ _=>?_)|refine zHg ?_|(refine aM [] ?_;simp[go_sem,h0])|simp(disch:=omega) [go_sem,h0])
 ·obtain rfl:=h1 (by omega)
  by_cases h0:b=0
  ·subst h0
   repeat' (first|(refine aA fun _ _=>?_)|refine zHg ?_|(refine(hAA.next (2) (Le.sub4 rfl (by simp[go_sem])) (by(try dsimp only);omega) ?_))|simp(disch:=omega) [go_sem])
   try any_goals omega
   all_goals exact⟨by omega,fun _=>rfl,fun _=>rfl⟩
  ·rw[if_neg (by simp)]at hR
   subst hR
   repeat' (first|(refine aA fun _ _=>?_)|refine zHg ?_|(refine aM [] ?_;simp[go_sem,h0])|simp(disch:=omega) [go_sem,h0])
 ·obtain rfl:=h1 (by omega)
  obtain rfl:=h2 (by omega)
  rw[if_neg (by simp)]at hR
  subst hR
  repeat' (first|(refine aA fun _ _=>?_)|refine zHg ?_|(refine aM [] ?_;simp[go_sem])|simp(disch:=omega) [go_sem])
theorem bTv (x y:Ed):ACall prog 133 [bP x,bP y] (fun r=>r=nt .i64 (iW x y)):=by
 obtain⟨f,t,n⟩:=x
 obtain⟨f2,t2,n2⟩:=y
 have h1:=aPe f f2
 have h2:=aPe t t2
 have r1:=N9 f f2
 have r2:=N9 t t2
 generalize hR:iW ⟨f,t,n⟩ ⟨f2,t2,n2⟩=R
 unfold iW at hR
 dsimp only at hR
 generalize cT f f2=a at*
 generalize cT t t2=b at*
 have h3:=bTu a b r1 r2 true false
 generalize hc:eV a b=c at*
 have hlenT:True:=trivial
 refine aQ func133 call133 rfl (by simp[ntmps133]) ?_;simp only[ntmps133,results133]
 repeat' (first|(refine aA fun _ _=>?_)|refine zHg ?_|((first|refine zqd ?_ ?_|refine zgn ?_ ?_)<;>(intro h;first|(simp only[h,zT])|skip))|(refine aM [] ?_;simp[go_sem,hlenT])|refine dP rfl (h1) rfl (by simp) ?_|refine dP rfl (h2) rfl (by simp) ?_|refine aH rfl (h3) (by simp) ?_|simp(disch:=omega) [go_sem,hlenT]|refine zDr 10 aS ?_|(refine zqs ?_ ?_<;>(intro h;((try simp only[h]);(try simp at h)))))
 all_goals
  rw[<-hR]
  clear h1 h2 h3 hR
  cases n<;>cases n2<;>simp_all [eV,dR,nb]
section
variable {α : Type} [DecidableEq α] {kv : α -> Value}
abbrev kS (kv:α->Value) (a:α):AV:=qY kv (fun _=> .sc (.bool true)) a
theorem aPf (hk: ∀a b,iF (kv a) (kv b)=some (decide (a=b))) {s:α}: ∀{ks:List α} {i:Nat},s∉ks->cI (kv s) (ks.map (kS kv)) i=some none
 | [],_,_=>rfl
 |k::ks,i,h=>by
  rw[List.map_cons,cI,hk,decide_eq_false (fun e=>h (by simp[e]))]
  exact aPf hk fun hs=>h (by simp[hs])
theorem aPg (hk: ∀a b,iF (kv a) (kv b)=some (decide (a=b))) {s:α}: ∀{ks:List α} {j i:Nat} (hj:j<ks.length),ks[j]=s->(∀(k:Nat) (hk:k<ks.length),k<j-> ¬ks[k]=s)->cI (kv s) (ks.map (kS kv)) i=some (some (i+j,.sc (.bool true)))
 |k::ks,0,i,_,h,_=>by
  have h:k=s:=h
  rw[List.map_cons,cI,hk,decide_eq_true h.symm]
  rfl
 |k::ks,j+1,i,hj,h,hn=>by
  have h0: ¬k=s:=hn 0 (by simp) (by omega)
  rw[List.map_cons,cI,hk,decide_eq_false (fun e=>h0 e.symm)]
  have:=aPg hk (ks:=ks) (j:=j) (i:=i+1) (by simpa using hj) h (fun q hk hkj=>hn (q+1) (by simpa using hk) (by omega))
  simp only[this]
  simp only[Option.some.injEq,Prod.mk.injEq,and_true]
  omega
omit [DecidableEq α]in
theorem bTw (ks:List α) (s:α):s∉ks\/ ∃(j:Nat) (hj:j<ks.length),ks[j]=s/\ ∀(k:Nat) (hk:k<ks.length),k<j-> ¬ks[k]=s:=by
 induction ks with
 |nil=>exact .inl (by simp)
 |cons p l ih=>
  by_cases h:p=s
  ·exact .inr ⟨0,by simp,h,fun k _ hk=>by omega⟩
  ·rcases ih with h1|⟨j,hj,h1,h2⟩
   ·refine .inl fun hq=>?_
    rcases List.mem_cons.1 hq with rfl|hq
    ·exact h rfl
    ·exact h1 hq
   ·refine .inr ⟨j+1,by simpa using hj,h1,fun k hk hkj=>?_⟩
    cases k with
    |zero=>exact h
    |succ k=>exact h2 k (by simpa using hk) (by omega)
def rP (ks:List α) (s:α):List α:=if s∈ks then ks else ks++ [s]
theorem bTx (hk: ∀a b,iF (kv a) (kv b)=some (decide (a=b))) (ks:List α) (s:α):fC (kv s) (.sc (.bool true)) (ks.map (kS kv))=some ((rP ks s).map (kS kv)):=by
 unfold fC rP
 rcases bTw ks s with h|⟨j,hj,h1,h2⟩
 ·rw[aPf hk h,if_neg h]
  simp
 ·rw[aPg hk hj h1 h2,if_pos (h1▸List.getElem_mem hj)]
  simp only[Nat.zero_add,Option.some.injEq]
  rw[show(AV.tup [.sc (kv s),.sc (.bool true)])=kS kv s from rfl,<-List.map_set,<-h1,List.set_getElem_self]
theorem bTy {ks:List α} {s x:α}:x∈rP ks s↔x∈ks\/x=s:=by
 unfold rP
 split
 ·rename_i hs
  exact⟨.inl,fun h=>by rcases h with h|rfl;exact h;exact hs⟩
 ·simp
theorem bTz {ks:List α} {s:α} (h:ks.Nodup):(rP ks s).Nodup:=by
 unfold rP
 split
 ·exact h
 ·rename_i hs
  exact List.nodup_append.2 ⟨h,by simp,fun a ha b hb e=>hs (by rw[<-List.mem_singleton.1 hb,<-e];exact ha)⟩
theorem bT0 (ks:List α) (s:α):(rP ks s).length<=ks.length+1:=by
 unfold rP
 split<;>simp
end
instance edDec:DecidableEq Ed:=fun a b=>decidable_of_iff (a.fr=b.fr/\a.to=b.to/\a.neg=b.neg) (by cases a;cases b;simp)
theorem bT1 (a b:Ed):iF (uX a) (uX b)=some (decide (a=b)):=by
 obtain⟨f,t,n⟩:=a
 obtain⟨f2,t2,n2⟩:=b
 simp only[iF,iN,mF,Option.some.injEq,Ed.mk.injEq,Bool.and_true,Bool.decide_and]
 cases n<;>cases n2<;>simp
def G2:Prop:= ∀l:List Ed,l.length<=1000000->MCall prog 162 [.ref 1000 0 l.length,.clo 133 []] [(1000,bB bP 3 0 l)]
 (fun r o'=> ∃m:List Ed,(m.Perm l/\m.Pairwise (fun x y=>iW x y<=0))/\r= .tup []/\o'= [(1000,bB bP 3 0 m)])
theorem bT2 {l m:List Ed} (hn:l.Nodup) (hp:m.Perm l) (hs:m.Pairwise fun a b=>iW a b<=0):m=fM iW l:=by
 have ha:rG iW m:=by
  refine(hs.and (hp.nodup_iff.2 hn)).imp fun {a b} hab=>?_
  have h1: ¬iW a b=0:=fun e=>hab.2 ((wO.zero a b).1 e)
  have h2:iW a b<=0:=hab.1
  show iW a b<0
  omega
 rw[<-aMn wO ha]
 exact yK wO fun x=>hp.mem_iff
theorem bT3 (hS:G2) (ks:List Ed) (w:Ed->Value) (hb:ks.length<=1000000) (hn:ks.Nodup):MCall prog 131 [.clo 163 [.ptr 1003 0 0],.clo 133 []] (kzO w ks 1004 1003)
 (fun r o'=>r= .ref 1005 0 (fM iW ks).length/\o'= [(1005,⟨true,false,false,3,(fM iW ks).map bP,0⟩)]):=by
 have h:=bTt ks w hb
 refine dC func131 call131 rfl (by simp[ntmps131]) ?_;simp only[ntmps131,results131]
 repeat' (first|(refine aA fun _ _=>?_)|refine zHg ?_|simp(disch:=omega) [go_sem])
 refine vW [] [] 10000 _ _ (Fits.mk' (by simp[go_sem,eN]) (by simp[go_sem,eN])) (by simp[go_sem,eN]) (by simp[go_sem,eN]) (h) (by simp[go_sem,eN]) (by intros;simp[go_sem,eN]) ?_;intro l hp
 have hs:=hS l (by rw[hp.length_eq];exact hb)
 repeat' (first|(refine aA fun _ _=>?_)|refine zHg ?_|simp(disch:=omega) [go_sem])
 refine vW [(1000,11005)] [(11005,1000)] 30000 _ _ (Fits.mk' (by simp[go_sem]) (by simp[go_sem])) (by simp[go_sem]) (by simp[go_sem]) (hs) (by simp[go_sem]) (by intros;simp[go_sem]) ?_;intro m hm
 obtain⟨hmp,hms⟩:=hm
 have e:m=fM iW ks:=bT2 hn (hmp.trans hp) hms
 have hll:l.length=m.length:=hmp.length_eq.symm
 generalize fM iW ks=q at*
 subst e
 repeat' (first|(refine aA fun _ _=>?_)|refine zHg ?_|simp(disch:=omega) [go_sem,hll])
 refine cJ ⟨12,[(4,.ref 1005 0 m.length)],[(1005,⟨true,false,false,3,m.map bP,0⟩)]⟩ [.ref 1005 0 m.length] (Le.renSub [(11005,1005),(1005,11005)] [(1005,11005),(11005,1005)] (by simp[go_sem]) (by simp[go_sem]) (Le.sub4 rfl (by simp[go_sem]))) (by simp[go_sem]) ⟨rfl,rfl⟩
abbrev nD (ks:List Ed):AObj:=⟨true,false,false,0,ks.map (kS uX),1⟩
theorem bT4 {r:Rl} {e:Ed} (h: ¬r.head.name=lX):e∈wP r↔ ∃b∈r.body,¬b.atom.name=lX/\e=⟨r.head.name,b.atom.name,b.neg⟩:=by
 unfold wP
 rw[if_neg h,List.mem_map]
 constructor
 ·rintro⟨b,hb,rfl⟩
  obtain⟨h1,h2⟩:=List.mem_filter.1 hb
  exact⟨b,h1,by simpa using h2,rfl⟩
 ·rintro⟨b,hb,h2,rfl⟩
  exact⟨b,List.mem_filter.2 ⟨hb,by simpa using h2⟩,rfl⟩
theorem aPh (hS:G2) (l:List Rl) (le fu:Bool) (hl:l.length<=100000) (hb: ∀r∈l,r.body.length<=8):ACall prog 90 [.list le fu (l.map bH)] (fun v=>v= .own 3 ((iB l).map bP)):=by
 have hke:=fun ks=>bTr (eN (fun _=> .bool true) ks) rfl
 have hso:=fun ks h1 h2=>bT3 hS ks (fun _=> .bool true) h1 h2
 generalize hR:iB l=R
 refine aQ func90 call90 rfl (by simp[ntmps90]) ?_;simp only[ntmps90,results90]
 repeat' (first|(refine aA fun _ _=>?_)|refine zHg ?_|simp(disch:=omega) [go_sem])
 refine bL [3,9,10] [8] (fun y:Nat×List Ed=> [(11,nt .i64 y.1)]) (fun y:Nat×List Ed=> [(8,nD y.2)]) (fun y:Nat×List Ed=>l.length - y.1) (fun y:Nat×List Ed=>y.1<=l.length/\y.2.Nodup/\(∀e,e∈y.2↔ ∃r∈l.take y.1,e∈wP r)/\y.2.length<=8*y.1) ((0,[])) (Le.sub4 rfl (by simp[go_sem,nD,List.map_nil])) ⟨?_⟩ ?_
 ·exact⟨Nat.zero_le _,List.nodup_nil,by simp,by simp⟩
 intro⟨i,ks⟩ ⟨hi,hnd,hmem,hlen⟩ AA hAA;simp only[kL,Nat.reduceBEq,Nat.reduceEqDiff]
 dsimp only at*
 by_cases hlt:i<l.length
 ·have hb8:=hb _ (List.getElem_mem hlt)
  have htk:=eZ hlt
  generalize hbi:l[i]=r at*
  obtain⟨⟨hn,hts⟩,bs⟩:=r
  dsimp only at*
  by_cases hd:hn=lX
  ·have hno:wP ⟨.mk hn hts,bs⟩= []:=if_pos hd
   subst hd
   repeat' (first|(refine aA fun _ _=>?_)|refine zHg ?_|(refine(hAA.next ((i+1,ks)) (Le.sub4 rfl (by simp[go_sem,nD])) (by(try dsimp only);omega) ?_))|simp(disch:=omega) [go_sem,hlt,hbi,nD])
   try any_goals omega
   all_goals exact⟨hlt,hnd,fun x=>by rw[htk,yU,hno,hmem];simp,by(try dsimp only);omega⟩
  ·have hex:=fun e=>bT4 (r:=⟨.mk hn hts,bs⟩) (e:=e) hd
   repeat' (first|(refine aA fun _ _=>?_)|refine zHg ?_|simp(disch:=omega) [go_sem,hlt,hbi,nD,hd])
   refine bL [3,5,9,10,11,20,21] [8,5] (fun z:Nat×List Ed=> [(22,nt .i64 z.1)]) (fun z:Nat×List Ed=> [(8,nD z.2),(5,⟨false,false,false,3,[bH ⟨.mk hn hts,bs⟩],0⟩)]) (fun z:Nat×List Ed=>bs.length - z.1) (fun z:Nat×List Ed=>z.1<=bs.length/\z.2.Nodup/\(∀e,e∈z.2↔e∈ks\/ ∃b∈bs.take z.1,¬b.atom.name=lX/\e=⟨hn,b.atom.name,b.neg⟩)/\z.2.length<=ks.length+z.1) ((0,ks)) (Le.sub4 rfl (by simp[go_sem,nD])) ⟨?_⟩ ?_
   ·exact⟨Nat.zero_le _,hnd,by simp,by simp⟩
   intro z hin AB hAB;simp only[kL,Nat.reduceBEq,Nat.reduceEqDiff]
   obtain⟨k,k1⟩:=z
   obtain⟨hk,hn1,hm1,hl1⟩:=hin
   dsimp only at*
   by_cases hkl:k<bs.length
   ·have htk':=eZ hkl
    generalize hbk:bs[k]=b at*
    obtain⟨ng,⟨bn,bts⟩⟩:=b
    by_cases hbd:bn=lX
    ·subst hbd
     repeat' (first|(refine aA fun _ _=>?_)|refine zHg ?_|(refine(hAB.next ((k+1,k1)) (Le.sub4 rfl (by simp[go_sem,nD])) (by(try dsimp only);omega) ?_))|simp(disch:=omega) [go_sem,hkl,hbk,nD])
     try any_goals omega
     all_goals exact⟨hkl,hn1,fun x=>by rw[hm1,htk',yU];simp[iT],by(try dsimp only);omega⟩
    ·have hp1:fC (.agg #[.string hn,.string bn,.bool ng]) (.sc (.bool true)) (k1.map (kS uX))=some ((rP k1 ⟨hn,bn,ng⟩).map (kS uX)):=bTx bT1 k1 ⟨hn,bn,ng⟩
     have hl2:=bT0 k1 (⟨hn,bn,ng⟩:Ed)
     have hnd2:=bTz (s:=(⟨hn,bn,ng⟩:Ed)) hn1
     have hm2:=fun x=>bTy (ks:=k1) (s:=(⟨hn,bn,ng⟩:Ed)) (x:=x)
     generalize rP k1 (⟨hn,bn,ng⟩:Ed)=k2 at*
     have hr2:k2.length<=140737488355328:=by omega
     repeat' (first|(refine aA fun _ _=>?_)|refine zHg ?_|(refine(hAB.next ((k+1,k2)) (Le.sub4 rfl (by simp[go_sem,nD])) (by(try dsimp only);omega) ?_))|simp(disch:=omega) [go_sem,hkl,hbk,hbd,hp1,hr2,nD])
     try any_goals omega
     all_goals exact⟨hkl,hnd2,fun x=>by rw[hm2,hm1,htk',yU,or_assoc];simp[iT,hbd],by(try dsimp only);omega⟩
   ·obtain rfl:k=bs.length:=by omega
    rw[List.take_length]at hm1
    repeat' (first|(refine aA fun _ _=>?_)|refine zHg ?_|(refine(hAA.next ((i+1,k1)) (Le.sub4 rfl (by simp[go_sem,nD])) (by(try dsimp only);omega) ?_))|simp(disch:=omega) [go_sem,nD])
    try any_goals omega
    all_goals exact⟨hlt,hn1,fun x=>by rw[hm1,hmem,htk,yU,hex];exact Iff.rfl,by(try dsimp only);omega⟩
 ·obtain rfl:i=l.length:=by omega
  rw[List.take_length]at hmem
  have hk:=hke ks
  have hs:=hso ks (by omega) hnd
  have hms:fM iW ks=R:=by
   rw[<-hR]
   exact yK wO fun x=>by rw[hmem,List.mem_flatMap]
  rw[hms]at hs
  repeat' (first|(refine aA fun _ _=>?_)|refine zHg ?_|simp(disch:=omega) [go_sem,nD])
  refine aX [(1000,8)] [(8,1000)] 10000 _ _ (Fits.mk' (by simp[go_sem,eN]) (by simp[go_sem,eN])) (by simp[go_sem,eN]) (by simp[go_sem,eN]) (hk) (by simp[go_sem,eN]) (by simp[go_sem,eN]) ?_
  repeat' (first|(refine aA fun _ _=>?_)|refine zHg ?_|simp(disch:=omega) [go_sem])
  refine aX [(1003,11001),(1004,8)] [(11001,1003),(8,1004)] 30000 _ _ (Fits.mk' (by simp[go_sem,eN]) (by simp[go_sem,eN])) (by simp[go_sem,eN]) (by simp[go_sem,eN]) (hs) (by simp[go_sem,eN]) (by simp[go_sem,eN]) ?_
  repeat' (first|(refine aA fun _ _=>?_)|refine zHg ?_|(refine aM [] ?_;simp[go_sem])|simp(disch:=omega) [go_sem])
open Go.Ab
set_option maxRecDepth 100000
set_option maxHeartbeats 8000000
def T2:Prop:= ∀(es:List Ed) (s:ByteArray) (le fu:Bool),es.length<=1000000->ACall prog 93 [.list le fu (es.map bP),.sc (.string s)] (fun r=>r= .own 1 ((kI es s).map aI))
abbrev dpO (es:List Ed):aF:= [(1000,⟨false,false,true,1,[.ref 1001 0 es.length],0⟩),(1001,⟨true,false,true,3,es.map bP,0⟩)]
theorem G3 (hR:T2) (es:List Ed) (hb:es.length<=1000000) (a b:ByteArray):MCall prog 91 [.sc (.string a),.sc (.string b),.ptr 1000 0 0] (dpO es) (fun r o'=>r=bl (fS (kI es a) b)/\o'=dpO es):=by
 have hr:=hR es a true false hb
 have hc:=aCz (kI es a) b true false
 generalize fS (kI es a) b=q at*
 generalize kI es a=m at*
 have hlenT:True:=trivial
 refine dC func91 call91 rfl (by simp[ntmps91]) ?_;simp only[ntmps91,results91]
 repeat' (first|(refine aA fun _ _=>?_)|refine zHg ?_|(refine aH ?hl (hr) (by simp) ?_;(case hl=>(simp[go_sem,hlenT];done)))|(refine aH ?hl (hc) (by simp) ?_;(case hl=>(simp[go_sem,hlenT];done)))|simp(disch:=omega) [go_sem,hlenT])
 refine cJ ⟨11,[(5,bl q)],dpO es⟩ [bl q] (Le.renSub [] [] (by simp[go_sem]) (by simp[go_sem]) (Le.sub4 rfl (by simp[go_sem]))) (by simp[go_sem]) ⟨rfl,rfl⟩
theorem bT5 (hS:G2) (hR:T2) (l:List Rl) (le fu:Bool) (hl:l.length<=100000) (hb: ∀r∈l,r.body.length<=8) (he:(iB l).length<=1000000):ACall prog 46 [.list le fu (l.map bH)] (fun v=>v=bl (R0 l)):=by
 have hE:=aPh hS l le fu hl hb
 unfold R0
 generalize iB l=es at*
 have h1:=G3 hR es he wL Q3
 have h2:=G3 hR es he wL nZ
 have h3:=G3 hR es he Q4 nZ
 have h4:=G3 hR es he Q6 nZ
 have h5:=G3 hR es he Q5 nZ
 generalize fS (kI es wL) Q3=b1 at*
 generalize fS (kI es wL) nZ=b2 at*
 generalize fS (kI es Q4) nZ=b3 at*
 generalize fS (kI es Q6) nZ=b4 at*
 generalize fS (kI es Q5) nZ=b5 at*
 cases b1
 ·cases b2
  ·cases b3
   ·cases b4
    ·cases b5
     ·refine aQ func46 call46 rfl (by simp[ntmps46]) ?_;simp only[ntmps46,results46]
      repeat' (first|(refine aA fun _ _=>?_)|refine zHg ?_|refine aH rfl (hE) (by simp) ?_|simp(disch:=omega) [go_sem])
      refine aX [(1000,3),(1001,6)] [(3,1000),(6,1001)] 10000 _ _ (Fits.mk' (by simp[go_sem]) (by simp[go_sem])) (by simp[go_sem]) (by simp[go_sem]) (h1) (by simp[go_sem]) (by simp[go_sem]) ?_
      repeat' (first|(refine aA fun _ _=>?_)|refine zHg ?_|simp(disch:=omega) [go_sem])
      refine aX [(1000,3),(1001,6)] [(3,1000),(6,1001)] 10000 _ _ (Fits.mk' (by simp[go_sem]) (by simp[go_sem])) (by simp[go_sem]) (by simp[go_sem]) (h2) (by simp[go_sem]) (by simp[go_sem]) ?_
      repeat' (first|(refine aA fun _ _=>?_)|refine zHg ?_|simp(disch:=omega) [go_sem])
      refine aX [(1000,3),(1001,6)] [(3,1000),(6,1001)] 10000 _ _ (Fits.mk' (by simp[go_sem]) (by simp[go_sem])) (by simp[go_sem]) (by simp[go_sem]) (h3) (by simp[go_sem]) (by simp[go_sem]) ?_
      repeat' (first|(refine aA fun _ _=>?_)|refine zHg ?_|simp(disch:=omega) [go_sem])
      refine aX [(1000,3),(1001,6)] [(3,1000),(6,1001)] 10000 _ _ (Fits.mk' (by simp[go_sem]) (by simp[go_sem])) (by simp[go_sem]) (by simp[go_sem]) (h4) (by simp[go_sem]) (by simp[go_sem]) ?_
      repeat' (first|(refine aA fun _ _=>?_)|refine zHg ?_|simp(disch:=omega) [go_sem])
      refine aX [(1000,3),(1001,6)] [(3,1000),(6,1001)] 10000 _ _ (Fits.mk' (by simp[go_sem]) (by simp[go_sem])) (by simp[go_sem]) (by simp[go_sem]) (h5) (by simp[go_sem]) (by simp[go_sem]) ?_
      repeat' (first|(refine aA fun _ _=>?_)|refine zHg ?_|(refine aM [] ?_;simp[go_sem])|simp(disch:=omega) [go_sem])
     ·refine aQ func46 call46 rfl (by simp[ntmps46]) ?_;simp only[ntmps46,results46]
      repeat' (first|(refine aA fun _ _=>?_)|refine zHg ?_|refine aH rfl (hE) (by simp) ?_|simp(disch:=omega) [go_sem])
      refine aX [(1000,3),(1001,6)] [(3,1000),(6,1001)] 10000 _ _ (Fits.mk' (by simp[go_sem]) (by simp[go_sem])) (by simp[go_sem]) (by simp[go_sem]) (h1) (by simp[go_sem]) (by simp[go_sem]) ?_
      repeat' (first|(refine aA fun _ _=>?_)|refine zHg ?_|simp(disch:=omega) [go_sem])
      refine aX [(1000,3),(1001,6)] [(3,1000),(6,1001)] 10000 _ _ (Fits.mk' (by simp[go_sem]) (by simp[go_sem])) (by simp[go_sem]) (by simp[go_sem]) (h2) (by simp[go_sem]) (by simp[go_sem]) ?_
      repeat' (first|(refine aA fun _ _=>?_)|refine zHg ?_|simp(disch:=omega) [go_sem])
      refine aX [(1000,3),(1001,6)] [(3,1000),(6,1001)] 10000 _ _ (Fits.mk' (by simp[go_sem]) (by simp[go_sem])) (by simp[go_sem]) (by simp[go_sem]) (h3) (by simp[go_sem]) (by simp[go_sem]) ?_
      repeat' (first|(refine aA fun _ _=>?_)|refine zHg ?_|simp(disch:=omega) [go_sem])
      refine aX [(1000,3),(1001,6)] [(3,1000),(6,1001)] 10000 _ _ (Fits.mk' (by simp[go_sem]) (by simp[go_sem])) (by simp[go_sem]) (by simp[go_sem]) (h4) (by simp[go_sem]) (by simp[go_sem]) ?_
      repeat' (first|(refine aA fun _ _=>?_)|refine zHg ?_|simp(disch:=omega) [go_sem])
      refine aX [(1000,3),(1001,6)] [(3,1000),(6,1001)] 10000 _ _ (Fits.mk' (by simp[go_sem]) (by simp[go_sem])) (by simp[go_sem]) (by simp[go_sem]) (h5) (by simp[go_sem]) (by simp[go_sem]) ?_
      repeat' (first|(refine aA fun _ _=>?_)|refine zHg ?_|(refine aM [] ?_;simp[go_sem])|simp(disch:=omega) [go_sem])
    ·refine aQ func46 call46 rfl (by simp[ntmps46]) ?_;simp only[ntmps46,results46]
     repeat' (first|(refine aA fun _ _=>?_)|refine zHg ?_|refine aH rfl (hE) (by simp) ?_|simp(disch:=omega) [go_sem])
     refine aX [(1000,3),(1001,6)] [(3,1000),(6,1001)] 10000 _ _ (Fits.mk' (by simp[go_sem]) (by simp[go_sem])) (by simp[go_sem]) (by simp[go_sem]) (h1) (by simp[go_sem]) (by simp[go_sem]) ?_
     repeat' (first|(refine aA fun _ _=>?_)|refine zHg ?_|simp(disch:=omega) [go_sem])
     refine aX [(1000,3),(1001,6)] [(3,1000),(6,1001)] 10000 _ _ (Fits.mk' (by simp[go_sem]) (by simp[go_sem])) (by simp[go_sem]) (by simp[go_sem]) (h2) (by simp[go_sem]) (by simp[go_sem]) ?_
     repeat' (first|(refine aA fun _ _=>?_)|refine zHg ?_|simp(disch:=omega) [go_sem])
     refine aX [(1000,3),(1001,6)] [(3,1000),(6,1001)] 10000 _ _ (Fits.mk' (by simp[go_sem]) (by simp[go_sem])) (by simp[go_sem]) (by simp[go_sem]) (h3) (by simp[go_sem]) (by simp[go_sem]) ?_
     repeat' (first|(refine aA fun _ _=>?_)|refine zHg ?_|simp(disch:=omega) [go_sem])
     refine aX [(1000,3),(1001,6)] [(3,1000),(6,1001)] 10000 _ _ (Fits.mk' (by simp[go_sem]) (by simp[go_sem])) (by simp[go_sem]) (by simp[go_sem]) (h4) (by simp[go_sem]) (by simp[go_sem]) ?_
     repeat' (first|(refine aA fun _ _=>?_)|refine zHg ?_|(refine aM [] ?_;simp[go_sem])|simp(disch:=omega) [go_sem])
   ·refine aQ func46 call46 rfl (by simp[ntmps46]) ?_;simp only[ntmps46,results46]
    repeat' (first|(refine aA fun _ _=>?_)|refine zHg ?_|refine aH rfl (hE) (by simp) ?_|simp(disch:=omega) [go_sem])
    refine aX [(1000,3),(1001,6)] [(3,1000),(6,1001)] 10000 _ _ (Fits.mk' (by simp[go_sem]) (by simp[go_sem])) (by simp[go_sem]) (by simp[go_sem]) (h1) (by simp[go_sem]) (by simp[go_sem]) ?_
    repeat' (first|(refine aA fun _ _=>?_)|refine zHg ?_|simp(disch:=omega) [go_sem])
    refine aX [(1000,3),(1001,6)] [(3,1000),(6,1001)] 10000 _ _ (Fits.mk' (by simp[go_sem]) (by simp[go_sem])) (by simp[go_sem]) (by simp[go_sem]) (h2) (by simp[go_sem]) (by simp[go_sem]) ?_
    repeat' (first|(refine aA fun _ _=>?_)|refine zHg ?_|simp(disch:=omega) [go_sem])
    refine aX [(1000,3),(1001,6)] [(3,1000),(6,1001)] 10000 _ _ (Fits.mk' (by simp[go_sem]) (by simp[go_sem])) (by simp[go_sem]) (by simp[go_sem]) (h3) (by simp[go_sem]) (by simp[go_sem]) ?_
    repeat' (first|(refine aA fun _ _=>?_)|refine zHg ?_|(refine aM [] ?_;simp[go_sem])|simp(disch:=omega) [go_sem])
  ·refine aQ func46 call46 rfl (by simp[ntmps46]) ?_;simp only[ntmps46,results46]
   repeat' (first|(refine aA fun _ _=>?_)|refine zHg ?_|refine aH rfl (hE) (by simp) ?_|simp(disch:=omega) [go_sem])
   refine aX [(1000,3),(1001,6)] [(3,1000),(6,1001)] 10000 _ _ (Fits.mk' (by simp[go_sem]) (by simp[go_sem])) (by simp[go_sem]) (by simp[go_sem]) (h1) (by simp[go_sem]) (by simp[go_sem]) ?_
   repeat' (first|(refine aA fun _ _=>?_)|refine zHg ?_|simp(disch:=omega) [go_sem])
   refine aX [(1000,3),(1001,6)] [(3,1000),(6,1001)] 10000 _ _ (Fits.mk' (by simp[go_sem]) (by simp[go_sem])) (by simp[go_sem]) (by simp[go_sem]) (h2) (by simp[go_sem]) (by simp[go_sem]) ?_
   repeat' (first|(refine aA fun _ _=>?_)|refine zHg ?_|(refine aM [] ?_;simp[go_sem])|simp(disch:=omega) [go_sem])
 ·refine aQ func46 call46 rfl (by simp[ntmps46]) ?_;simp only[ntmps46,results46]
  repeat' (first|(refine aA fun _ _=>?_)|refine zHg ?_|refine aH rfl (hE) (by simp) ?_|simp(disch:=omega) [go_sem])
  refine aX [(1000,3),(1001,6)] [(3,1000),(6,1001)] 10000 _ _ (Fits.mk' (by simp[go_sem]) (by simp[go_sem])) (by simp[go_sem]) (by simp[go_sem]) (h1) (by simp[go_sem]) (by simp[go_sem]) ?_
  repeat' (first|(refine aA fun _ _=>?_)|refine zHg ?_|(refine aM [] ?_;simp[go_sem])|simp(disch:=omega) [go_sem])
end Go.Proofs.YtbgckcdddlmiaaaGreatDoor
