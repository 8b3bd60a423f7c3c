import Derived.Test.YtgmibdiofkmmbaaGreatDoorS8
import Derived.Test.YtgmibdiofkmmbaaGreatDoorA16
import Derived.Shelf.SlLaysF0
import Derived.Shelf.SlSortCmp.WholeK
set_option linter.all false
open Go.Proofs.Tryz
namespace Go.Proofs.YtgmibdiofkmmbaaGreatDoor
open Go.Shelf Go.Proofs
def Tryz.srtE_ren:Go.Shelf.Ren:=⟨fun|6=>171|15=>188|14=>187|28=>203|29=>204|20=>195|21=>196|22=>197|23=>198|24=>199|25=>200|26=>201|27=>202|46=>207|47=>208|48=>209|49=>210|50=>211|57=>221|n=>n,fun|22=>59|24=>107|25=>163|3=>3|39=>169|0=>0|53=>206|55=>208|4=>4|46=>200|45=>199|50=>124|5=>5|9=>9|66=>211|70=>215|76=>222|77=>223|n=>n,fun|n=>n⟩
theorem Tryz.srtE:Go.Proofs.SlLaysF0.n6 prog Tryz.srtE_ren:= {
 mixed:=by kernel_rfl
 f6:=⟨Tryz.f171.name,by decide,func171.trans (congrArg some (by kernel_rfl))⟩
 f14:=⟨Tryz.f187.name,by decide,func187.trans (congrArg some (by kernel_rfl))⟩
 f15:=func188.trans (congrArg some (by kernel_rfl))
 f20:=⟨Tryz.f195.name,by decide,func195.trans (congrArg some (by kernel_rfl))⟩
 f21:=⟨Tryz.f196.name,by decide,func196.trans (congrArg some (by kernel_rfl))⟩
 f22:=⟨Tryz.f197.name,by decide,func197.trans (congrArg some (by kernel_rfl))⟩
 f23:=⟨Tryz.f198.name,by decide,func198.trans (congrArg some (by kernel_rfl))⟩
 f24:=⟨Tryz.f199.name,by decide,func199.trans (congrArg some (by kernel_rfl))⟩
 f25:=⟨Tryz.f200.name,by decide,func200.trans (congrArg some (by kernel_rfl))⟩
 f26:=⟨Tryz.f201.name,by decide,func201.trans (congrArg some (by kernel_rfl))⟩
 f27:=⟨Tryz.f202.name,by decide,func202.trans (congrArg some (by kernel_rfl))⟩
 f28:=func203.trans (congrArg some (by kernel_rfl))
 f29:=func204.trans (congrArg some (by kernel_rfl))
 f46:=⟨Tryz.f207.name,by decide,func207.trans (congrArg some (by kernel_rfl))⟩
 f47:=func208.trans (congrArg some (by kernel_rfl))
 f48:=func209.trans (congrArg some (by kernel_rfl))
 f49:=⟨Tryz.f210.name,by decide,func210.trans (congrArg some (by kernel_rfl))⟩
 f50:=⟨Tryz.f211.name,by decide,func211.trans (congrArg some (by kernel_rfl))⟩
 f57:=⟨Tryz.f221.name,by decide,func221.trans (congrArg some (by kernel_rfl))⟩
 t0:=underlying0
 a0:=Tryz.isAgg0
 z0:=Tryz.sizeOf0
 v0:=Tryz.zeroValue0
 t3:=underlying3
 a3:=Tryz.isAgg3
 z3:=Tryz.sizeOf3
 v3:=Tryz.zeroValue3
 t4:=underlying4
 a4:=Tryz.isAgg4
 z4:=Tryz.sizeOf4
 v4:=Tryz.zeroValue4
 t5:=underlying5
 a5:=Tryz.isAgg5
 z5:=Tryz.sizeOf5
 v5:=Tryz.zeroValue5
 t9:=underlying9
 a9:=Tryz.isAgg9
 z9:=Tryz.sizeOf9
 v9:=Tryz.zeroValue9
 t22:=underlying59
 a22:=Tryz.isAgg59
 z22:=Tryz.sizeOf59
 v22:=Tryz.zeroValue59
 t25:=underlying163
 a25:=Tryz.isAgg163
 z25:=Tryz.sizeOf163
 v25:=Tryz.zeroValue163
 t39:=underlying169
 a39:=Tryz.isAgg169
 z39:=Tryz.sizeOf169
 v39:=Tryz.zeroValue169
 t45:=underlying199
 a45:=Tryz.isAgg199
 z45:=Tryz.sizeOf199
 v45:=Tryz.zeroValue199
 t46:=underlying200
 a46:=Tryz.isAgg200
 z46:=Tryz.sizeOf200
 v46:=Tryz.zeroValue200
 t50:=underlying124
 a50:=Tryz.isAgg124
 z50:=Tryz.sizeOf124
 v50:=Tryz.zeroValue124
 t53:=underlying206
 a53:=Tryz.isAgg206
 z53:=Tryz.sizeOf206
 v53:=Tryz.zeroValue206
 t55:=underlying208
 a55:=Tryz.isAgg208
 z55:=Tryz.sizeOf208
 v55:=Tryz.zeroValue208
 t66:=underlying211
 a66:=Tryz.isAgg211
 z66:=Tryz.sizeOf211
 v66:=Tryz.zeroValue211
 t70:=underlying215
 a70:=Tryz.isAgg215
 z70:=Tryz.sizeOf215
 v70:=Tryz.zeroValue215
 t76:=underlying222
 a76:=Tryz.isAgg222
 z76:=Tryz.sizeOf222
 v76:=Tryz.zeroValue222
 t77:=underlying223
 a77:=Tryz.isAgg223
 z77:=Tryz.sizeOf223
 v77:=Tryz.zeroValue223}
open Go.Ab
variable [Glob prog]
set_option maxRecDepth 100000
set_option maxHeartbeats 8000000
theorem dL1 (f:FuncId):MCall prog 195 [.ref 1000 0 0,nt .i64 0,nt .i64 0,.clo f []] [(1000,bP cF 3 0 [])] (fun r o'=>r= .tup []/\o'= [(1000,bP cF 3 0 [])]):=by
 refine dM func195 call195 rfl (by simp[ntmps195]) ?_;simp only[ntmps195,results195]
 repeat' (first|(refine aE fun _ _=>?_)|refine zHg ?_|simp(disch:=omega) [go_sem])
 refine bZ [0,1,2,3] [] (fun u:Unit=> [(8,nt .i64 1)]) (fun u:Unit=> []) (fun u:Unit=>0) (fun u:Unit=>True) (()) (Le.sub4 rfl (by simp[go_sem])) ⟨?_⟩ ?_
 ·trivial
 intro u hu AA hAA;simp only[kL,Nat.reduceBEq,Nat.reduceEqDiff]
 repeat' (first|(refine aE fun _ _=>?_)|refine zHg ?_|simp(disch:=omega) [go_sem])
 refine eW ⟨53,[],[(1000,bP cF 3 0 [])]⟩ [] (Le.renSub [] [] (by simp[go_sem]) (by simp[go_sem]) (Le.sub4 rfl (by simp[go_sem]))) (by simp[go_sem]) ⟨rfl,rfl⟩
theorem dL2 (f:FuncId):MCall prog 187 [.ref 1000 0 0,nt .i64 0,nt .i64 0,nt .i64 0,.clo f []] [(1000,bP cF 3 0 [])] (fun r o'=>r= .tup []/\o'= [(1000,bP cF 3 0 [])]):=by
 have hi:=dL1 f
 refine dM func187 call187 rfl (by simp[ntmps187]) ?_;simp only[ntmps187,results187]
 repeat' (first|(refine aE fun _ _=>?_)|refine zHg ?_|simp(disch:=omega) [go_sem])
 refine bZ [0,4] [] (fun u:Unit=> [(1,nt .i64 0),(2,nt .i64 0),(3,nt .i64 0),(10,bl true),(11,bl true)]) (fun u:Unit=> []) (fun u:Unit=>0) (fun u:Unit=>True) (()) (Le.sub4 rfl (by simp[go_sem])) ⟨?_⟩ ?_
 ·trivial
 intro u hu AA hAA;simp only[kL,Nat.reduceBEq,Nat.reduceEqDiff]
 repeat' (first|(refine aE fun _ _=>?_)|refine zHg ?_|simp(disch:=omega) [go_sem])
 refine bO [] [] 10000 _ _ (Fits.mk' (by simp[go_sem]) (by simp[go_sem])) (by simp[go_sem]) (by simp[go_sem]) (hi) (by simp[go_sem]) (by simp[go_sem]) ?_
 repeat' (first|(refine aE fun _ _=>?_)|refine zHg ?_|simp(disch:=omega) [go_sem])
 refine dN ⟨148,[],[(1000,bP cF 3 0 [])]⟩ [] (Le.renSub [] [] (by simp[go_sem]) (by simp[go_sem]) (Le.sub4 rfl (by simp[go_sem]))) (by simp[go_sem]) ⟨rfl,rfl⟩
theorem dL3 (f:FuncId):MCall prog 171 [.ref 1000 0 0,.clo f []] [(1000,bP cF 3 0 [])] (fun r o'=>r= .tup []/\o'= [(1000,bP cF 3 0 [])]):=by
 have hi:=dL2 f
 have hl:=aTm
 refine dM func171 call171 rfl (by simp[ntmps171]) ?_;simp only[ntmps171,results171]
 repeat' (first|(refine aE fun _ _=>?_)|refine zHg ?_|refine aI rfl (hl) (by simp) ?_|simp(disch:=omega) [go_sem])
 refine bO [] [] 10000 _ _ (Fits.mk' (by simp[go_sem]) (by simp[go_sem])) (by simp[go_sem]) (by simp[go_sem]) (hi) (by simp[go_sem]) (by simp[go_sem]) ?_
 repeat' (first|(refine aE fun _ _=>?_)|refine zHg ?_|simp(disch:=omega) [go_sem])
 refine eW ⟨14,[],[(1000,bP cF 3 0 [])]⟩ [] (Le.renSub [] [] (by simp[go_sem]) (by simp[go_sem]) (Le.sub4 rfl (by simp[go_sem]))) (by simp[go_sem]) ⟨rfl,rfl⟩
theorem dL4 {α:Type} {c:α->α->Int} (h:Tot c):Go.Sort.SWO (ltOf c) where
 irrefl x:=by
  unfold ltOf
  rw[decide_eq_false_iff_not,(h.zero x x).2 rfl]
  decide
 trans x y z h1 h2:=by
  unfold ltOf at*
  simp only[decide_eq_true_eq]at*
  obtain⟨g1,g2⟩:=h.tr x y z (by omega) (by omega)
  have: ¬c x z=0:=fun e=>by have:=(g2 e).1;omega
  omega
 ntrans x y z h1 h2:=by
  unfold ltOf at*
  simp only[decide_eq_false_iff_not,Int.not_lt]at*
  have a:=h.neg x y
  have b:=h.neg y z
  have d:=h.neg x z
  obtain⟨g1,g2⟩:=h.tr z y x (by omega) (by omega)
  omega
abbrev vH (e:Ed):List Value:= [.string e.fr,.string e.to,.bool e.neg]
theorem aU2:N2:=fun l hb=>by
 by_cases hl:l= []
 ·subst hl
  exact(dL3 _).mono fun r o' ⟨h1,h2⟩=>⟨[],⟨.refl _,.nil⟩,h1,h2⟩
 ·have h1: ∀x:Ed,∀v∈vH x,Go.Ab.one v=true:=fun x v hv=>by simp[vH]at hv;rcases hv with rfl|rfl|rfl<;>rfl
  have h2: ∀x:Ed,∀v∈vH x,jO v=true:=fun x v hv=>by simp[vH]at hv;rcases hv with rfl|rfl|rfl<;>rfl
  have h3: ∀x:Ed,∀v∈vH x,v.oneCell'=true:=fun x v hv=>by simp[vH]at hv;rcases hv with rfl|rfl|rfl<;>rfl
  have h:=bRh (P:=prog) (f:=171) (g:=150) vH (k:=3) (fun _=>rfl) h1 h2 (ltOf kM) 0 (by decide) l hl call171
   (fun blk cap w hH hblk=>by
    have h:=AnyQ.slices_SortFunc Tryz.srtE 3 (fun w=>(sD aE2 w).1) (fun w=>(sD aE2 w).2) vH (fun _=>rfl) h3 kM (dL4 yK) 150 #[] blk 0 cap l.toArray w call150
     (fun m os dk hs x y=>bRe vH h1 h2 kM (fun x y=> @dLo (Glob.none _) x y) x y _) hH hblk (by(try simp);omega)
    exact h)
  refine h.mono fun r o' ⟨m,⟨g1,g2⟩,g3,g4⟩=>⟨m,⟨g1,g2.imp fun {x y} hxy=>?_⟩,g3,g4⟩
  unfold ltOf at hxy
  simp only[decide_eq_false_iff_not,Int.not_lt]at hxy
  have:=yK.neg x y
  omega
theorem aG8 {α β:Type} {f:α->List β} {n:Nat}: ∀{l:List α},(∀r∈l,(f r).length<=n)->(l.flatMap f).length<=n*l.length
 | [],_=>by simp
 |a::l,h=>by
  have h1:=aG8 (f:=f) (n:=n) (l:=l) fun r hr=>h r (by simp[hr])
  have h2:=h a (by simp)
  simp only[List.flatMap_cons,List.length_append,List.length_cons,Nat.mul_add,Nat.mul_one]
  omega
theorem aU3 {l:List Rl} (hb: ∀r∈l,r.body.length<=8):(iS l).length<=8*l.length:=by
 unfold iS
 refine Nat.le_trans (aSb _) (aG8 fun r hr=>?_)
 unfold yL
 split
 ·simp
 ·rw[List.length_map]
  exact Nat.le_trans (List.length_filter_le _ _) (hb r hr)
theorem dL5 {l:List Rl} (hb: ∀r∈l,r.body.length<=8):(tF l).length<=9*l.length:=by
 unfold tF M3
 refine Nat.le_trans (aSb _) (Nat.le_trans (List.length_filter_le _ _) (aG8 fun r hr=>?_))
 simp only[List.length_map,dO,List.length_cons]
 have:=hb r hr
 omega
theorem dL6 {r:Rl} (h:mU r=0):r.body.length<=8:=by
 unfold mU at h
 by_cases h8:8<r.body.length
 ·rw[if_pos h8]at h;cases h
 ·omega
theorem aU4: ∀{l:List Rl} {i:Nat},uR l i=none-> ∀r∈l,mU r=0
 |r::q,i,h,x,hx=>by
  unfold uR at h
  by_cases h0:mU r=0
  ·rw[if_neg (by simpa using h0)]at h
   rcases List.mem_cons.1 hx with rfl|hx
   ·exact h0
   ·exact aU4 h x hx
  ·rw[if_pos h0]at h;cases h
theorem dL7 (es:List Ed):pZ es=0\/pZ es=10:=by
 unfold pZ
 split
 ·exact .inl rfl
 ·exact .inr rfl
def aU5:Prop:= ∀(l:List Rl) (le fu:Bool),l.length<=128->(∀r∈l,r.body.length<=8)->
 ACall prog 67 [.list le fu (l.map fP)] (fun v=>(pZ (iS l)=0/\ ∃xs,v= .tup [.own 2 xs,nt .i64 0])\/(pZ (iS l)=10/\v= .tup [.list false true [],nt .i64 10]))
theorem dL8 [KwG] (hR:aA2) (hV:aU5) (l:List Rl) (le fu:Bool) (hb: ∀r∈l,r.body.length<=1000000) (hh: ∀r∈l,r.head.size<=100) (hz: ∀r∈l,∀b∈r.body,b.atom.size<=100):
 ACall prog 32 [.list le fu (l.map fP)] (fun v=>v= .tup [nt .i64 (kV l).1,nt .i64 (kV l).2]):=by
 refine ACall.bound (i:=0) rfl call32 fun hbl=>?_
 rw[List.length_map]at hbl
 have hbl:l.length<=140737488355328:=hbl
 unfold kV
 by_cases h128:128<l.length
 ·rw[if_pos h128]
  have h1:(128:Int)<l.length:=by omega
  refine aX func32 call32 rfl (by simp[ntmps32]) ?_;simp only[ntmps32,results32]
  repeat' (first|(refine aE fun _ _=>?_)|refine zHg ?_|(refine aL [] ?_;simp[go_sem,h1])|simp(disch:=omega) [go_sem,h1])
 ·rw[if_neg h128]
  have h1: ¬(128:Int)<l.length:=by omega
  have hru: ∀(i:Nat) (hi:i<l.length),ACall prog 62 [fP l[i]] (fun v=>v=nt .i64 (mU l[i])):=fun i hi=>dKs _ (hb _ (List.getElem_mem hi)) (hh _ (List.getElem_mem hi)) (hz _ (List.getElem_mem hi))
  have hno:=aU4 (l:=l) (i:=0)
  generalize hE:uR l 0=E at*
  refine aX func32 call32 rfl (by simp[ntmps32]) ?_;simp only[ntmps32,results32]
  repeat' (first|(refine aE fun _ _=>?_)|refine zHg ?_|simp(disch:=omega) [go_sem,h1])
  refine bZ [0,14,15] [] (fun i:Nat=> [(16,nt .i64 i)]) (fun i:Nat=> []) (fun i:Nat=>l.length - i) (fun i:Nat=>i<=l.length/\uR (l.drop i) i=E) (0) (Le.sub4 rfl (by simp[go_sem])) ⟨?_⟩ ?_
  ·exact⟨Nat.zero_le _,hE⟩
  intro i ⟨hi,hd⟩ AA hAA;simp only[kL,Nat.reduceBEq,Nat.reduceEqDiff]
  try dsimp only at*
  by_cases hlt:i<l.length
  ·have hr:=hru i hlt
   rw[List.drop_eq_getElem_cons hlt,uR]at hd
   generalize hbi:l[i]=r at*
   by_cases h0:mU r=0
   ·rw[if_neg (by simpa using h0)]at hd
    rw[h0]at hr
    repeat' (first|(refine aE fun _ _=>?_)|refine zHg ?_|refine aI rfl (hr) (by simp) ?_|(refine(hAA.next (i+1) (Le.sub4 rfl (by simp[go_sem])) (by(try dsimp only);omega) ?_))|simp(disch:=omega) [go_sem,hlt,hbi])
    try any_goals omega
    all_goals exact⟨hlt,hd⟩
   ·rw[if_pos h0]at hd
    subst hd
    generalize mU r=z at*
    repeat' (first|(refine aE fun _ _=>?_)|refine zHg ?_|(refine aL [] ?_;simp[go_sem,hlt,hbi,h0])|refine aI rfl (hr) (by simp) ?_|simp(disch:=omega) [go_sem,hlt,hbi,h0])
  ·obtain rfl:i=l.length:=by omega
   rw[List.drop_length,uR]at hd
   subst hd
   have hr0:=hno rfl
   have h8: ∀r∈l,r.body.length<=8:=fun r hr=>dL6 (hr0 r hr)
   have hdf:=dK1 l le fu (by omega) h8
   have hro:=aUb l le fu (by omega) (fun r hr=>Nat.le_trans (hh r hr) (by decide))
   have hch:=dK0 l le fu (by omega) (fun r hr=>Nat.le_trans (hh r hr) (by decide))
   have hdp:=dLy aU2 hR l le fu (by omega) h8 (by have:=aU3 h8;omega)
   have hlv:=hV l le fu (by omega) h8
   have hl01:=dL7 (iS l)
   generalize tE [] l 0=D at*
   generalize oI l=R at*
   generalize C2 l=c at*
   generalize M4 l=b at*
   generalize pZ (iS l)=v at*
   have hlenT:True:=trivial
   cases D with
   |some j=>
    unfold C9 at hdf
    dsimp only at hdf
    repeat' (first|(refine aE fun _ _=>?_)|refine zHg ?_|(refine aL [] ?_;simp[go_sem])|refine aI rfl (hdf) (by simp) ?_|simp(disch:=omega) [go_sem])
   |none=>
    unfold C9 at hdf
    dsimp only at hdf
    by_cases hc:R.length=0\/4<R.length\/(R.length=1/\c=0)
    ·by_cases c1:R.length=0
     ·have d1:(R.length:Int)=0:=by omega
      repeat' (first|(refine aE fun _ _=>?_)|refine zHg ?_|(refine aL [] ?_;simp[go_sem,hc,c1,d1])|refine aI rfl (hdf) (by simp) ?_|refine aI rfl (hro) (by simp) ?_|simp(disch:=omega) [go_sem,hc,c1,d1])
     ·have d1: ¬(R.length:Int)=0:=by omega
      by_cases c2:4<R.length
      ·have d2:(4:Int)<R.length:=by omega
       repeat' (first|(refine aE fun _ _=>?_)|refine zHg ?_|(refine aL [] ?_;simp[go_sem,hc,c1,d1,c2,d2])|refine aI rfl (hdf) (by simp) ?_|refine aI rfl (hro) (by simp) ?_|simp(disch:=omega) [go_sem,hc,c1,d1,c2,d2])
      ·have d2: ¬(4:Int)<R.length:=by omega
       obtain⟨c3,c4⟩:R.length=1/\c=0:=by omega
       have d3:(R.length:Int)=1:=by omega
       subst c4
       repeat' (first|(refine aE fun _ _=>?_)|refine zHg ?_|(refine aL [] ?_;simp[go_sem,hc,c1,d1,c2,d2,c3,d3])|refine aI rfl (hdf) (by simp) ?_|refine aI rfl (hro) (by simp) ?_|refine aI rfl (hch) (by simp) ?_|simp(disch:=omega) [go_sem,hc,c1,d1,c2,d2,c3,d3])
    ·have c1: ¬R.length=0:=fun e=>hc (.inl e)
     have hnil: ¬R= []:=fun e=>c1 (by rw[e];rfl)
     have c2: ¬4<R.length:=fun e=>hc (.inr (.inl e))
     have d1: ¬(R.length:Int)=0:=by omega
     have d2: ¬(4:Int)<R.length:=by omega
     by_cases c3:R.length=1
     ·have d3:(R.length:Int)=1:=by omega
      have c4: ¬c=0:=fun e=>hc (.inr (.inr ⟨c3,e⟩))
      cases b
      ·repeat' (first|(refine aE fun _ _=>?_)|refine zHg ?_|refine aI rfl (hdf) (by simp) ?_|refine aI rfl (hro) (by simp) ?_|refine aI rfl (hch) (by simp) ?_|refine aI rfl (hdp) (by simp) ?_|simp(disch:=omega) [go_sem,hc,c1,d1,c2,d2,c3,d3,c4])
       rcases hl01 with rfl|rfl
       ·have hlv:ACall prog 67 [.list le fu (l.map fP)] (fun v=> ∃xs,v= .tup [.own 2 xs,nt .i64 0]):=hlv.mono fun r h=>by
         rcases h with⟨_,h⟩|⟨h,_⟩
         ·exact h
         ·exact absurd h (by decide)
        refine aC1 [] _ rfl rfl hlv (by simp) fun x hx=>?_
        obtain⟨xs,rfl⟩:=hx
        repeat' (first|(refine aE fun _ _=>?_)|refine zHg ?_|(refine aL [] ?_;simp[go_sem])|simp(disch:=omega) [go_sem])
        simp[hnil,c2,c3,c4]
       ·have hlv:ACall prog 67 [.list le fu (l.map fP)] (fun v=>v= .tup [.list false true [],nt .i64 10]):=hlv.mono fun r h=>by
         rcases h with⟨h,_⟩|⟨_,h⟩
         ·exact absurd h (by decide)
         ·exact h
        repeat' (first|(refine aE fun _ _=>?_)|refine zHg ?_|(refine aL [] ?_;simp[go_sem])|refine aI rfl (hlv) (by simp) ?_|simp(disch:=omega) [go_sem])
        simp[hnil,c2,c3,c4]
      ·repeat' (first|(refine aE fun _ _=>?_)|refine zHg ?_|(refine aL [] ?_;simp[go_sem,hc,c1,d1,c2,d2,c3,d3,c4])|refine aI rfl (hdf) (by simp) ?_|refine aI rfl (hro) (by simp) ?_|refine aI rfl (hch) (by simp) ?_|refine aI rfl (hdp) (by simp) ?_|simp(disch:=omega) [go_sem,hc,c1,d1,c2,d2,c3,d3,c4])
     ·have d3: ¬(R.length:Int)=1:=by omega
      cases b
      ·repeat' (first|(refine aE fun _ _=>?_)|refine zHg ?_|refine aI rfl (hdf) (by simp) ?_|refine aI rfl (hro) (by simp) ?_|refine aI rfl (hdp) (by simp) ?_|simp(disch:=omega) [go_sem,hc,c1,d1,c2,d2,c3,d3])
       rcases hl01 with rfl|rfl
       ·have hlv:ACall prog 67 [.list le fu (l.map fP)] (fun v=> ∃xs,v= .tup [.own 2 xs,nt .i64 0]):=hlv.mono fun r h=>by
         rcases h with⟨_,h⟩|⟨h,_⟩
         ·exact h
         ·exact absurd h (by decide)
        refine aC1 [] _ rfl rfl hlv (by simp) fun x hx=>?_
        obtain⟨xs,rfl⟩:=hx
        repeat' (first|(refine aE fun _ _=>?_)|refine zHg ?_|(refine aL [] ?_;simp[go_sem])|simp(disch:=omega) [go_sem])
        simp[hnil,c2,c3]
       ·have hlv:ACall prog 67 [.list le fu (l.map fP)] (fun v=>v= .tup [.list false true [],nt .i64 10]):=hlv.mono fun r h=>by
         rcases h with⟨h,_⟩|⟨_,h⟩
         ·exact absurd h (by decide)
         ·exact h
        repeat' (first|(refine aE fun _ _=>?_)|refine zHg ?_|(refine aL [] ?_;simp[go_sem])|refine aI rfl (hlv) (by simp) ?_|simp(disch:=omega) [go_sem])
        simp[hnil,c2,c3]
      ·repeat' (first|(refine aE fun _ _=>?_)|refine zHg ?_|(refine aL [] ?_;simp[go_sem,hc,c1,d1,c2,d2,c3,d3])|refine aI rfl (hdf) (by simp) ?_|refine aI rfl (hro) (by simp) ?_|refine aI rfl (hdp) (by simp) ?_|simp(disch:=omega) [go_sem,hc,c1,d1,c2,d2,c3,d3])
theorem dL9:aU5:=fun l le fu hl hb=>dL0 aU2 l le fu (by omega) hb (by have:=dL5 hb;omega) (by have:=aU3 hb;omega)
abbrev Gs:Type:=List (ByteArray×List ByteArray)
abbrev rB:Nat:=1000000000
def qB (es:List Ed):Gs:=es.foldl (fun gs e=>dZ gs e.fr e.to) []
theorem dMa {es:List Ed} {i:Nat} (h:i<es.length):qB (es.take (i+1))=dZ (qB (es.take i)) es[i].fr es[i].to:=by
 unfold qB
 rw[List.take_succ_eq_append_getElem h,List.foldl_append]
 rfl
theorem dMb (es:List Ed) (s:ByteArray):gP (qB es) s=lJ es s:=by
 have h: ∀(l:List Ed) (gs:Gs),gP (l.foldl (fun gs e=>dZ gs e.fr e.to) gs) s=gP gs s++lJ l s:=by
  intro l
  induction l with
  |nil=>intro gs;simp[lJ]
  |cons e l ih=>
   intro gs
   rw[List.foldl_cons,ih,aEs]
   unfold lJ
   by_cases h:e.fr=s
   ·simp[h]
   ·simp[h]
 have:=h es []
 simpa[gP,qB]using this
theorem dMc (es:List Ed) (le fu:Bool) (hb:es.length<=1000000):MCall prog 154 [.list le fu (es.map cF)] [] (fun r o'=>r= .mp 1000/\o'= [(1000,rP aY (qB es))]):=by
 refine dM func154 call154 rfl (by simp[ntmps154]) ?_;simp only[ntmps154,results154]
 repeat' (first|(refine aE fun _ _=>?_)|refine zHg ?_|simp(disch:=omega) [go_sem])
 refine bZ [3,7,8] [6] (fun y:Nat×Gs=> [(9,nt .i64 y.1)]) (fun y:Nat×Gs=> [(6,gB rB y.2)]++cQ aY 1 rB y.2) (fun y:Nat×Gs=>es.length - y.1) (fun y:Nat×Gs=>y.1<=es.length/\y.2=qB (es.take y.1)/\y.2.length<=y.1/\ ∀g∈y.2,g.2.length<=y.1) ((0,[])) (by refine Le.trans ?_ (Le.rmap 6 rfl);exact(Le.sub4 rfl (by simp[go_sem,gB,cQ,dG]))) ⟨?_⟩ ?_
 ·exact⟨Nat.zero_le _,rfl,Nat.le_refl _,fun g hg=>by cases hg⟩
 intro⟨i,gs⟩ ⟨hi,hgs,hlg,hrl⟩ AA hAA;simp only[kL,Nat.reduceBEq,Nat.reduceEqDiff]
 try dsimp only at*
 by_cases hlt:i<es.length
 ·have hnx:=dMa hlt
  rw[<-hgs]at hnx
  have hnl:=aEu (k:=es[i].fr) (x:=es[i].to) (gs:=gs)
  have hnr:=aEv (k:=es[i].fr) (x:=es[i].to) hrl
  generalize hbi:es[i]=e at*
  obtain⟨fr,to,neg⟩:=e
  dsimp only at*
  have hk0: ∀L,L<1000->killO L (cQ aY 1 rB gs)=cQ aY 1 rB gs:=fun L _=>V8
  have hk1: ∀L,L<1000->(dG rB gs).map (kill1 L)=dG rB gs:=fun L h=>W1 (Nat.lt_trans h (by decide))
  repeat' (first|((fail_if_success (refine aLo ?_));refine aD9 (fun K hK=>?_))|refine zHg ?_|simp(disch:=omega) [go_sem,hlt,hbi,cF,hk0,hk1])
  rcases aEt gs fr with hno|⟨j,hj,h1,h2⟩
  ·have hg:=aEw (b:=rB) (k:=0) hno
   have hp: ∀v,fK (.string fr) v (dG rB gs)=some (dG rB gs++ [.tup [.sc (.string fr),v]]):=fun v=>by
    unfold fK
    rw[hg]
   have hrl:(dG rB gs).length<=140737488355327:=by rw[wI];omega
   have t1: ∀L,L<1000->lk (cQ aY 1 rB gs) L=none:=fun L h=>V9 (Nat.lt_trans h (by decide))
   have t3: ∀L,L<1000->cW (cQ aY 1 rB gs) L=cQ aY 1 rB gs:=fun L h=>W0 (Nat.lt_trans h (by decide))
   have t7: ∀p∈cQ aY 1 rB gs,p.2.pin=false:=fun p hp=>by
    obtain⟨i,hi,rfl⟩:=J8 hp
    rfl
   have t5:=J9 (en:=aY) (es:=1) (b:=rB) (gs:=gs)
   have t6: ∀i (hi:i<gs.length),lk (cQ aY 1 rB gs) (rB+i)=some (kQ aY 1 gs[i].2):=fun i hi=>by rw[rQ,List.getElem?_eq_getElem hi];rfl
   generalize hT:cQ aY 1 rB gs=T at*
   refine S3 (s0:=⟨26,[(5,.ptr 5 0 0),(9,nt .i64 i),(8,nt .i64 es.length),(7,.list le fu (es.map cF)),(3,.mp 6)],[(5,⟨false,true,false,3,[cF ⟨fr,to,neg⟩],0⟩)]++(6,gB rB gs)::T⟩) ?_ ?_
   ·refine Le.trans ?_ (Le.frzP 5 rfl (by intro h;cases h))
    refine Le.rowsSub0 (en:=aY) (es:=1) rfl (fun i hi=>?_) (by rw[hT];exact fun p h=>h) t5 ?_ ?_ ?_ ?_
    ·have e1: ¬5=rB+i:=by simp only[rB];omega
     have e2: ¬6=rB+i:=by simp only[rB];omega
     simp[go_sem,e1,e2,t6 i hi,A6]
    all_goals simp[go_sem,cF]
   simp only[List.cons_append,List.nil_append]
   repeat' (first|(refine aE fun _ _=>?_)|refine zHg ?_|(with_reducible refine eO ?_;first|(exact eL)|(refine zSkip ?_)|(refine eM rfl ?_ ?_))|(with_reducible refine eN ?_;first|(refine zDone ?_)|(refine zQu 0 rfl rfl rfl rfl ?_)|(refine zQu 1 rfl rfl rfl rfl ?_)|(refine zQu 2 rfl rfl rfl rfl ?_)|(refine zQu 3 rfl rfl rfl rfl ?_)|(refine zQu 4 rfl rfl rfl rfl ?_)|(refine zQu 5 rfl rfl rfl rfl ?_)|(refine zQu 7 rfl rfl rfl rfl ?_)|(refine zQu 8 rfl rfl rfl rfl ?_)|(refine zAll ?_;show dR _ _ _ _ _ _ _))|with_reducible refine eJ ?_|simp(disch:=omega) [go_sem,hg,hp,hk0,hk1,t1,t3,hrl,cF,gB]|refine zAny bA ?_|fail)
   all_goals(
    refine hAA.next (i+1,dZ gs fr to) ?_ (by(try dsimp only);omega) ⟨⟨hlt,hnx.symm,by(try dsimp only);omega,hnr⟩⟩
    show Le ⟨26,[(9,nt .i64 ((i+1:Nat):Int)),(8,nt .i64 es.length),(7,.list le fu (es.map cF)),(3,.mp 6)],[]++(6,gB rB (dZ gs fr to))::(cQ aY 1 rB (dZ gs fr to)++ [])⟩ _
    refine Le.rowsNo (d:=23) hno (by decide) (by decide) (by decide) rfl rfl rfl (fun M hM=>?_) (fun p h1 h2=>?_) (by simp) (by simp) (by simp[go_sem]) (fun σ hσ=>?_) (by simp[go_sem]) (by simp)
    ·have e1: ¬6=M:=by simp only[rB]at hM;omega
     have e2: ¬23=M:=by simp only[rB]at hM;omega
     have e3: ¬22=M:=by simp only[rB]at hM;omega
     have e4: ¬5=M:=by simp only[rB]at hM;omega
     simp[lk,e1,e2,e3,e4,hT]
    ·exfalso
     have h3:p.2.pin=false:=by
      clear h2
      revert p
      repeat' (first|exact t7|(refine List.forall_mem_cons.2 ⟨rfl,?_⟩))
     rw[h3]at h2
     cases h2
    ·have h6:=hσ 6 (by decide) (by decide)
     simp[AV.ren,h6,aDb])
  ·have hg0:=aEx (b:=rB) (k:=0) hj h1 h2
   have hop:=aM5 (en:=aY) (es:=1) (b:=rB) hj
   obtain⟨vK,hgK⟩:=aEy (J:=rB+j) (b:=rB) (k:=0) hj h1 h2
   have hsK:=fun v=>aEz (v:=v) (b:=rB) hj
   have hkK:=aE0 (J:=rB+j) (b:=rB) (gs:=gs)
   have hp: ∀v,fK (.string fr) v ((dG rB gs).map (kill1 (rB+j)))=some ((dG rB gs).set j (.tup [.sc (.string fr),v])):=fun v=>by
    unfold fK
    rw[hgK,Nat.zero_add]
    simp only[hsK]
   obtain⟨t1,t2,t3,t4⟩:=aM3 (en:=aY) (es:=1) (gs:=gs) (b:=rB) (J:=rB+j)
   have t6: ∀i (hi:i<gs.length),lk (cQ aY 1 rB gs) (rB+i)=some (kQ aY 1 gs[i].2):=fun i hi=>by rw[rQ,List.getElem?_eq_getElem hi];rfl
   have hrj:=hrl gs[j] (List.getElem_mem hj)
   have hrl:(dG rB gs).length<=140737488355328:=by rw[wI];omega
   have hrl2: ∀v,((dG rB gs).set j v).length<=140737488355328:=fun v=>by rw[List.length_set,wI];omega
   generalize hJ:rB+j=J at*
   have hJ1: ∀L,L<1000-> ¬L=J:=fun L h e=>by subst hJ;simp only[rB]at e;omega
   have hJ2: ∀L,L<1000-> ¬J=L:=fun L h e=>hJ1 L h e.symm
   have t1': ∀L,L<1000->lk (cW (cQ aY 1 rB gs) J) L=none:=fun L h=>t1 L (Nat.lt_trans h (by decide))
   have t3': ∀L,L<1000->cW (cW (cQ aY 1 rB gs) J) L=cW (cQ aY 1 rB gs) J:=fun L h=>t3 L (Nat.lt_trans h (by decide))
   refine S3 (s0:=⟨26,[(5,.ptr 5 0 0),(9,nt .i64 i),(8,nt .i64 es.length),(7,.list le fu (es.map cF)),(3,.mp 6)],[(5,⟨false,true,false,3,[cF ⟨fr,to,neg⟩],0⟩)]++(6,gB rB gs)::(J,kQ aY 1 gs[j].2)::cW (cQ aY 1 rB gs) J⟩) ?_ ?_
   ·refine Le.trans ?_ (Le.frzP 5 rfl (by intro h;cases h))
    refine Le.rowsSub0 (en:=aY) (es:=1) rfl (fun i hi=>?_) hop.1 hop.2 ?_ ?_ ?_ ?_
    ·have e1: ¬5=rB+i:=by simp only[rB];omega
     have e2: ¬6=rB+i:=by simp only[rB];omega
     simp[go_sem,e1,e2,t6 i hi,A6]
    all_goals simp[go_sem,cF]
   generalize hr:gs[j].2=r at*
   generalize hT:cW (cQ aY 1 rB gs) J=T at*
   simp only[List.cons_append,List.nil_append]
   repeat' (first|(refine aE fun _ _=>?_)|refine zHg ?_|(with_reducible refine eO ?_;first|(exact eL)|(refine zSkip ?_)|(refine eM rfl ?_ ?_))|(with_reducible refine eN ?_;first|(refine zDone ?_)|(refine zQu 0 rfl rfl rfl rfl ?_)|(refine zQu 1 rfl rfl rfl rfl ?_)|(refine zQu 2 rfl rfl rfl rfl ?_)|(refine zQu 3 rfl rfl rfl rfl ?_)|(refine zQu 4 rfl rfl rfl rfl ?_)|(refine zQu 5 rfl rfl rfl rfl ?_)|(refine zQu 7 rfl rfl rfl rfl ?_)|(refine zQu 8 rfl rfl rfl rfl ?_)|(refine zAll ?_;show dR _ _ _ _ _ _ _))|with_reducible refine eJ ?_|simp(disch:=omega) [go_sem,hg0,hp,hJ1,hJ2,hk1,hkK,t2,t4,hrl,hrl2,t1',t3',cF,gB,kQ,Nat.zero_add]|refine zAo ?_|refine zAny bA ?_|fail)
   all_goals(
    refine hAA.next (i+1,dZ gs fr to) ?_ (by(try dsimp only);omega) ⟨⟨hlt,hnx.symm,by(try dsimp only);omega,hnr⟩⟩
    show Le ⟨26,[(9,nt .i64 ((i+1:Nat):Int)),(8,nt .i64 es.length),(7,.list le fu (es.map cF)),(3,.mp 6)],[]++(6,gB rB (dZ gs fr to))::(cQ aY 1 rB (dZ gs fr to)++ [])⟩ _
    refine Le.rowsYes hj h1 h2 (by rw[hJ,hr]) rfl (by rw[hr]) (by rw[hJ];simp[lk,hJ1,aY]) (fun M hM hM2=>?_) (by simp) (by simp[go_sem]) (by simp[go_sem]) (by simp)
    rw[hJ]at hM2 ⊢
    rw[hT]
    have e0: ¬J=M:=fun e=>hM2 e.symm
    have e1: ¬6=M:=by simp only[rB]at hM;omega
    have e2: ¬23=M:=by simp only[rB]at hM;omega
    have e3: ¬22=M:=by simp only[rB]at hM;omega
    have e4: ¬5=M:=by simp only[rB]at hM;omega
    simp[lk,e0,e1,e2,e3,e4])
 ·obtain rfl:i=es.length:=by omega
  rw[List.take_length]at hgs
  subst hgs
  have t6: ∀i (hi:i<(qB es).length),lk (cQ aY 1 rB (qB es)) (rB+i)=some (kQ aY 1 (qB es)[i].2):=fun i hi=>by rw[rQ,List.getElem?_eq_getElem hi];rfl
  repeat' (first|(refine aE fun _ _=>?_)|refine zHg ?_|simp(disch:=omega) [go_sem])
  refine dN ⟨26,[(2,.mp 1000)],[(1000,rP aY (qB es))]⟩ [.mp 1000] ?_ (by simp[go_sem]) ⟨rfl,rfl⟩
  refine Le.trans (b:=⟨26,[(2,.mp 6)],[(6,rP aY (qB es))]⟩) (Le.renSub [(6,1000),(1000,6)] [(1000,6),(6,1000)] (by simp[go_sem]) (by simp[go_sem]) (Le.sub4 rfl (by simp[go_sem]))) ?_
  refine Le.rowsEnd (en:=aY) (es:=1) (b:=rB) (A:= []) (by decide) rfl (fun i hi=>?_) (by simp) (by simp[go_sem]) (by simp[go_sem]) (by simp)
  have e1: ¬6=rB+i:=by simp only[rB];omega
  simp[lk,e1,t6 i hi]
theorem aU6 (p:List ByteArray) (le fu:Bool) (hb:p.length<=1000000):ACall prog 177 [.list le fu (p.map aY)] (fun r=>r= .own 1 (p.map aY)):=by
 cases p with
 |nil=>
  refine ACall.own_nil ?_
  simp only[List.map_nil]
  refine aX func177 call177 rfl (by simp[ntmps177]) ?_;simp only[ntmps177,results177]
  repeat' (first|(refine aE fun _ _=>?_)|refine zHg ?_|(refine aL [] ?_;simp[go_sem])|simp(disch:=omega) [go_sem]|(refine dL fun bq=>?_)|(refine zqs ?_ ?_<;>(intro h;((try simp only[h]);(try simp at h)))))
 |cons x l=>
  simp only[List.map_cons,List.length_cons]at*
  refine aX func177 call177 rfl (by simp[ntmps177]) ?_;simp only[ntmps177,results177]
  repeat' (first|(refine aE fun _ _=>?_)|refine zHg ?_|(refine aL [] ?_;simp[go_sem,aY])|simp(disch:=omega) [go_sem,aY]|refine zAo ?_|fail)
  try any_goals omega
theorem aU7 {α:Type} (S:List α):S= []\/ ∃(S':List α) (x:α),S=S'++ [x]:=by
 rcases List.eq_nil_or_concat S with h|⟨L,b,h⟩
 ·exact .inl h
 ·exact .inr ⟨L,b,by rw[h,List.concat_eq_append]⟩
abbrev qZ (gs:Gs):AObj:=⟨true,false,true,0,gs.map (dS aY),1⟩
theorem dMd (es:List Ed) (gs:Gs) (s:ByteArray) (hb:es.length<=1000000) (hg: ∀x,gP gs x=lJ es x):MCall prog 153 [.mp 1000,.sc (.string s)] [(1000,qZ gs)]
 (fun r o'=> ∃R:List ByteArray,(R.Nodup/\(R.length<=es.length/\ ∀x,x∈R↔Rch es s x))/\r= .mp 1001/\o'= [(1000,qZ gs),(1001,fJ R)]):=by
 have hcl:=aU6 (lJ es s) false false (Nat.le_trans (M6 es s) hb)
 have hc0:=aU6 [] false true (Nat.zero_le _)
 have hst:=dJm es s
 have hs1:(lJ es s).length<=1000000:=Nat.le_trans (M6 es s) hb
 rw[List.map_nil]at hc0
 have hge:=V7 (en:=aY) gs s
 rw[hg]at hge
 generalize lJ es s=N at*
 refine dM func153 call153 rfl (by simp[ntmps153]) ?_;simp only[ntmps153,results153]
 have hge:(∃j v,dD (.string s) (gs.map (dS aY)) 0=some (some (j,v))/\v= .list false false (N.map aY)/\True)\/(dD (.string s) (gs.map (dS aY)) 0=some none/\N= []):=by
  rcases hge with h|⟨j,h⟩
  ·exact .inr h
  ·exact .inl ⟨j,_,h,rfl,trivial⟩
 rcases hge with⟨j,v,h1,rfl,hN⟩|⟨h1,hN⟩
 all_goals repeat' (first|(refine aE fun _ _=>?_)|refine zHg ?_|refine aI rfl (hcl) (by simp) ?_|refine aI rfl (hc0) (by simp) ?_|simp(disch:=omega) [go_sem,qZ,h1])
 all_goals refine bZ [0,5] [8,12] (fun y:List ByteArray×List ByteArray×List ByteArray=> [(6,.ref 12 0 y.2.1.length)]) (fun y:List ByteArray×List ByteArray×List ByteArray=> [(8,fJ y.1),(12,⟨true,false,false,1,(y.2.1++y.2.2).map aY,0⟩)]) (fun y:List ByteArray×List ByteArray×List ByteArray=>yT es y.1 y.2.1) (fun y:List ByteArray×List ByteArray×List ByteArray=>uZ es s y.1 y.2.1/\y.2.1.length<=(y.1.length+1)*1000000) (([],N,[])) (Le.sub4 rfl (by simp[go_sem,fJ,hN,List.map_nil,List.append_nil,List.length_nil])) ⟨?_⟩ ?_
 all_goals(first|exact⟨hst,by(try dsimp only);simp;omega⟩|skip)
 all_goals intro⟨R,S,J⟩ ⟨hi,hl⟩ AA hAA;simp only[kL,Nat.reduceBEq,Nat.reduceEqDiff]
 all_goals(try dsimp only at*)
 all_goals(clear hcl hc0 hst hs1 h1 hN)
 ·rcases aU7 S with rfl|⟨S',x,rfl⟩
  ·have hdn:=aTp hi
   have hln:=M7 hi
   repeat' (first|(refine aE fun _ _=>?_)|refine zHg ?_|simp(disch:=omega) [go_sem,fJ])
   refine dN ⟨39,[(4,.mp 1001)],[(1000,qZ gs),(1001,fJ R)]⟩ [.mp 1001] (Le.renSub [(8,1001),(1001,8)] [(1001,8),(8,1001)] (by simp[go_sem,fJ]) (by simp[go_sem,fJ]) (Le.sub4 rfl (by simp[go_sem,fJ]))) (by simp[go_sem,fJ]) ⟨R,⟨hi.1,hln,hdn⟩,rfl,rfl⟩
  ·have hlnR:=M7 hi
   have hSl:(S'++ [x]).length=S'.length+1:=by simp
   rw[hSl]at hl ⊢
   have hW0:((S'++ [x])++J).map aY=S'.map aY++aY x::J.map aY:=by simp
   have hW1: ∀h:S'.length<(S'.map aY++aY x::J.map aY).length,(S'.map aY++aY x::J.map aY)[S'.length]= .sc (.string x):=fun h=>by
    rw[List.getElem_append_right (by simp)];simp[aY]
   have hW2:dC (S'.map aY++aY x::J.map aY) 0 S'.length=S'.map aY:=by
    rw[I3]
    split
    ·rename_i h
     have h2:=h.2
     simp at h2
    ·simp
   have hW3:(S'.map aY++aY x::J.map aY).length=S'.length+(J.length+1):=by simp
   rw[hW0]
   generalize hW:S'.map aY++aY x::J.map aY=W at*
   have hW':S'.map aY++AV.sc (.string x)::J.map aY=W:=hW
   have hRl:R.length<=140737488355327:=by omega
   by_cases hx:x∈R
   ·obtain⟨j,hj,h1,h2⟩:=(M9 R x).resolve_left fun h=>h hx
    have hk:=N1 (i:=0) hj h1 h2
    have hin:=aTn hi hx
    have hms:=aTq es R S' x
    repeat' (first|(refine aE fun _ _=>?_)|refine zHg ?_|refine(hAA.next (R,S',x::J) (Le.sub4 rfl (by simp[go_sem,fJ,hW',aY])) hms ?_)|simp(disch:=omega) [go_sem,fJ,hW1,hW2,hW3,hk,aY]|refine zAo ?_|fail)
    exact⟨hin,by(try dsimp only);omega⟩
   ·have hk:=N0 (i:=0) hx
    have hp:=aA1 R x
    have hadd:oN R x=R++ [x]:=by unfold oN;rw[yM.2 hx];rfl
    rw[hadd]at hp
    have hin:=aTo hi hx
    have hms:=aTr hin
    have hnl:=M6 es x
    have hge:=V7 (en:=aY) gs x
    rw[hg]at hge
    generalize lJ es x=N at*
    rcases hge with⟨h1,rfl⟩|⟨j,h1⟩
    all_goals repeat' (first|(refine aE fun _ _=>?_)|refine zHg ?_|refine(hAA.next (R++ [x],S'++_,[]) (Le.sub4 rfl (by simp[go_sem,fJ,hW',aY])) hms ?_)|simp(disch:=omega) [go_sem,fJ,hW1,hW2,hW3,hRl,hk,hp,h1,aY]|refine zAo ?_|fail)
    try any_goals omega
    all_goals exact⟨hin,by(try simp);omega⟩
 ·rcases aU7 S with rfl|⟨S',x,rfl⟩
  ·have hdn:=aTp hi
   have hln:=M7 hi
   repeat' (first|(refine aE fun _ _=>?_)|refine zHg ?_|simp(disch:=omega) [go_sem,fJ])
   refine dN ⟨39,[(4,.mp 1001)],[(1000,qZ gs),(1001,fJ R)]⟩ [.mp 1001] (Le.renSub [(8,1001),(1001,8)] [(1001,8),(8,1001)] (by simp[go_sem,fJ]) (by simp[go_sem,fJ]) (Le.sub4 rfl (by simp[go_sem,fJ]))) (by simp[go_sem,fJ]) ⟨R,⟨hi.1,hln,hdn⟩,rfl,rfl⟩
  ·have hlnR:=M7 hi
   have hSl:(S'++ [x]).length=S'.length+1:=by simp
   rw[hSl]at hl ⊢
   have hW0:((S'++ [x])++J).map aY=S'.map aY++aY x::J.map aY:=by simp
   have hW1: ∀h:S'.length<(S'.map aY++aY x::J.map aY).length,(S'.map aY++aY x::J.map aY)[S'.length]= .sc (.string x):=fun h=>by
    rw[List.getElem_append_right (by simp)];simp[aY]
   have hW2:dC (S'.map aY++aY x::J.map aY) 0 S'.length=S'.map aY:=by
    rw[I3]
    split
    ·rename_i h
     have h2:=h.2
     simp at h2
    ·simp
   have hW3:(S'.map aY++aY x::J.map aY).length=S'.length+(J.length+1):=by simp
   rw[hW0]
   generalize hW:S'.map aY++aY x::J.map aY=W at*
   have hW':S'.map aY++AV.sc (.string x)::J.map aY=W:=hW
   have hRl:R.length<=140737488355327:=by omega
   by_cases hx:x∈R
   ·obtain⟨j,hj,h1,h2⟩:=(M9 R x).resolve_left fun h=>h hx
    have hk:=N1 (i:=0) hj h1 h2
    have hin:=aTn hi hx
    have hms:=aTq es R S' x
    repeat' (first|(refine aE fun _ _=>?_)|refine zHg ?_|refine(hAA.next (R,S',x::J) (Le.sub4 rfl (by simp[go_sem,fJ,hW',aY])) hms ?_)|simp(disch:=omega) [go_sem,fJ,hW1,hW2,hW3,hk,aY]|refine zAo ?_|fail)
    exact⟨hin,by(try dsimp only);omega⟩
   ·have hk:=N0 (i:=0) hx
    have hp:=aA1 R x
    have hadd:oN R x=R++ [x]:=by unfold oN;rw[yM.2 hx];rfl
    rw[hadd]at hp
    have hin:=aTo hi hx
    have hms:=aTr hin
    have hnl:=M6 es x
    have hge:=V7 (en:=aY) gs x
    rw[hg]at hge
    generalize lJ es x=N at*
    rcases hge with⟨h1,rfl⟩|⟨j,h1⟩
    all_goals repeat' (first|(refine aE fun _ _=>?_)|refine zHg ?_|refine(hAA.next (R++ [x],S'++_,[]) (Le.sub4 rfl (by simp[go_sem,fJ,hW',aY])) hms ?_)|simp(disch:=omega) [go_sem,fJ,hW1,hW2,hW3,hRl,hk,hp,h1,aY]|refine zAo ?_|fail)
    try any_goals omega
    all_goals exact⟨hin,by(try simp);omega⟩
theorem dMe:aA2:=by
 intro es s le fu hb
 have hf:=dMc es le fu hb
 have hr:=fun s=>dMd es (qB es) s hb (dMb es)
 have hasc:=fun ks h1 h2=>aUl ks (fun _=> .bool true) h1 h2
 refine aX func116 call116 rfl (by simp[ntmps116]) ?_;simp only[ntmps116,results116]
 repeat' (first|(refine aE fun _ _=>?_)|refine zHg ?_|simp(disch:=omega) [go_sem])
 refine bO [] [] 10000 _ _ (Fits.mk' (by simp[go_sem,dS]) (by simp[go_sem,dS])) (by simp[go_sem,dS]) (by simp[go_sem,dS]) (hf) (by simp[go_sem,dS]) (by simp[go_sem,dS]) ?_
 repeat' (first|(refine aE fun _ _=>?_)|refine zHg ?_|simp(disch:=omega) [go_sem])
 refine iE [(1000,11000)] [(11000,1000)] 20000 _ _ (Fits.mk' (by simp[go_sem,qZ]) (by simp[go_sem,qZ])) (by simp[go_sem,qZ]) (by simp[go_sem,qZ]) (hr s) (by simp[go_sem,qZ]) (by intros;simp[go_sem,qZ]) ?_;intro R hR
 obtain⟨hn,hl,hm⟩:=hR
 have ha:=hasc R (by omega) hn
 have e:gX dF R=lZ es s:=B7 tD fun x=>(hm x).trans dH5.symm
 rw[e]at ha
 generalize lZ es s=Z at*
 repeat' (first|(refine aE fun _ _=>?_)|refine zHg ?_|simp(disch:=omega) [go_sem,qZ,fJ])
 refine bO [(1000,21001)] [(21001,1000)] 30000 _ _ (Fits.mk' (by simp[go_sem,eC]) (by simp[go_sem,eC])) (by simp[go_sem,eC]) (by simp[go_sem,eC]) (ha) (by simp[go_sem,eC]) (by simp[go_sem,eC]) ?_
 repeat' (first|(refine aE fun _ _=>?_)|refine zHg ?_|(refine aL [] ?_;simp[go_sem])|simp(disch:=omega) [go_sem])
theorem aU8 [KwG] (l:List Rl) (le fu:Bool) (hb: ∀r∈l,r.body.length<=1000000) (hh: ∀r∈l,r.head.size<=100) (hz: ∀r∈l,∀b∈r.body,b.atom.size<=100):
 ACall prog 32 [.list le fu (l.map fP)] (fun v=>v= .tup [nt .i64 (kV l).1,nt .i64 (kV l).2]):=dL8 dMe dL9 l le fu hb hh hz
set_option maxHeartbeats 16000000
theorem aA5 (l:List Tm) (le fu:Bool) (hl:l.length<=10000000) (hz: ∀t∈l,t.size<=1000000):ACall prog 35 [.list le fu (l.map aP)] (fun r=>r= .own 2 (l.map aP)):=by
 refine ACall.own_nil ?_
 refine aX func35 call35 rfl (by simp[ntmps35]) ?_;simp only[ntmps35,results35]
 repeat' (first|(refine aE fun _ _=>?_)|refine zHg ?_|simp(disch:=omega) [go_sem])
 refine bZ [6,7] [900] (fun i:Nat=> [(8,nt .i64 i),(3,.ref 900 0 i)]) (fun i:Nat=> [(900,⟨true,false,false,2,(l.take i).map aP,0⟩)]) (fun i:Nat=>l.length - i) (fun i:Nat=>i<=l.length) (0) (by refine Le.trans ?_ (Le.nil (i:=3) (T:=900) (es:=2) rfl);exact(Le.sub4 rfl (by simp[go_sem,List.take_zero,List.map_nil]))) ⟨?_⟩ ?_
 ·exact Nat.zero_le _
 intro i hi AA hAA;simp only[kL,Nat.reduceBEq,Nat.reduceEqDiff]
 by_cases hlt:i<l.length
 ·have hu:=aS0 l[i] (hz _ (List.getElem_mem hlt))
  have hnx:=hZ hlt
  have hln:(l.take i).length=i:=by rw[List.length_take];omega
  generalize l.take i=A at*
  repeat' (first|(refine aE fun _ _=>?_)|refine zHg ?_|refine aI rfl (hu) (by simp) ?_|(refine(hAA.next (i+1) (Le.sub4 rfl (by simp[go_sem,hnx,hln])) (by(try dsimp only);omega) ?_))|simp(disch:=omega) [go_sem,hlt,hln]|refine zAo ?_|fail)
  try any_goals omega
  all_goals exact⟨hlt⟩
 ·obtain rfl:i=l.length:=by omega
  rw[List.take_length]
  repeat' (first|(refine aE fun _ _=>?_)|refine zHg ?_|(refine aL [] ?_;simp[go_sem])|simp(disch:=omega) [go_sem])
structure RlsOk (l:List Rl):Prop where
 head: ∀r∈l,r.head.size<=100
 body: ∀r∈l,∀b∈r.body,b.atom.size<=100
 len: ∀r∈l,r.body.length<=8
 many:l.length<=1000000
structure RndOk (l:List Rl) (A:List Tm):Prop where
 asc:gI A
 many:A.length<=1000000
 size: ∀a∈A,a.size<=1000
 more:(tG A l).length<=1000000
 out: ∀t∈iH A (tG A l),t.size<=1000000
def yW (l:List Rl):Prop:= ∀r∈l,∀b∈r.body,b.atom.name=gE-> ∃x y,b.atom.args= [x,y]
theorem dMf {l:List Rl} (h:RlsOk l) (hd:yW l) {A:List Tm} (hA:RndOk l A): ∀r∈l,RlOk A r:=fun r hr=>⟨hA.many,hA.size,h.head r hr,h.body r hr,h.len r hr,hd r hr⟩
theorem aU9 {l:List Rl} (h:RlsOk l) (hd:yW l) {A:List Tm} (hA:RndOk l A) (le fu le' fu':Bool):
 ACall prog 33 [.list le fu (l.map fP),.list le' fu' (A.map aP)] (fun v=>v=C4 (fG l A)):=
 dJk A l le fu le' fu' hA.asc (dMf h hd hA) hA.many hA.size h.many hA.more
theorem aVa {l:List Rl} {A:List Tm} (hA:RndOk l A):gI (fG l A).1/\(fG l A).1.length<=512/\(∀t∈(fG l A).1,t.size<=1000000)/\((fG l A).2=0\/(fG l A).2=3\/(fG l A).2=11)/\((fG l A).2≠0->(fG l A).1= []):=by
 unfold fG
 split
 ·exact⟨List.Pairwise.nil,by simp,by simp,.inr (.inl rfl),fun _=>rfl⟩
 ·split
  ·exact⟨List.Pairwise.nil,by simp,by simp,.inr (.inr rfl),fun _=>rfl⟩
  ·rename_i h2
   exact⟨aGx hA.asc _,by show(iH A _).length<=_;omega,hA.out,.inl rfl,fun h=>absurd rfl h⟩
noncomputable def aA6 (l:List Rl) (A:List Tm):AV:=if(kV l).2≠0 then .tup [.list false true [],nt .i64 (kV l).2]else .tup [.own 2 ((fG l (dK A)).1.map aP),nt .i64 (fG l (dK A)).2]
theorem dMg [KwG] (l:List Rl) (A:List Tm) (le fu le' fu':Bool) (h:RlsOk l) (hA:(kV l).2=0->yW l/\RndOk l (dK A)) (hAl:A.length<=1000000) (hAz: ∀a∈A,a.size<=1000000):
 ACall prog 11 [.list le fu (l.map fP),.list le' fu' (A.map aP)] (fun v=>v=aA6 l A):=by
 have h1:=aU8 l le fu (fun r hr=>Nat.le_trans (h.len r hr) (by decide)) h.head h.body
 have hso:=aS8 A le' fu' hAl hAz
 unfold aA6
 generalize(kV l).1=e1 at*
 generalize(kV l).2=e at*
 have hlenT:True:=trivial
 by_cases he:e=0
 ·subst he
  obtain⟨hd,hR⟩:=hA rfl
  have hr:=aU9 h hd hR le fu true false
  obtain⟨g1,g2,g3,g4,g5⟩:=aVa hR
  have hcp:=aA5 (fG l (dK A)).1 true false (by omega) g3
  have hc0:=aA5 [] false true (by simp) (by simp)
  rw[if_neg (by simp)]
  generalize fG l (dK A)=q at*
  obtain⟨X,e2⟩:=q
  dsimp only at*
  unfold C4 at hr
  dsimp only at hr
  generalize dK A=S at*
  by_cases he2:e2=0
  ·subst he2
   simp only[if_true]at hr
   refine aX func11 call11 rfl (by simp[ntmps11]) ?_;simp only[ntmps11,results11]
   repeat' (first|(refine aE fun _ _=>?_)|refine zHg ?_|(refine aL [] ?_;simp[go_sem,hlenT])|refine aI rfl (h1) (by simp) ?_|refine aI rfl (hso) (by simp) ?_|(refine aI ?hl (hr) (by simp) ?_;(case hl=>(simp[go_sem,hlenT];done)))|(refine aI ?hl (hcp) (by simp) ?_;(case hl=>(simp[go_sem,hlenT];done)))|simp(disch:=omega) [go_sem,hlenT])
  ·rw[if_neg he2]at hr
   obtain rfl:=g5 he2
   refine aX func11 call11 rfl (by simp[ntmps11]) ?_;simp only[ntmps11,results11]
   repeat' (first|(refine aE fun _ _=>?_)|refine zHg ?_|(refine aL [] ?_;simp[go_sem,hlenT])|refine aI rfl (h1) (by simp) ?_|refine aI rfl (hso) (by simp) ?_|refine aI rfl (hc0) (by simp) ?_|(refine aI ?hl (hr) (by simp) ?_;(case hl=>(simp[go_sem,hlenT];done)))|simp(disch:=omega) [go_sem,hlenT])
 ·rw[if_pos he]
  clear hA hso
  refine aX func11 call11 rfl (by simp[ntmps11]) ?_;simp only[ntmps11,results11]
  repeat' (first|(refine aE fun _ _=>?_)|refine zHg ?_|(refine aL [] ?_;simp[go_sem,he])|refine aI rfl (h1) (by simp) ?_|simp(disch:=omega) [go_sem,he])
def gZ (l:List Rl):Nat->List Tm
 |0=> []
 |n+1=>(fG l (gZ l n)).1
theorem aG9 {A:List Tm} (h:gI A):A.Nodup:=h.imp fun {a b} hab e=>by
 subst e
 rw[X8]at hab
 omega
theorem dMh {l:List Rl} {A:List Tm} (hA:RndOk l A) (h0:(fG l A).2=0):A.length<=(fG l A).1.length:=by
 unfold fG at h0 ⊢
 split at h0
 ·cases h0
 ·split at h0
  ·cases h0
  ·rename_i h1 h2
   rw[if_neg h1,if_neg h2]
   exact yN (aG9 hA.asc) fun x hx=>((K7 (tG A l) A hA.asc).2 x).2 (.inr hx)
theorem dMi {l:List Rl} {k:Nat} {A:List Tm}:yS l (k+1) A=if(fG l A).2≠0 then([],(fG l A).2)else if(fG l A).1.length=A.length then(A,0)else yS l k (fG l A).1:=by rw[yS]
noncomputable def D1 (l:List Rl):AV:=if(kV l).2≠0 then .tup [.list false true [],nt .i64 (kV l).2]else if(tH l).2=0 then .tup [.own 2 ((tH l).1.map aP),nt .i64 0]else .tup [.list false true [],nt .i64 (tH l).2]
theorem aVb [KwG] (l:List Rl) (le fu:Bool) (h:RlsOk l) (hA:(kV l).2=0->yW l/\ ∀n,RndOk l (gZ l n)):
 ACall prog 14 [.list le fu (l.map fP)] (fun v=>v=D1 l):=by
 have h1:=aU8 l le fu (fun r hr=>Nat.le_trans (h.len r hr) (by decide)) h.head h.body
 unfold D1
 generalize(kV l).1=e1 at*
 generalize(kV l).2=e at*
 have hlenT:True:=trivial
 by_cases he:e=0
 ·subst he
  obtain⟨hd,hR⟩:=hA rfl
  rw[if_neg (by simp)]
  generalize hV:(if(tH l).2=0 then AV.tup [.own 2 ((tH l).1.map aP),nt .i64 0]else .tup [.list false true [],nt .i64 (tH l).2])=V
  have hV0: ∃k,514<=k+([]:List Tm).length/\yS l k []=tH l:=⟨514,by simp,rfl⟩
  refine aX func14 call14 rfl (by simp[ntmps14]) ?_;simp only[ntmps14,results14]
  repeat' (first|(refine aE fun _ _=>?_)|refine zHg ?_|refine aI rfl (h1) (by simp) ?_|simp(disch:=omega) [go_sem,hlenT])
  refine bZ [0] [900] (fun y:Nat×List Tm=> [(6,.ref 900 0 y.2.length)]) (fun y:Nat×List Tm=> [(900,⟨true,false,false,2,y.2.map aP,0⟩)]) (fun y:Nat×List Tm=>600 - y.2.length) (fun y:Nat×List Tm=>y.2=gZ l y.1/\y.2.length<=512/\ ∃k,514<=k+y.2.length/\yS l k y.2=tH l) ((0,[])) (by refine Le.trans ?_ (Le.nil (i:=6) (T:=900) (es:=2) rfl);exact(Le.sub4 rfl (by simp[go_sem,List.map_nil,List.length_nil]))) ⟨?_⟩ ?_
  ·exact⟨rfl,by simp,hV0⟩
  clear hV0
  intro⟨n,A⟩ ⟨hn,hl,k,hk,hv⟩ AA hAA;simp only[kL,Nat.reduceBEq,Nat.reduceEqDiff]
  dsimp only at*
  subst hn
  have hRn:=hR n
  have hr:=aU9 h hd hRn le fu true false
  obtain⟨g1,g2,g3,g4,g5⟩:=aVa hRn
  have hgr:=dMh hRn
  have hcp:=aA5 (gZ l n) true false (by omega) (fun t ht=>Nat.le_trans (hRn.size t ht) (by decide))
  cases k with
  |zero=>omega
  |succ k=>
   rw[dMi]at hv
   have hnx:gZ l (n+1)=(fG l (gZ l n)).1:=rfl
   clear hR hRn
   generalize fG l (gZ l n)=q at*
   obtain⟨X,e2⟩:=q
   generalize gZ l n=A at*
   dsimp only at*
   unfold C4 at hr
   dsimp only at hr
   by_cases he2:e2=0
   ·subst he2
    simp only[if_true]at hr
    rw[if_neg (by simp)]at hv
    have hgr:=hgr rfl
    by_cases hlen:X.length=A.length
    ·rw[if_pos hlen]at hv
     rw[<-hv]at hV
     simp only[if_true]at hV
     subst hV
     repeat' (first|(refine aE fun _ _=>?_)|refine zHg ?_|(refine aL [] ?_;simp[go_sem,hlenT,hlen])|(refine aI ?hl (hr) (by simp) ?_;(case hl=>(simp[go_sem,hlenT,hlen];done)))|(refine aI ?hl (hcp) (by simp) ?_;(case hl=>(simp[go_sem,hlenT,hlen];done)))|simp(disch:=omega) [go_sem,hlenT,hlen])
    ·rw[if_neg hlen]at hv
     repeat' (first|(refine aE fun _ _=>?_)|refine zHg ?_|(refine zqd ?_ ?_<;>(intro h;first|(exfalso;omega)|(simp only[h,zT])))|(refine aI ?hl (hr) (by simp) ?_;(case hl=>(simp[go_sem,hlenT,hlen];done)))|(refine(hAA.next ((n+1,X)) (Le.renSub [(54,900),(900,54)] [(900,54),(54,900)] (by simp[go_sem]) (by simp[go_sem]) (Le.sub4 rfl (by simp[go_sem]))) (by(try dsimp only);omega) ?_))|simp(disch:=omega) [go_sem,hlenT,hlen])
     try any_goals omega
     all_goals exact⟨hnx.symm,g2,k,by(try dsimp only);omega,hv⟩
   ·rw[if_neg he2]at hr
    rw[if_pos he2]at hv
    rw[<-hv]at hV
    simp only[if_neg he2]at hV
    subst hV
    repeat' (first|(refine aE fun _ _=>?_)|refine zHg ?_|(refine aL [] ?_;simp[go_sem,hlenT,he2])|(refine aI ?hl (hr) (by simp) ?_;(case hl=>(simp[go_sem,hlenT,he2];done)))|simp(disch:=omega) [go_sem,hlenT,he2])
 ·rw[if_pos he]
  clear hA
  refine aX func14 call14 rfl (by simp[ntmps14]) ?_;simp only[ntmps14,results14]
  repeat' (first|(refine aE fun _ _=>?_)|refine zHg ?_|(refine aL [] ?_;simp[go_sem,he])|refine aI rfl (h1) (by simp) ?_|simp(disch:=omega) [go_sem,he])
def oP (nm:ByteArray) (bf:List Tm) (a:Tm):Bool:=decide (a.name=nm/\a.args.length=bf.length+1/\a.args.take bf.length=bf)
def vI (bf:List Tm) (a:Tm):Tm:=a.args.getD bf.length uQ
def dP (nm:ByteArray) (bf:List Tm) (A:List Tm):List Tm:=(A.filter (oP nm bf)).map (vI bf)
theorem aHa {nm:ByteArray} {bf A:List Tm} {i:Nat} (h:i<A.length):dP nm bf (A.take (i+1))=dP nm bf (A.take i)++if oP nm bf A[i]=true then[vI bf A[i]]else[]:=by
 unfold dP
 rw[hZ h,List.filter_append,List.map_append]
 congr 1
 cases hq:oP nm bf A[i]<;>simp[hq]
theorem aA7 {nm:ByteArray} {bf A:List Tm}:(dP nm bf A).length<=A.length:=by
 unfold dP
 rw[List.length_map]
 exact List.length_filter_le _ _
theorem dMj {nm:ByteArray} {bf A:List Tm} {b:Nat} (h: ∀a∈A,a.size<=b): ∀t∈dP nm bf A,t.size<=b:=fun t ht=>by
 obtain⟨a,ha,rfl⟩:=List.mem_map.1 ht
 obtain⟨h1,h2⟩:=List.mem_filter.1 ha
 have h2:=of_decide_eq_true h2
 have hz:=h a h1
 obtain⟨n,ts⟩:=a
 rw[cM]at h2
 unfold vI
 rw[cM,List.getD_eq_getElem?_getD,List.getElem?_eq_getElem (by omega)]
 exact Nat.le_trans (aSr (List.getElem_mem _)) hz
theorem aHb (A bf:List Tm) (nm:ByteArray) (le fu le' fu':Bool) (hl:A.length<=1000000) (hz: ∀a∈A,a.size<=1000000) (hbl:bf.length<=1000):
 ACall prog 39 [.list le fu (A.map aP),.sc (.string nm),.list le' fu' (bf.map aP)] (fun r=>r= .own 2 ((dK (dP nm bf A)).map aP)):=by
 have hll:=aA7 (nm:=nm) (bf:=bf) (A:=A)
 have hlz:=dMj (nm:=nm) (bf:=bf) hz
 have hso:=aS8 (dP nm bf A) true false (by omega) hlz
 have hsl:(dK (dP nm bf A)).length<=(dP nm bf A).length:=yN (aG9 (K8 _)) fun x hx=>(X9 (dP nm bf A) x).1 hx
 have hcp:=aA5 (dK (dP nm bf A)) true false (by omega) fun t ht=>hlz t ((X9 (dP nm bf A) t).1 ht)
 have hlenT:True:=trivial
 have hzero:dP nm bf (A.take 0)= []:=rfl
 refine aX func39 call39 rfl (by simp[ntmps39]) ?_;simp only[ntmps39,results39]
 repeat' (first|(refine aE fun _ _=>?_)|refine zHg ?_|simp(disch:=omega) [go_sem])
 refine bZ [1,2,11,12] [900] (fun x:Nat×List Tm=> [(13,nt .i64 x.1),(7,.ref 900 0 x.2.length)]) (fun x:Nat×List Tm=> [(900,⟨true,false,false,2,x.2.map aP,0⟩)]) (fun x:Nat×List Tm=>A.length - x.1) (fun x:Nat×List Tm=>x.1<=A.length/\x.2=dP nm bf (A.take x.1)) ((0,[])) (by refine Le.trans ?_ (Le.nil (i:=7) (T:=900) (es:=2) rfl);exact(Le.sub4 rfl (by simp[go_sem,List.map_nil,List.length_nil]))) ⟨?_⟩ ?_
 ·exact⟨Nat.zero_le _,hzero.symm⟩
 intro⟨i,X⟩ ⟨hi,hX⟩ AA hAA;simp only[kL,Nat.reduceBEq,Nat.reduceEqDiff]
 dsimp only at*
 by_cases hlt:i<A.length
 ·have hnx:=aHa (nm:=nm) (bf:=bf) hlt
  have hXl:=aA7 (nm:=nm) (bf:=bf) (A:=A.take i)
  rw[<-hX]at hXl hnx
  rw[List.length_take]at hXl
  generalize hai:A[i]=a at*
  obtain⟨n,ts⟩:=a
  by_cases h1:n=nm
  ·by_cases h2:ts.length=bf.length+1
   ·have hcl:=cZf (ts.take bf.length) bf false false le' fu'
    have hc0:=cZp (ts.take bf.length) bf
    have h2':bf.length<ts.length:=by omega
    rw[List.map_take]at hcl
    by_cases h3:ts.take bf.length=bf
    ·have hq:oP nm bf (.mk n ts)=true:=decide_eq_true ⟨h1,h2,h3⟩
     rw[if_pos hq]at hnx
     have hT:vI bf (.mk n ts)=ts[bf.length]:=by
      unfold vI
      rw[cM,List.getD_eq_getElem?_getD,List.getElem?_eq_getElem h2'];rfl
     rw[hT]at hnx
     rw[hc0.2 h3]at hcl
     repeat' (first|(refine aE fun _ _=>?_)|refine zHg ?_|refine aI rfl (hcl) (by simp) ?_|(refine(hAA.next ((i+1,X++ [ts[bf.length]])) (Le.sub4 rfl (by simp[go_sem])) (by(try dsimp only);omega) ?_))|simp(disch:=omega) [go_sem,hlt,hai,h1,h2,h2',hlenT]|refine zAo ?_|fail)
     try any_goals omega
     all_goals exact⟨hlt,hnx.symm⟩
    ·have hq:oP nm bf (.mk n ts)=false:=decide_eq_false (fun h=>h3 h.2.2)
     rw[hq,if_neg (by simp),List.append_nil]at hnx
     have hc1: ¬eP (ts.take bf.length) bf=0:=fun h=>h3 (hc0.1 h)
     generalize eP (ts.take bf.length) bf=c at*
     repeat' (first|(refine aE fun _ _=>?_)|refine zHg ?_|refine aI rfl (hcl) (by simp) ?_|(refine(hAA.next ((i+1,X)) (Le.sub4 rfl (by simp[go_sem])) (by(try dsimp only);omega) ?_))|simp(disch:=omega) [go_sem,hlt,hai,h1,h2,h2',hc1,hlenT]|refine zAo ?_|fail)
     try any_goals omega
     all_goals exact⟨hlt,hnx.symm⟩
   ·have hq:oP nm bf (.mk n ts)=false:=decide_eq_false (fun h=>h2 h.2.1)
    rw[hq,if_neg (by simp),List.append_nil]at hnx
    have h2i: ¬(ts.length:Int)=bf.length+1:=by omega
    repeat' (first|(refine aE fun _ _=>?_)|refine zHg ?_|(refine(hAA.next ((i+1,X)) (Le.sub4 rfl (by simp[go_sem])) (by(try dsimp only);omega) ?_))|simp(disch:=omega) [go_sem,hlt,hai,h1,h2,h2i])
    try any_goals omega
    all_goals exact⟨hlt,hnx.symm⟩
  ·have hq:oP nm bf (.mk n ts)=false:=decide_eq_false (fun h=>h1 h.1)
   rw[hq,if_neg (by simp),List.append_nil]at hnx
   repeat' (first|(refine aE fun _ _=>?_)|refine zHg ?_|(refine(hAA.next ((i+1,X)) (Le.sub4 rfl (by simp[go_sem])) (by(try dsimp only);omega) ?_))|simp(disch:=omega) [go_sem,hlt,hai,h1])
   try any_goals omega
   all_goals exact⟨hlt,hnx.symm⟩
 ·obtain rfl:i=A.length:=by omega
  rw[List.take_length]at hX
  subst hX
  generalize dP nm bf A=X at*
  generalize dK X=Y at*
  repeat' (first|(refine aE fun _ _=>?_)|refine zHg ?_|(refine aL [] ?_;simp[go_sem,hlenT])|(refine aI ?hl (hso) (by simp) ?_;(case hl=>(simp[go_sem,hlenT];done)))|(refine aI ?hl (hcp) (by simp) ?_;(case hl=>(simp[go_sem,hlenT];done)))|simp(disch:=omega) [go_sem,hlenT])
abbrev oQ:ByteArray:=⟨#[115,101,101,115]⟩
theorem aVc (A:List Tm) (le fu:Bool) (hl:A.length<=1000000) (hz: ∀a∈A,a.size<=1000000):ACall prog 17 [.list le fu (A.map aP)] (fun r=>r= .own 2 ((dK (dP gF [] A)).map aP)):=by
 have h:=aHb A [] gF le fu false true hl hz (by decide)
 generalize dK (dP gF [] A)=Y at*
 rw[List.map_nil]at h
 refine aX func17 call17 rfl (by simp[ntmps17]) ?_;simp only[ntmps17,results17]
 repeat' (first|(refine aE fun _ _=>?_)|refine zHg ?_|(refine aL [] ?_;simp[go_sem])|refine aI rfl (h) (by simp) ?_|simp(disch:=omega) [go_sem])
theorem aVd (A:List Tm) (r:Tm) (le fu:Bool) (hl:A.length<=1000000) (hz: ∀a∈A,a.size<=1000000):ACall prog 19 [.list le fu (A.map aP),eT r] (fun v=>v= .own 2 ((dK (dP jB [r] A)).map aP)):=by
 have h:=aHb A [r] jB le fu true false hl hz (by simp)
 generalize dK (dP jB [r] A)=Y at*
 simp only[List.map_cons,List.map_nil,jH]at h
 have hlenT:True:=trivial
 refine aX func19 call19 rfl (by simp[ntmps19]) ?_;simp only[ntmps19,results19]
 repeat' (first|(refine aE fun _ _=>?_)|refine zHg ?_|(refine aL [] ?_;simp[go_sem,hlenT])|refine aI rfl (h) (by simp) ?_|simp(disch:=omega) [go_sem,hlenT])
theorem aVe (A:List Tm) (r:Tm) (le fu:Bool) (hl:A.length<=1000000) (hz: ∀a∈A,a.size<=1000000):ACall prog 21 [.list le fu (A.map aP),eT r] (fun v=>v= .own 2 ((dK (dP oQ [r] A)).map aP)):=by
 have h:=aHb A [r] oQ le fu true false hl hz (by simp)
 generalize dK (dP oQ [r] A)=Y at*
 simp only[List.map_cons,List.map_nil,jH]at h
 have hlenT:True:=trivial
 refine aX func21 call21 rfl (by simp[ntmps21]) ?_;simp only[ntmps21,results21]
 repeat' (first|(refine aE fun _ _=>?_)|refine zHg ?_|(refine aL [] ?_;simp[go_sem,hlenT])|refine aI rfl (h) (by simp) ?_|simp(disch:=omega) [go_sem,hlenT])
theorem aVf {l:List Rl} (h1:l.length<=128) (h2:uR l 0=none) (h3:tE [] l 0=none) (h4:(oI l).length=1) (h5:C2 l= -1) (h6:M4 l=false) (h7:(iS l).all (fun e=> !e.neg)=true):kV l=(0,0):=by
 have h8:pZ (iS l)=0:=aSl (M:=fun _=>0) fun e he=>by
  have:=List.all_eq_true.1 h7 e he
  unfold eX
  cases hn:e.neg
  ·simp
  ·rw[hn]at this;cases this
 unfold kV
 rw[if_neg (by omega),h2]
 dsimp only
 rw[h3]
 dsimp only
 rw[if_neg (by rw[h4,h5];omega),h6,h8]
 rfl
theorem aVg {l:List Rl} {p:Nat} (h:gZ l (p+1)=gZ l p): ∀n,gZ l (p+n)=gZ l p
 |0=>rfl
 |n+1=>by
  show(fG l (gZ l (p+n))).1=_
  rw[aVg h n]
  exact h
theorem aVh {l:List Rl} {p:Nat} (h:gZ l p= []): ∀n,gZ l (n+p)=gZ l n
 |0=>by rw[Nat.zero_add];exact h
 |n+1=>by
  rw[show n+1+p=(n+p)+1 by omega]
  show(fG l (gZ l (n+p))).1=_
  rw[aVh h n];rfl
theorem dMk {l:List Rl} {p:Nat} (h:gZ l (p+1)=gZ l p) (hk: ∀k,k<=p->RndOk l (gZ l k)) (n:Nat):RndOk l (gZ l n):=by
 by_cases hn:n<=p
 ·exact hk n hn
 ·obtain⟨m,rfl⟩: ∃m,n=p+m:=⟨n - p,by omega⟩
  rw[aVg h]
  exact hk p (Nat.le_refl p)
theorem dMl {l:List Rl} {p:Nat} (hp:0<p) (h:gZ l p= []) (hk: ∀k,k<p->RndOk l (gZ l k)) (n:Nat):RndOk l (gZ l n):=by
 induction n using Nat.strongRecOn with
 |_ n ih=>
  by_cases hn:n<p
  ·exact hk n hn
  ·obtain⟨m,rfl⟩: ∃m,n=m+p:=⟨n - p,by omega⟩
   rw[aVh h]
   exact ih m (by omega)
def aA8 (l:List Rl) (A:List Tm):Bool:=decide (A.Pairwise fun a b=>cS a b<0)&&(decide (A.length<=1000000)&&(A.all (fun a=>decide (a.size<=1000))&&(decide ((tG A l).length<=1000000)&&(iH A (tG A l)).all fun t=>decide (t.size<=1000000))))
theorem aHc {l:List Rl} {A:List Tm} (h:aA8 l A=true):RndOk l A:=by
 unfold aA8 at h
 simp only[Bool.and_eq_true,decide_eq_true_eq,List.all_eq_true]at h
 obtain⟨h1,h2,h3,h4,h5⟩:=h
 exact⟨h1,h2,h3,h4,h5⟩
def aVi (l:List Rl):Bool:=l.all fun r=>decide (r.head.size<=100)&&(decide (r.body.length<=8)&&r.body.all fun b=>decide (b.atom.size<=100)&&(!decide (b.atom.name=gE)||decide (b.atom.args.length=2)))
theorem aVj {l:List Rl} (h:aVi l=true) (hl:l.length<=1000000):RlsOk l/\yW l:=by
 unfold aVi at h
 simp only[Bool.and_eq_true,decide_eq_true_eq,List.all_eq_true,Bool.or_eq_true]at h
 refine⟨⟨fun r hr=>(h r hr).1,fun r hr b hb=>((h r hr).2.2 b hb).1,fun r hr=>(h r hr).2.1,hl⟩,fun r hr b hb hn=>?_⟩
 have h2:=((h r hr).2.2 b hb).2
 rw[decide_eq_true hn]at h2
 have h2:b.atom.args.length=2:=by simpa using h2
 revert h2
 generalize b.atom.args=ts
 intro h2
 match ts,h2 with
 | [x,y],_=>exact⟨x,y,rfl⟩
abbrev mG:List Rl:= [qV,rR,sZ,uK]
abbrev tO:List Rl:= [tA,uL,wS]
theorem vL:kV mG=(0,0):=aVf (by decide) (by kernel_rfl) (by kernel_rfl) (by kernel_rfl) (by kernel_rfl) (by kernel_rfl) (by kernel_rfl)
theorem vM:kV tO=(0,0):=aVf (by decide) (by kernel_rfl) (by kernel_rfl) (by kernel_rfl) (by kernel_rfl) (by kernel_rfl) (by kernel_rfl)
theorem zL:RlsOk mG/\yW mG:=aVj (by kernel_rfl) (by decide)
theorem zM:RlsOk tO/\yW tO:=aVj (by kernel_rfl) (by decide)
theorem iL: ∀n,RndOk mG (gZ mG n):=dMk (p:=5) (by kernel_rfl) fun k hk=>by
 have:(List.range 6).all (fun k=>aA8 mG (gZ mG k))=true:=by kernel_rfl
 exact aHc (List.all_eq_true.1 this k (by(try simp);omega))
theorem iM: ∀n,RndOk tO (gZ tO n):=dMl (p:=4) (by decide) (by kernel_rfl) fun k hk=>by
 have:(List.range 4).all (fun k=>aA8 tO (gZ tO k))=true:=by kernel_rfl
 exact aHc (List.all_eq_true.1 this k (by(try simp);omega))
def N6:Tm:=(.mk ⟨#[120]⟩ [])
def rZ:List Tm:= [(.mk ⟨#[105,110,105,116]⟩ [(.mk ⟨#[111,110]⟩ [])]),(.mk ⟨#[108,101,103,97,108]⟩ [(.mk ⟨#[120]⟩ []),(.mk ⟨#[115,116,97,121]⟩ [])])]
def oR:List Tm:= [(.mk ⟨#[105,110,105,116]⟩ [(.mk ⟨#[111,110]⟩ [])]),(.mk ⟨#[110,101,120,116]⟩ [(.mk ⟨#[111,110]⟩ [])]),(.mk ⟨#[114,111,108,101]⟩ [(.mk ⟨#[120]⟩ [])]),(.mk ⟨#[116,114,117,101]⟩ [(.mk ⟨#[111,110]⟩ [])]),(.mk ⟨#[100,111,101,115]⟩ [(.mk ⟨#[120]⟩ []),(.mk ⟨#[115,116,97,121]⟩ [])]),(.mk ⟨#[108,101,103,97,108]⟩ [(.mk ⟨#[120]⟩ []),(.mk ⟨#[115,116,97,121]⟩ [])])]
def N7:List Tm:= [(.mk ⟨#[111,110]⟩ [])]
def N8:List Tm:= [(.mk ⟨#[115,116,97,121]⟩ [])]
theorem pL:tH mG=(oR,0):=by kernel_rfl
theorem pM:tH tO=([],3):=by kernel_rfl
theorem pA:(fG mG (dK rZ)).2=0:=by kernel_rfl
theorem pA5:(fG mG (dK rZ)).1.length=5:=by kernel_rfl
theorem pAo:RndOk mG (dK rZ):=aHc (by kernel_rfl)
theorem pB:dK (dP gF [] oR)=N7:=by kernel_rfl
theorem pD:dK (dP jB [N6] oR)=N8:=by kernel_rfl
theorem pS:dK (dP oQ [N6] oR)= []:=by kernel_rfl
theorem pBz: ∀a∈oR,a.size<=1000000:=by
 have:oR.all (fun a=>decide (a.size<=1000000))=true:=by kernel_rfl
 exact fun a ha=>of_decide_eq_true (List.all_eq_true.1 this a ha)
theorem pAz: ∀a∈rZ,a.size<=1000000:=by
 have:rZ.all (fun a=>decide (a.size<=1000000))=true:=by kernel_rfl
 exact fun a ha=>of_decide_eq_true (List.all_eq_true.1 this a ha)
theorem D2 (a b:List Tm) (l f l' f':Bool):ACall prog 13 [.list l f (a.map aP),.list l' f' (b.map aP)] (fun r=>r=bl (decide (a=b))):=by
 have h:=cZi a b l f l' f'
 have e:lH a b=decide (a=b):=by
  by_cases hab:a=b
  ·rw[decide_eq_true hab];exact(aFk a b).2 hab
  ·rw[decide_eq_false hab]
   cases hq:lH a b
   ·rfl
   ·exact absurd ((aFk a b).1 hq) hab
 rw[<-e]
 exact h
theorem aA:sX eF=rZ:=by kernel_rfl
theorem aB:sX bQ=oR:=by kernel_rfl
theorem aC:sX rS=N7:=by kernel_rfl
theorem aD:sX rT=N8:=by kernel_rfl
theorem dM2 [KwG]:ACall prog 10 [] (fun r=>r=bl true):=by
 have h1:=aOy bK (by decide)
 rw[dCp]at h1
 have h2:=aVb mG true false zL.1 fun _=>⟨zL.2,iL⟩
 have e2:D1 mG= .tup [.own 2 (oR.map aP),nt .i64 0]:=by
  unfold D1
  rw[vL,if_neg (by simp),pL,if_pos rfl]
 rw[e2]at h2
 have h3:=Y6 eF (by decide)
 rw[aA]at h3
 have h4:=dMg mG rZ true false true false zL.1 (fun _=>⟨zL.2,pAo⟩) (by decide) pAz
 have e4:aA6 mG rZ= .tup [.own 2 ((fG mG (dK rZ)).1.map aP),nt .i64 0]:=by
  unfold aA6
  rw[vL,if_neg (by simp),pA]
 rw[e4]at h4
 have h4l:=pA5
 have h5:=aOy cE (by decide)
 rw[dEh]at h5
 have h6:=aVb tO true false zM.1 fun _=>⟨zM.2,iM⟩
 have e6:D1 tO= .tup [.list false true [],nt .i64 3]:=by
  unfold D1
  rw[vM,if_neg (by simp),pM,if_neg (by simp)]
 rw[e6]at h6
 have h7:=Y6 bQ (by decide)
 rw[aB]at h7
 have h8:=D2 oR oR true false true false
 rw[decide_eq_true rfl]at h8
 have h9:=aVc oR true false (by decide) pBz
 rw[pB]at h9
 have h10:=Y6 rS (by decide)
 rw[aC]at h10
 have h11:=D2 N7 N7 true false true false
 rw[decide_eq_true rfl]at h11
 have h12:=aVd oR N6 true false (by decide) pBz
 rw[pD]at h12
 have h13:=Y6 rT (by decide)
 rw[aD]at h13
 have h14:=D2 N8 N8 true false true false
 rw[decide_eq_true rfl]at h14
 have h15:=aVe oR N6 true false (by decide) pBz
 rw[pS,List.map_nil]at h15
 have hx: ∀{f:FuncId} {xs:List AV} {R:AV->Prop},ACall prog f [.list true false xs,eT N6] R->ACall prog f [.list true false xs,.agg [.sc (.string ⟨#[120]⟩),.list false true []]] R:=fun h=>h.args rfl fun F i a b v ha hb hv=>by
  match i with
  |0=>
   simp only[List.getElem?_cons_zero,Option.some.injEq]at ha hb
   subst ha;subst hb
   exact hv
  |1=>
   simp only[List.getElem?_cons_succ,List.getElem?_cons_zero,Option.some.injEq]at ha hb
   subst ha;subst hb
   exact hv.loose
  |_+2=>simp at ha
 have h12:=hx h12
 have h15:=hx h15
 generalize(fG mG (dK rZ)).1=X at*
 clear e2 e4 e6
 simp only[List.map_cons,List.map_nil]at h1 h2 h4 h5 h6
 unfold bK at h1
 unfold eF at h3
 unfold cE at h5
 unfold bQ at h7
 unfold rS at h10
 unfold rT at h13
 have hlenT:True:=trivial
 generalize qV=x0 at*
 generalize rR=x1 at*
 generalize sZ=x2 at*
 generalize uK=x3 at*
 generalize tA=y0 at*
 generalize uL=y1 at*
 generalize wS=y2 at*
 generalize rZ=A at*
 generalize oR=B at*
 generalize N7=C at*
 generalize N8=D at*
 refine aX func10 call10 rfl (by simp[ntmps10]) ?_;simp only[ntmps10,results10]
 repeat' (first|(refine aE fun _ _=>?_)|refine zHg ?_|(refine aL [] ?_;simp[go_sem,hlenT,h4l])|refine aI rfl (h1) (by simp) ?_|refine aI rfl (h2) (by simp) ?_|refine aI rfl (h3) (by simp) ?_|refine aI rfl (h5) (by simp) ?_|refine aI rfl (h6) (by simp) ?_|refine aI rfl (h7) (by simp) ?_|refine aI rfl (h10) (by simp) ?_|refine aI rfl (h13) (by simp) ?_|(refine aI ?hl (h4) (by simp) ?_;(case hl=>(simp[go_sem,hlenT,h4l];done)))|(refine aI ?hl (h8) (by simp) ?_;(case hl=>(simp[go_sem,hlenT,h4l];done)))|(refine aI ?hl (h9) (by simp) ?_;(case hl=>(simp[go_sem,hlenT,h4l];done)))|(refine aI ?hl (h11) (by simp) ?_;(case hl=>(simp[go_sem,hlenT,h4l];done)))|(refine aI ?hl (h12) (by simp) ?_;(case hl=>(simp[go_sem,hlenT,h4l];done)))|(refine aI ?hl (h14) (by simp) ?_;(case hl=>(simp[go_sem,hlenT,h4l];done)))|(refine aI ?hl (h15) (by simp) ?_;(case hl=>(simp[go_sem,hlenT,h4l];done)))|simp(disch:=omega) [go_sem,hlenT,h4l])
theorem dM3 (O:List Tm) (t:Tm) (hO:gI O) (hb:O.length<=1000000):ACall prog 40 [.list false false (O.map aP),eT t] (fun r=>r= .list false false ((fE t O).map aP)):=by
 have hcl:=aAf O t
 have hc1:=fun k (hk:k<O.length)=>aGs (t:=t) hk
 have hc2:=fun k (hk:k<O.length)=>aGt hO (t:=t) hk
 rw[aTa hO t]
 generalize hR:(if ∃h:mW O t<O.length,cS O[mW O t] t=0 then O else O.take (mW O t)++t::O.drop (mW O t))=R
 generalize hW:R.map aP=W
 generalize mW O t=c at*
 refine aX func40 call40 rfl (by simp[ntmps40]) ?_;simp only[ntmps40,results40]
 repeat' (first|(refine aE fun _ _=>?_)|refine zHg ?_|simp(disch:=omega) [go_sem])
 refine bZ [0,3] [] (fun x:Nat×Nat=> [(5,nt .i64 x.1),(6,nt .i64 x.2)]) (fun x:Nat×Nat=> []) (fun x:Nat×Nat=>x.2 - x.1) (fun x:Nat×Nat=>x.1<=c/\c<=x.2/\x.2<=O.length) ((0,O.length)) (Le.sub4 rfl (by simp[go_sem])) ⟨?_⟩ ?_
 ·exact⟨Nat.zero_le _,hcl,Nat.le_refl _⟩
 intro⟨i,j⟩ ⟨hi,hj,hl⟩ AA hAA;simp only[kL,Nat.reduceBEq,Nat.reduceEqDiff]
 dsimp only at*
 by_cases hij:i<j
 ·obtain⟨m,hm⟩: ∃m,m=(i+j) / 2:=⟨_,rfl⟩
  have hm2:((i:Int)+j) / 2=(m:Int):=by omega
  have hm3:((i:Int)+j).tdiv 2=(m:Int):=by rw[Int.tdiv_eq_ediv_of_nonneg (by omega)];exact hm2
  have hml:m<O.length:=by omega
  have hu:=aN2 O[m] t
  by_cases hq:cS O[m] t<0
  ·have hlt:m<c:=Nat.lt_of_not_le fun hh=>by have:=hc2 m hml hh;omega
   generalize cS O[m] t=v at*
   repeat' (first|(refine aE fun _ _=>?_)|refine zHg ?_|(refine zqd ?_ ?_<;>(intro h;first|(exfalso;omega)|(simp only[h,zT])))|refine bI rfl (hu) rfl (by simp) ?_|(refine(hAA.next ((m+1,j)) (Le.sub4 rfl (by simp[go_sem])) (by(try dsimp only);omega) ?_))|simp(disch:=omega) [go_sem,hml,hm2,hm3,hq]|refine zDr 7 bA ?_|fail)
   try any_goals omega
   all_goals exact⟨⟨by omega,hj,hl⟩⟩
  ·have hge:c<=m:=Nat.le_of_not_lt fun hh=>hq (hc1 m hml hh)
   generalize cS O[m] t=v at*
   repeat' (first|(refine aE fun _ _=>?_)|refine zHg ?_|(refine zqd ?_ ?_<;>(intro h;first|(exfalso;omega)|(simp only[h,zT])))|refine bI rfl (hu) rfl (by simp) ?_|(refine(hAA.next ((i,m)) (Le.sub4 rfl (by simp[go_sem])) (by(try dsimp only);omega) ?_))|simp(disch:=omega) [go_sem,hml,hm2,hm3,hq]|refine zDr 7 bA ?_|fail)
   try any_goals omega
   all_goals exact⟨⟨hi,hge,by omega⟩⟩
 ·obtain rfl:i=c:=by omega
  obtain rfl:j=i:=by omega
  have hcT: ∀y∈List.take j (O.map aP),y.cells.length=2:=fun y hy=>dIq hy
  have hcD: ∀y∈List.drop j (O.map aP),y.cells.length=2:=fun y hy=>dIr hy
  have hdr:List.take (O.length - j) (List.drop j (O.map aP))=List.drop j (O.map aP):=List.take_of_length_le (by simp)
  have hdr0:O.length<=j->List.drop j (O.map aP)= []:=fun h=>List.drop_eq_nil_of_le (by simpa using h)
  by_cases hcl2:j<O.length
  ·have hu:=aN2 O[j] t
   by_cases hz:cS O[j] t=0
   ·rw[if_pos ⟨hcl2,hz⟩]at hR
    subst hR
    subst hW
    rw[hz]at hu
    repeat' (first|(refine aE fun _ _=>?_)|refine zHg ?_|(refine aL [] ?_;simp[go_sem,hcl2])|refine bI rfl (hu) rfl (by simp) ?_|simp(disch:=omega) [go_sem,hcl2]|refine zDr 13 bA ?_|fail)
   ·rw[if_neg (by rintro⟨_,h⟩;exact hz h)]at hR
    have hRm:(O.map aP).take j++AV.agg [.sc (.string t.name),.list false false (t.args.map aP)]::(O.map aP).drop j=W:=by rw[<-hW,<-hR];simp[jH]
    clear hR hW
    generalize cS O[j] t=v at*
    repeat' (first|(refine aE fun _ _=>?_)|refine zHg ?_|(refine aL [46] ?_;simp[go_sem,hcl2,hz,hcT,hcD,hdr])|refine bI rfl (hu) rfl (by simp) ?_|simp(disch:=omega) [go_sem,hcl2,hz,hcT,hcD,hdr]|refine zAo ?_|refine zAa ?_|refine zDr 13 bA ?_|fail)
    all_goals(first|omega|exact hRm|(rw[if_pos (by omega)];exact hRm)|skip)
  ·rw[if_neg (by rintro⟨h,_⟩;exact hcl2 h)]at hR
   have hRm:(O.map aP).take j++AV.agg [.sc (.string t.name),.list false false (t.args.map aP)]::(O.map aP).drop j=W:=by rw[<-hW,<-hR];simp[jH]
   clear hR hW
   repeat' (first|(refine aE fun _ _=>?_)|refine zHg ?_|(refine aL [46] ?_;simp[go_sem,hcl2,hcT,hcD,hdr])|simp(disch:=omega) [go_sem,hcl2,hcT,hcD,hdr]|refine zAo ?_|refine zAa ?_|refine zDr 13 bA ?_|fail)
   all_goals(first|omega|(rw[hdr0 (by omega)]at hRm;exact hRm)|skip)
theorem aVl (O:List Tm) (t:Tm) (fu:Bool) (hO:gI O) (hb:O.length<=1000000):ACall prog 40 [.list false fu (O.map aP),eT t] (fun r=>r= .list false false ((fE t O).map aP)):=by
 have h:=dM3 O t hO hb
 cases fu
 ·exact h
 ·refine h.args rfl fun F i a b v ha hb hv=>?_
  match i with
  |0=>
   simp only[List.getElem?_cons_zero,Option.some.injEq]at ha hb
   subst ha;subst hb
   exact hv.loose1
  |1=>
   simp only[List.getElem?_cons_succ,List.getElem?_cons_zero,Option.some.injEq]at ha hb
   subst ha;subst hb
   exact hv
  |_+2=>simp at ha
theorem aVm {X:List Tm} {x:Tm}:dK (X++ [x])=fE x (dK X):=by
 unfold dK
 rw[List.foldl_append];rfl
theorem aVn (X:List Tm):(dK X).length<=X.length:=yN (aG9 (K8 _)) fun x hx=>(X9 X x).1 hx
theorem dM4 (A:List Tm) (le fu:Bool) (hl:A.length<=1000000): ∃f,ACall prog 18 [.list le fu (A.map aP)] (fun r=>r= .list false f ((dK (dP gF [] A)).map aP)):=by
 refine⟨decide (dP gF [] A= []),?_⟩
 have hzero:dP gF [] (A.take 0)= []:=rfl
 have hs0:dK []= []:=rfl
 refine aX func18 call18 rfl (by simp[ntmps18]) ?_;simp only[ntmps18,results18]
 repeat' (first|(refine aE fun _ _=>?_)|refine zHg ?_|simp(disch:=omega) [go_sem])
 refine bZ [0] [] (fun x:Nat×List Tm=> [(4,nt .i64 x.1),(3,.list false (decide (x.2= [])) ((dK x.2).map aP))]) (fun x:Nat×List Tm=> []) (fun x:Nat×List Tm=>A.length - x.1) (fun x:Nat×List Tm=>x.1<=A.length/\x.2=dP gF [] (A.take x.1)) ((0,[])) (Le.sub4 rfl (by simp[go_sem,hs0,List.map_nil])) ⟨?_⟩ ?_
 ·exact⟨Nat.zero_le _,hzero.symm⟩
 intro⟨i,X⟩ ⟨hi,hX⟩ AA hAA;simp only[kL,Nat.reduceBEq,Nat.reduceEqDiff]
 dsimp only at*
 by_cases hlt:i<A.length
 ·have hnx:=aHa (nm:=gF) (bf:= []) hlt
  have hXl:=aA7 (nm:=gF) (bf:= []) (A:=A.take i)
  rw[<-hX]at hXl hnx
  rw[List.length_take]at hXl
  have hsl:=aVn X
  generalize hai:A[i]=a at*
  obtain⟨n,ts⟩:=a
  by_cases h1:n=gF
  ·by_cases h2:ts.length=1
   ·have hq:oP gF [] (.mk n ts)=true:=decide_eq_true ⟨h1,h2,rfl⟩
    rw[if_pos hq]at hnx
    have h2':0<ts.length:=by omega
    have hT:vI [] (.mk n ts)=ts[0]:=by
     unfold vI
     rw[cM,List.length_nil,List.getD_eq_getElem?_getD,List.getElem?_eq_getElem h2'];rfl
    rw[hT]at hnx
    have hu:=aVl (dK X) ts[0] (decide (X= [])) (K8 X) (by omega)
    rw[<-aVm]at hu
    have hne:(X++ [ts[0]]= [])=False:=by simp
    generalize hY:dK (X++ [ts[0]])=Y at*
    repeat' (first|(refine aE fun _ _=>?_)|refine zHg ?_|refine aI rfl (hu) (by simp) ?_|(refine(hAA.next ((i+1,X++ [ts[0]])) (Le.sub4 rfl (by simp[go_sem,hY,hne])) (by(try dsimp only);omega) ?_))|simp(disch:=omega) [go_sem,hlt,hai,h1,h2,h2'])
    try any_goals omega
    all_goals exact⟨hlt,hnx.symm⟩
   ·have hq:oP gF [] (.mk n ts)=false:=decide_eq_false (fun h=>h2 h.2.1)
    rw[hq,if_neg (by simp),List.append_nil]at hnx
    have h2i: ¬(ts.length:Int)=1:=by omega
    repeat' (first|(refine aE fun _ _=>?_)|refine zHg ?_|(refine(hAA.next ((i+1,X)) (Le.sub4 rfl (by simp[go_sem])) (by(try dsimp only);omega) ?_))|simp(disch:=omega) [go_sem,hlt,hai,h1,h2,h2i])
    try any_goals omega
    all_goals exact⟨hlt,hnx.symm⟩
  ·have hq:oP gF [] (.mk n ts)=false:=decide_eq_false (fun h=>h1 h.1)
   rw[hq,if_neg (by simp),List.append_nil]at hnx
   repeat' (first|(refine aE fun _ _=>?_)|refine zHg ?_|(refine(hAA.next ((i+1,X)) (Le.sub4 rfl (by simp[go_sem])) (by(try dsimp only);omega) ?_))|simp(disch:=omega) [go_sem,hlt,hai,h1])
   try any_goals omega
   all_goals exact⟨hlt,hnx.symm⟩
 ·obtain rfl:i=A.length:=by omega
  rw[List.take_length]at hX
  subst hX
  repeat' (first|(refine aE fun _ _=>?_)|refine zHg ?_|(refine aL [] ?_;simp[go_sem])|simp(disch:=omega) [go_sem])
theorem aVo (A:List Tm) (nm:ByteArray) (r:Tm) (le fu:Bool) (hl:A.length<=1000000):ACall prog 41 [.list le fu (A.map aP),.sc (.string nm),eT r] (fun v=>v= .list false (decide (dP nm [r] A= [])) ((dK (dP nm [r] A)).map aP)):=by
 have hzero:dP nm [r] (A.take 0)= []:=rfl
 have hs0:dK []= []:=rfl
 refine aX func41 call41 rfl (by simp[ntmps41]) ?_;simp only[ntmps41,results41]
 repeat' (first|(refine aE fun _ _=>?_)|refine zHg ?_|simp(disch:=omega) [go_sem])
 refine bZ [0,1,5] [] (fun x:Nat×List Tm=> [(8,nt .i64 x.1),(7,.list false (decide (x.2= [])) ((dK x.2).map aP))]) (fun x:Nat×List Tm=> []) (fun x:Nat×List Tm=>A.length - x.1) (fun x:Nat×List Tm=>x.1<=A.length/\x.2=dP nm [r] (A.take x.1)) ((0,[])) (Le.sub4 rfl (by simp[go_sem,hs0,List.map_nil])) ⟨?_⟩ ?_
 ·exact⟨Nat.zero_le _,hzero.symm⟩
 intro⟨i,X⟩ ⟨hi,hX⟩ AA hAA;simp only[kL,Nat.reduceBEq,Nat.reduceEqDiff]
 dsimp only at*
 by_cases hlt:i<A.length
 ·have hnx:=aHa (nm:=nm) (bf:= [r]) hlt
  have hXl:=aA7 (nm:=nm) (bf:= [r]) (A:=A.take i)
  rw[<-hX]at hXl hnx
  rw[List.length_take]at hXl
  have hsl:=aVn X
  generalize hai:A[i]=a at*
  obtain⟨n,ts⟩:=a
  by_cases h1:n=nm
  ·by_cases h2:ts.length=2
   ·have h2':0<ts.length:=by omega
    have h2'':1<ts.length:=by omega
    have hp:=aTs ts[0] r
    have htk:ts.take 1= [r]↔ts[0]=r:=by
     match ts,h2 with
     | [x,y],_=>simp
    by_cases h3:ts[0]=r
    ·rw[decide_eq_true h3]at hp
     have hq:oP nm [r] (.mk n ts)=true:=decide_eq_true ⟨h1,h2,htk.2 h3⟩
     rw[if_pos hq]at hnx
     have hT:vI [r] (.mk n ts)=ts[1]:=by
      unfold vI
      rw[cM,List.getD_eq_getElem?_getD,List.length_singleton,List.getElem?_eq_getElem h2''];rfl
     rw[hT]at hnx
     have hu:=aVl (dK X) ts[1] (decide (X= [])) (K8 X) (by omega)
     rw[<-aVm]at hu
     have hne:(X++ [ts[1]]= [])=False:=by simp
     generalize hY:dK (X++ [ts[1]])=Y at*
     clear htk hq hT
     repeat' (first|(refine aE fun _ _=>?_)|refine zHg ?_|refine bI rfl (hp) rfl (by simp) ?_|refine aI rfl (hu) (by simp) ?_|(refine(hAA.next ((i+1,X++ [ts[1]])) (Le.sub4 rfl (by simp[go_sem,hY,hne])) (by(try dsimp only);omega) ?_))|simp(disch:=omega) [go_sem,hlt,hai,h1,h2,h2',h2'']|refine zDr 27 bA ?_|fail)
     try any_goals omega
     all_goals exact⟨hlt,hnx.symm⟩
    ·rw[decide_eq_false h3]at hp
     have hq:oP nm [r] (.mk n ts)=false:=decide_eq_false (fun h=>h3 (htk.1 h.2.2))
     rw[hq,if_neg (by simp),List.append_nil]at hnx
     clear htk hq
     repeat' (first|(refine aE fun _ _=>?_)|refine zHg ?_|refine bI rfl (hp) rfl (by simp) ?_|(refine(hAA.next ((i+1,X)) (Le.sub4 rfl (by simp[go_sem])) (by(try dsimp only);omega) ?_))|simp(disch:=omega) [go_sem,hlt,hai,h1,h2,h2']|refine zDr 27 bA ?_|fail)
     try any_goals omega
     all_goals exact⟨hlt,hnx.symm⟩
   ·have hq:oP nm [r] (.mk n ts)=false:=decide_eq_false (fun h=>h2 h.2.1)
    rw[hq,if_neg (by simp),List.append_nil]at hnx
    have h2i: ¬(ts.length:Int)=2:=by omega
    repeat' (first|(refine aE fun _ _=>?_)|refine zHg ?_|(refine(hAA.next ((i+1,X)) (Le.sub4 rfl (by simp[go_sem])) (by(try dsimp only);omega) ?_))|simp(disch:=omega) [go_sem,hlt,hai,h1,h2,h2i]|refine zDr 27 bA ?_|fail)
    try any_goals omega
    all_goals exact⟨hlt,hnx.symm⟩
  ·have hq:oP nm [r] (.mk n ts)=false:=decide_eq_false (fun h=>h1 h.1)
   rw[hq,if_neg (by simp),List.append_nil]at hnx
   repeat' (first|(refine aE fun _ _=>?_)|refine zHg ?_|(refine(hAA.next ((i+1,X)) (Le.sub4 rfl (by simp[go_sem])) (by(try dsimp only);omega) ?_))|simp(disch:=omega) [go_sem,hlt,hai,h1]|refine zDr 27 bA ?_|fail)
   try any_goals omega
   all_goals exact⟨hlt,hnx.symm⟩
 ·obtain rfl:i=A.length:=by omega
  rw[List.take_length]at hX
  subst hX
  repeat' (first|(refine aE fun _ _=>?_)|refine zHg ?_|(refine aL [] ?_;simp[go_sem])|simp(disch:=omega) [go_sem])
theorem dM5 (A:List Tm) (r:Tm) (le fu:Bool) (hl:A.length<=1000000):ACall prog 20 [.list le fu (A.map aP),eT r] (fun v=>v= .list false (decide (dP jB [r] A= [])) ((dK (dP jB [r] A)).map aP)):=by
 have h:=aVo A jB r le fu hl
 generalize decide (dP jB [r] A= [])=f at*
 generalize dK (dP jB [r] A)=Y at*
 refine aX func20 call20 rfl (by simp[ntmps20]) ?_;simp only[ntmps20,results20]
 repeat' (first|(refine aE fun _ _=>?_)|refine zHg ?_|(refine aL [] ?_;simp[go_sem])|refine aI rfl (h) (by simp) ?_|simp(disch:=omega) [go_sem])
theorem dM6 (A:List Tm) (r:Tm) (le fu:Bool) (hl:A.length<=1000000):ACall prog 22 [.list le fu (A.map aP),eT r] (fun v=>v= .list false (decide (dP oQ [r] A= [])) ((dK (dP oQ [r] A)).map aP)):=by
 have h:=aVo A oQ r le fu hl
 generalize decide (dP oQ [r] A= [])=f at*
 generalize dK (dP oQ [r] A)=Y at*
 refine aX func22 call22 rfl (by simp[ntmps22]) ?_;simp only[ntmps22,results22]
 repeat' (first|(refine aE fun _ _=>?_)|refine zHg ?_|(refine aL [] ?_;simp[go_sem])|refine aI rfl (h) (by simp) ?_|simp(disch:=omega) [go_sem])
end Go.Proofs.YtgmibdiofkmmbaaGreatDoor
