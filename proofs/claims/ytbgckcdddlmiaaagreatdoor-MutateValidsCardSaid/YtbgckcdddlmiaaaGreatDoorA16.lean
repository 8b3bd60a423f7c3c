import Derived.Test.YtbgckcdddlmiaaaGreatDoorA7
import Derived.Shelf.GgSortFunc.RowK
import Derived.Shelf.GgSortFunc.InsertionK
set_option linter.all false
namespace Go.Ab
open Go.RowKit Go.Sort Go.Proofs
abbrev eK {α:Type} (enc:α->List Value) (x:α):AV:= .agg ((enc x).map .sc)
theorem bJj {P:Program} {g:FuncId} {α:Type} (enc:α->List Value) (h1: ∀x,∀v∈enc x,one v=true) (hsc: ∀x,∀v∈enc x,gD v=true) (cf:α->α->Int) (hcmp: ∀x y,@ACall P (Glob.none P) g [eK enc x,eK enc y] (fun r=>r=nt .i64 (cf x y))) (x y:α) (W:World):
 Calls P g #[.agg (enc x).toArray,.agg (enc y).toArray] W fun e w'=>e= .returned (.int .i64 (cf x y))/\ ∃(q:Nat) (os':Array Obj),w'=Sort.grow (W.drewN q) os':=by
 have hag: ∀{F loc} (z:α),RV F loc (eK enc z) (.agg (enc z).toArray):=fun {F loc} z=>by
  refine .agg (by simp) (fun i a v ha hv=>?_) fun i v hv=>?_
  ·rw[List.getElem?_map,Option.map_eq_some_iff]at ha
   obtain⟨u,hu,rfl⟩:=ha
   simp only[List.getElem?_toArray]at hv
   rw[hv]at hu
   cases hu
   exact .sc (hsc z _ (List.mem_of_getElem? hv))
  ·simp only[List.getElem?_toArray]at hv
   exact h1 z _ (List.mem_of_getElem? hv)
 refine((hcmp x y).2 W noF #[.agg (enc x).toArray,.agg (enc y).toArray] aFv (aIp W) rfl fun i a v ha hv=>?_).mono ?_
 ·rcases i with _|_|i
  ·simp at ha hv;subst ha;subst hv;exact hag x
  ·simp at ha hv;subst ha;subst hv;exact hag y
  ·simp at ha
 ·rintro e W' ⟨v,r,F',he,hr,hp,hv⟩
  subst hr
  obtain⟨p,hv⟩:=(show ∃p,ResV1 F' W' W.heap.size p v (nt .i64 (cf x y))from hv)
  obtain⟨_,hv⟩:=(show AV.pure (nt .i64 (cf x y))=true/\RV F' bU (nt .i64 (cf x y)) v from hv)
  cases hv
  exact⟨he,aIw hp.fr⟩
section
variable {α : Type} [Inhabited α] {enc : α -> List Value} {k kd : Nat}
theorem bJk {C F} {μ:Pl} {w:World} {l:List α} (hk: ∀x,(enc x).length=k) (hkd:kd≠1) (hl:l≠ []) (hsw:SW C F μ [(1000,bB (eK enc) k kd l)] w):
 ∃b cap,μ 1000=some (b,cap)/\b<w.heap.size/\l.length<=cap/\HoldsK enc k w b 0 l.toArray/\
  ∀v,RV F (aE [(1000,bB (eK enc) k kd l)] μ) (.ref 1000 0 l.length) v->v= .slice (some ⟨b,0,none⟩) l.length cap:=by
 have hob:=hsw.obj 1000 (bB (eK enc) k kd l) (by simp[lk])
 cases hm:μ 1000 with
 |none=>
  rw[hm]at hob
  have:l.map (eK enc)= []:=hob
  exact absurd (by simpa using this) hl
 |some p=>
  obtain⟨b,cap⟩:=p
  rw[hm]at hob
  have hob':ObjAt F (aE [(1000,bB (eK enc) k kd l)] μ) w (bB (eK enc) k kd l) b cap:=hob
  obtain⟨c,e,g1,g2,g3,g4,g5,g6,g7⟩:=hob'.std hkd
  simp only[List.length_map]at g3 g4
  have hbs:=gJ g1
  have hn0:l.length≠0:=fun h=>hl (List.eq_nil_of_length_eq_zero h)
  refine⟨b,cap,rfl,hbs,g3,fun j hj=>?_,fun v0 r0=>?_⟩
  ·have hj:j<l.length*k:=by simpa using hj
   have hk0:0<k:=by rcases Nat.eq_zero_or_pos k with h|h;subst h;simp at hj;exact h
   have hd:j / k<l.length:=Nat.div_lt_of_lt_mul (by rw[Nat.mul_comm];exact hj)
   have hm':j % k<k:=Nat.mod_lt _ hk0
   have hlen:j % k<(enc l[j / k]).length:=by rw[hk];exact hm'
   obtain⟨v,k1,k2,k3,k4⟩:=g6 (j / k) (eK enc l[j / k]) (j % k) (.sc (enc l[j / k])[j % k]) (by simp[hd]) (by simp[AV.cells,eK,hlen])
   cases k3
   have hjk:j / k*k+j % k=j:=by rw[Nat.mul_comm];exact Nat.div_add_mod j k
   have k1':c[j]?=some (enc l[j / k])[j % k]:=by
    have:(bB (eK enc) k kd l).es=k:=rfl
    rw[this,hjk]at k1
    exact k1
   have e2:(flatK enc k l.toArray)[j]! =(enc l[j / k])[j % k]:=by
    rw[get_flatK _ _ _ _ (by simpa using hj)]
    simp[hd,hlen]
   rw[e2,Nat.zero_add]
   exact⟨by simp[World.cell?,g1,k1'],by simp[World.frozen?,g1]⟩
  ·generalize l.length=n at r0 hn0
   cases r0 with
   |refNil=>exact absurd rfl hn0
   |ref q1 q2 q3 q4 q5=>
    simp only[aE,lk,if_true,Option.map_some,hm,Option.some.injEq]at q1
    rw[lE (x:=bB (eK enc) k kd l) hkd]at q1
    simp only[LI.mk.injEq,Option.some.injEq,Prod.mk.injEq]at q1
    obtain⟨⟨rfl,rfl⟩,rfl,_,_⟩:=q1
    obtain rfl:=q5 rfl
    obtain rfl:=q4 (.inl hn0)
    simp
theorem bJl {C F} {μ:Pl} {w:World} {l:List α} (hk: ∀x,(enc x).length=k) (hone: ∀x,∀v∈enc x,one v=true) (hsc: ∀x,∀v∈enc x,gD v=true) (hkd:kd≠1) (hsw:SW C F μ [(1000,bB (eK enc) k kd l)] w)
 {b cap:Nat} (hm:μ 1000=some (b,cap)) (d':Array α) (hlen':d'.toList.length=l.length) (n:Nat) (os:Array Obj):
 SW C F μ [(1000,bB (eK enc) k kd d'.toList)] (Sort.grow (putRowK enc k (Sort.ahead w n) b 0 d') os):=by
 have hob:=hsw.obj 1000 (bB (eK enc) k kd l) (by simp[lk])
 rw[hm]at hob
 have hob':ObjAt F (aE [(1000,bB (eK enc) k kd l)] μ) w (bB (eK enc) k kd l) b cap:=hob
 obtain⟨c,e,g1,g2,g3,g4,g5,g6,g7⟩:=hob'.std hkd
 simp only[List.length_map]at g3 g4
 have hblk:(putRowK enc k w b 0 d').heap[b]?=some (.cells (putCells id 0 (flatK enc k d') c) e (0,0)):=by
  unfold putRowK putRow mapBlock
  simp only[Array.getElem?_modify,if_true,g1,Option.map_some,onCells]
 have t1:SW C F μ (bR [(1000,bB (eK enc) k kd l)] 1000 (bB (eK enc) k kd d'.toList)) (putRowK enc k w b 0 d'):=by
  have hxl:(bB (eK enc) k kd d'.toList).xs.length=(bB (eK enc) k kd l).xs.length:=by simp only[List.length_map];exact hlen'
  refine hsw.turn (x:=bB (eK enc) k kd l) (x':=bB (eK enc) k kd d'.toList) (by simp[lk]) (fun p=>nE (x:=bB (eK enc) k kd d'.toList) (y:=bB (eK enc) k kd l) rfl hxl rfl p) rfl rfl hm rfl rfl ⟨rfl,rfl,rfl,by simp[putRowK],fun q hq hqb=>?_,Nat.le_refl _⟩ (by simp[putRowK]) (.inl ⟨putCells id 0 (flatK enc k d') c,e,hblk,?_,?_,?_,?_,fun i y j a hy hj=>?_,?_⟩)
  ·unfold putRowK putRow mapBlock
   simp only[Array.getElem?_modify]
   rw[if_neg (fun q=>hqb q.symm)]
  ·rw[<-g2];simp[putCells]
  ·simp only[List.length_map,hlen'];exact g3
  ·simp only[List.length_map,hlen'];exact g4
  ·intro y hy
   obtain⟨x,_,rfl⟩:=List.mem_map.1 hy
   simp[AV.cells,hk]
  ·simp only[List.getElem?_map,Option.map_eq_some_iff]at hy
   obtain⟨x,hx,rfl⟩:=hy
   simp only[AV.cells,List.getElem?_map,Option.map_eq_some_iff]at hj
   obtain⟨u,hu,rfl⟩:=hj
   have hjk:j<k:=by rw[<-hk x];exact(List.getElem?_eq_some_iff.1 hu).1
   have hi:i<d'.size:=by
    have:=(List.getElem?_eq_some_iff.1 hx).1
    simpa using this
   have hil:i<l.length:=by rw[<-hlen'];simpa using hi
   have hlt:i*k+j<d'.size*k:=by
    have:=Nat.mul_le_mul_right k (show i+1<=d'.size by omega)
    rw[Nat.succ_mul]at this;omega
   have hcs:d'.size*k<=c.size:=by
    rw[g2]
    have h6:d'.size=l.length:=by simpa using hlen'
    have:d'.size<=cap:=by omega
    exact Nat.mul_le_mul_right k this
   have hxe:d'[i]! =x:=by
    have h5:=(List.getElem?_eq_some_iff.1 hx).2
    simp only[Array.getElem_toList]at h5
    rw[getElem!_pos d' i hi];exact h5
   have hfl:(flatK enc k d')[i*k+j]! =u:=by
    rw[get_flatK _ _ _ _ hlt]
    have e1:(i*k+j) / k=i:=by rw[Nat.mul_comm,Nat.mul_add_div (by omega),Nat.div_eq_of_lt hjk,Nat.add_zero]
    have e2:(i*k+j) % k=j:=by rw[Nat.mul_comm,Nat.mul_add_mod,Nat.mod_eq_of_lt hjk]
    rw[e1,e2,hxe]
    have:=(List.getElem?_eq_some_iff.1 hu)
    rw[getElem!_pos _ j this.1]
    exact this.2
   refine⟨u,?_,hone x u (List.mem_of_getElem? hu),.sc (hsc x u (List.mem_of_getElem? hu)),fun hz=>by cases hz⟩
   show(putCells id 0 (flatK enc k d') c)[i*k+j]?=some u
   simp only[putCells,Array.getElem?_mapIdx]
   rw[Array.getElem?_eq_getElem (show i*k+j<c.size by omega)]
   simp only[Option.map_some,Nat.zero_le,true_and,Nat.zero_add,size_flatK,hlt,if_true,Nat.sub_zero,hfl,id]
  ·exact g7
 have t2:SW C F μ [(1000,bB (eK enc) k kd d'.toList)] (putRowK enc k w b 0 d'):=t1.same fun L=>by
  simp only[bR,lk]
  split<;>rfl
 have t3:SW C F μ [(1000,bB (eK enc) k kd d'.toList)] (putRowK enc k (Sort.ahead w n) b 0 d'):=t2.drew rfl rfl rfl rfl (Nat.le_add_right _ _)
 exact t3.later ⟨rfl,rfl,rfl,by simp,fun k hk _=>heap_grow_old _ os hk,Nat.le_refl _⟩
end
theorem bJm {P:Program} [Glob P] {f g:FuncId} {α:Type} [Inhabited α] (enc:α->List Value) {k:Nat} (hk: ∀x,(enc x).length=k) (hone: ∀x,∀v∈enc x,one v=true) (hsc: ∀x,∀v∈enc x,gD v=true) (lt:α->α->Bool) (kd:Nat) (hkd:kd≠1) (l:List α) (hl:l≠ [])
 (hf: ∀cargs w,(callFunc f cargs).run P w= .ok (.enter f cargs) w)
 (hS: ∀(blk cap:Nat) (w:World),HoldsK enc k w blk 0 l.toArray->blk<w.heap.size->Calls P f #[.slice (some ⟨blk,0,none⟩) l.length cap,.func (.func g) #[] #[]] w fun e w'=>
  e= .returned (.tuple #[])/\ ∃(d':Array α) (n:Nat) (os:Array Obj),PermIn 0 l.length l.toArray d'/\SortedIn lt 0 l.length d'/\w'=sortWorldK enc k w blk 0 n d' os):
 MCall P f [.ref 1000 0 l.length,.clo g []] [(1000,bB (eK enc) k kd l)] (fun r o'=> ∃m:List α,(m.Perm l/\m.Pairwise (fun x y=>lt y x=false))/\r= .tup []/\o'= [(1000,bB (eK enc) k kd m)]):=by
 refine⟨hf,fun C F μ w cargs h0 h1 h2 h3 h4 hsw hlen ha=>?_⟩
 obtain⟨b,cap,hm,hbs,hcap,hH,hval⟩:=bJk hk hkd hl hsw
 obtain⟨v0,v1,rfl⟩: ∃v0 v1,cargs= #[v0,v1]:=by
  obtain⟨cs⟩:=cargs
  rcases cs with _|⟨v0,_|⟨v1,_|⟨v2,r⟩⟩⟩
  ·simp at hlen
  ·simp at hlen
  ·exact⟨v0,v1,rfl⟩
  ·simp at hlen
 have hv0:=hval _ (ha 0 _ _ rfl rfl)
 have r1:=ha 1 _ _ rfl rfl
 have hv1:v1= .func (.func g) #[] #[]:=by
  cases r1 with
  | @clo _ _ _ _ vs hsz _=>
   have:vs= #[]:=Array.eq_empty_of_size_eq_zero (by simpa using hsz.symm)
   rw[this]
 subst hv0 hv1
 refine(hS b cap w hH hbs).mono ?_
 rintro e' w' ⟨rfl,d',n,os,hp,hs,rfl⟩
 obtain⟨p1,_,p3⟩:=hp
 simp only[List.size_toArray]at p1
 have hperm:d'.toList.Perm l:=by
  have e1:d'.extract 0 l.length=d':=by rw[<-p1];simp
  have e2:l.toArray.extract 0 l.length=l.toArray:=by simp
  rw[e1,e2]at p3
  simpa using p3
 refine⟨.tuple #[],.tup [],_,F,μ,rfl,⟨d'.toList,⟨hperm,?_⟩,rfl,rfl⟩,bJl hk hone hsc hkd hsw hm d' hperm.length_eq n os,.tup rfl (fun i a v h=>by simp at h)⟩
 rw[List.pairwise_iff_getElem]
 intro i j hi hj hij
 have hi':i<d'.size:=by simpa using hi
 have hj':j<d'.size:=by simpa using hj
 have:=hs i j (Nat.zero_le _) hij (by omega)
 simpa[hi',hj']using this
end Go.Ab
