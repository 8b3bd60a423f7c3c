import Derived.Test.YtbgckcdddlmiaaaGreatDoorA6
import Derived.Deep.Draws
import Derived.Sort.Grow
import Derived.Sort.Row
import Derived.Sort.Statements
set_option linter.all false
namespace Go.Ab
open Go.RowKit Go.Sort
theorem SW.later {C F μ} {o:aF} {w w':World} (h:SW C F μ o w) (hf:Fr (fun _=>False) w w'):SW C F μ o w':=by
 have hblk: ∀k,k<w.heap.size->w'.heap[k]?=w.heap[k]?:=fun k hk=>hf.block k hk id
 refine⟨fun l b k v e=>?_,h.sub,h.lentc,h.grow,h.newf,h.fr.trans hf (fun _ _ hh=>hh.elim),?_,h.dist,h.excl,h.mine,h.keep⟩
 ·have hw:=h.facts l b k v e
  rw[qG (hblk b (pI hw))];exact hw
 ·intro L x hx
  have:=h.obj L x hx
  cases hm:μ L with
  |none=>rw[hm]at this;exact this
  |some p=>
   obtain⟨b,c⟩:=p
   rw[hm]at this
   obtain⟨_,g⟩:=ObjAt.lt this
   exact ObjAt.congr this (hblk b (gJ g)) (FLe.refl _) (fun _ _=>rfl)
theorem aIw {w w':World} (h:Fr (fun _=>False) w w'): ∃(q:Nat) (os:Array Obj),w'=Sort.grow (w.drewN q) os:=by
 refine⟨w'.drawn - w.drawn,w'.heap.extract w.heap.size w'.heap.size,?_⟩
 obtain⟨hp,tp,dr,os,out⟩:=w
 obtain⟨hp',tp',dr',os',out'⟩:=w'
 obtain⟨h1,h2,h3,h4,h5,h6⟩:=h
 dsimp only at*
 subst h1 h2 h3
 unfold Sort.grow World.drewN
 dsimp only
 congr 1
 ·apply Array.ext_getElem?
  intro k
  rw[Array.getElem?_append]
  split
  ·rename_i hk;exact h5 k hk id
  ·rename_i hk
   rw[Array.getElem?_extract]
   split
   ·rename_i hk2;congr 1;omega
   ·rename_i hk2;rw[Array.getElem?_eq_none];omega
 ·omega
theorem bHf {P:Program} {g:FuncId} {α:Type} (enc:α->Value) (hsc: ∀x,gD (enc x)=true) (cf:α->α->Int) (hcmp: ∀x y,@ACall P (Glob.none P) g [.sc (enc x),.sc (enc y)] (fun r=>r=nt .i64 (cf x y))) (x y:α) (W:World):
 Calls P g #[enc x,enc y] W fun e w'=>e= .returned (.int .i64 (cf x y))/\ ∃(q:Nat) (os':Array Obj),w'=Sort.grow (W.drewN q) os':=by
 refine((hcmp x y).2 W noF #[enc x,enc y] aFv (aIp W) rfl fun i a v ha hv=>?_).mono ?_
 ·rcases i with _|_|i
  ·simp at ha hv;subst ha;subst hv;exact .sc (hsc x)
  ·simp at ha hv;subst ha;subst hv;exact .sc (hsc y)
  ·simp at ha
 ·rintro e W' ⟨v,r,F',he,hr,hp,hv⟩
  subst hr
  obtain⟨p,hv⟩:=(show ∃p,ResV1 F' W' W.heap.size p v (nt .i64 (cf x y))from hv)
  obtain⟨_,hv⟩:=(show AV.pure (nt .i64 (cf x y))=true/\RV F' bU (nt .i64 (cf x y)) v from hv)
  cases hv
  exact⟨he,aIw hp.fr⟩
section
variable {α : Type} [Inhabited α] {enc : α -> Value} {kd : Nat}
theorem aBn {C F} {μ:Pl} {w:World} {l:List α} (hkd:kd≠1) (hl:l≠ []) (hsw:SW C F μ [(1000,bB (fun x=> .sc (enc x)) 1 kd l)] w):
 ∃b cap,μ 1000=some (b,cap)/\b<w.heap.size/\l.length<=cap/\Holds enc w b 0 l.toArray/\
  ∀v,RV F (aE [(1000,bB (fun x=> .sc (enc x)) 1 kd l)] μ) (.ref 1000 0 l.length) v->v= .slice (some ⟨b,0,none⟩) l.length cap:=by
 have hob:=hsw.obj 1000 (bB (fun x=> .sc (enc x)) 1 kd l) (by simp[lk])
 cases hm:μ 1000 with
 |none=>
  rw[hm]at hob
  have:l.map (fun x=>AV.sc (enc x))= []:=hob
  exact absurd (by simpa using this) hl
 |some p=>
  obtain⟨b,cap⟩:=p
  rw[hm]at hob
  have hob':ObjAt F (aE [(1000,bB (fun x=>AV.sc (enc x)) 1 kd l)] μ) w (bB (fun x=>AV.sc (enc x)) 1 kd l) b cap:=hob
  obtain⟨c,e,g1,g2,g3,g4,g5,g6,g7⟩:=hob'.std hkd
  simp only[List.length_map]at g3 g4
  have hbs:=gJ g1
  have hn0:l.length≠0:=fun h=>hl (List.eq_nil_of_length_eq_zero h)
  have hcell: ∀(j:Nat) (h:j<l.length),c[j]?=some (enc l[j]):=fun j h=>by
   obtain⟨v,k1,k2,k3,k4⟩:=g6 j (.sc (enc l[j])) 0 (.sc (enc l[j])) (by simp[h]) rfl
   cases k3
   simpa using k1
  refine⟨b,cap,rfl,hbs,g3,fun j hj=>?_,fun v0 r0=>?_⟩
  ·have hj:j<l.length:=by simpa using hj
   have e2:l.toArray[j]! =l[j]:=by simp[hj]
   rw[e2,Nat.zero_add]
   exact⟨by simp[World.cell?,g1,hcell j hj],by simp[World.frozen?,g1]⟩
  ·generalize l.length=n at r0 hn0
   cases r0 with
   |refNil=>exact absurd rfl hn0
   |ref q1 q2 q3 q4 q5=>
    simp only[aE,lk,if_true,Option.map_some,hm,Option.some.injEq]at q1
    rw[lE (x:=bB (fun x=>AV.sc (enc x)) 1 kd l) hkd]at q1
    simp only[LI.mk.injEq,Option.some.injEq,Prod.mk.injEq]at q1
    obtain⟨⟨rfl,rfl⟩,rfl,_,_⟩:=q1
    obtain rfl:=q5 rfl
    obtain rfl:=q4 (.inl hn0)
    simp
theorem aBo {C F} {μ:Pl} {w:World} {l:List α} (hone: ∀x,one (enc x)=true) (hsc: ∀x,gD (enc x)=true) (hkd:kd≠1) (hsw:SW C F μ [(1000,bB (fun x=> .sc (enc x)) 1 kd l)] w)
 {b cap:Nat} (hm:μ 1000=some (b,cap)) (d':Array α) (hlen':d'.toList.length=l.length) (n:Nat) (os:Array Obj):
 SW C F μ [(1000,bB (fun x=> .sc (enc x)) 1 kd d'.toList)] (Sort.grow (putRow enc (Sort.ahead w n) b 0 d') os):=by
 have hob:=hsw.obj 1000 (bB (fun x=> .sc (enc x)) 1 kd l) (by simp[lk])
 rw[hm]at hob
 have hob':ObjAt F (aE [(1000,bB (fun x=>AV.sc (enc x)) 1 kd l)] μ) w (bB (fun x=>AV.sc (enc x)) 1 kd l) b cap:=hob
 obtain⟨c,e,g1,g2,g3,g4,g5,g6,g7⟩:=hob'.std hkd
 simp only[List.length_map]at g3 g4
 have hblk:(putRow enc w b 0 d').heap[b]?=some (.cells (putCells enc 0 d' c) e (0,0)):=by
  unfold putRow mapBlock
  simp only[Array.getElem?_modify,if_true,g1,Option.map_some,onCells]
 have t1:SW C F μ (bR [(1000,bB (fun x=>AV.sc (enc x)) 1 kd l)] 1000 (bB (fun x=>AV.sc (enc x)) 1 kd d'.toList)) (putRow enc w b 0 d'):=by
  have hxl:(bB (fun x=>AV.sc (enc x)) 1 kd d'.toList).xs.length=(bB (fun x=>AV.sc (enc x)) 1 kd l).xs.length:=by simp only[List.length_map];exact hlen'
  refine hsw.turn (x:=bB (fun x=>AV.sc (enc x)) 1 kd l) (x':=bB (fun x=>AV.sc (enc x)) 1 kd d'.toList) (by simp[lk]) (fun p=>nE (x:=bB (fun x=>AV.sc (enc x)) 1 kd d'.toList) (y:=bB (fun x=>AV.sc (enc x)) 1 kd l) rfl hxl rfl p) rfl rfl hm rfl rfl ⟨rfl,rfl,rfl,by simp,fun k hk hkb=>?_,Nat.le_refl _⟩ (by simp) (.inl ⟨putCells enc 0 d' c,e,hblk,?_,?_,?_,?_,fun i y j a hy hj=>?_,g7⟩)
  ·unfold putRow mapBlock
   simp only[Array.getElem?_modify]
   rw[if_neg (fun q=>hkb q.symm)]
  ·rw[<-g2];simp[putCells]
  ·simp only[List.length_map,hlen'];exact g3
  ·simp only[List.length_map,hlen'];exact g4
  ·intro y hy
   obtain⟨x,_,rfl⟩:=List.mem_map.1 hy
   rfl
  ·simp only[List.getElem?_map,Option.map_eq_some_iff]at hy
   obtain⟨x,hx,rfl⟩:=hy
   rcases j with _|j
   ·simp only[AV.cells,List.getElem?_cons_zero,Option.some.injEq]at hj
    subst hj
    have hi:i<d'.size:=by
     have:=(List.getElem?_eq_some_iff.1 hx).1
     simpa using this
    have hil:i<l.length:=by rw[<-hlen'];simpa using hi
    have hic:i<c.size:=by simp only[bB,Nat.mul_one]at g2;omega
    have hxe:d'[i]! =x:=by
     have h5:=(List.getElem?_eq_some_iff.1 hx).2
     simp only[Array.getElem_toList]at h5
     rw[getElem!_pos d' i hi];exact h5
    refine⟨enc x,?_,hone x,.sc (hsc x),fun hz=>by cases hz⟩
    simp only[bB,Nat.mul_one,Nat.add_zero,putCells,Array.getElem?_mapIdx]
    rw[Array.getElem?_eq_getElem hic]
    simp only[Option.map_some,Nat.zero_le,true_and,Nat.zero_add,hi,if_true,Nat.sub_zero,hxe]
   ·simp[AV.cells]at hj
 have t2:SW C F μ [(1000,bB (fun x=>AV.sc (enc x)) 1 kd d'.toList)] (putRow enc w b 0 d'):=t1.same fun L=>by
  simp only[bR,lk]
  split<;>rfl
 have t3:SW C F μ [(1000,bB (fun x=>AV.sc (enc x)) 1 kd d'.toList)] (putRow enc (Sort.ahead w n) b 0 d'):=t2.drew rfl rfl rfl rfl (Nat.le_add_right _ _)
 exact t3.later ⟨rfl,rfl,rfl,by simp,fun k hk _=>heap_grow_old _ os hk,Nat.le_refl _⟩
omit [Inhabited α]in
theorem bHg {C F} {μ:Pl} {w:World} {m r:List α} (hkd:kd≠1) (h:SW C F μ [(1000,bB (fun x=> .sc (enc x)) 1 kd (m++r))] w) {b cap:Nat} (hm:μ 1000=some (b,cap)):
 SW C F (bJ μ 1001 (some (b,cap))) [(1001,⟨true,false,false,1,m.map (fun x=> .sc (enc x)),kd⟩)] w/\
  aE [(1001,⟨true,false,false,1,m.map (fun x=> .sc (enc x)),kd⟩)] (bJ μ 1001 (some (b,cap))) 1001=some ⟨some (b,cap),1,m.length,false⟩:=by
 have hob:=h.obj 1000 (bB (fun x=> .sc (enc x)) 1 kd (m++r)) (by simp[lk])
 rw[hm]at hob
 have hob':ObjAt F (aE [(1000,bB (fun x=>AV.sc (enc x)) 1 kd (m++r))] μ) w (bB (fun x=>AV.sc (enc x)) 1 kd (m++r)) b cap:=hob
 obtain⟨c,e,g1,g2,g3,g4,g5,g6,g7⟩:=hob'.std hkd
 simp only[List.length_map,List.length_append]at g3 g4
 have hone: ∀L x,lk [(1001,(⟨true,false,false,1,m.map (fun x=>AV.sc (enc x)),kd⟩:AObj))] L=some x->L=1001/\x=⟨true,false,false,1,m.map (fun x=>AV.sc (enc x)),kd⟩:=fun L x hx=>by
  simp only[lk]at hx
  split at hx
  ·rename_i hL;exact⟨hL.symm,(Option.some.inj hx).symm⟩
  ·cases hx
 have hu:bJ μ 1001 (some (b,cap)) 1001=some (b,cap):=by simp[bJ]
 refine⟨⟨h.facts,h.sub,h.lentc,h.grow,h.newf,h.fr,fun L x hx=>?_,fun L x L' x' b1 c1 c2 hx hx' _ _=>?_,fun L x b1 c1 hx hm1 _=>?_,fun L x b1 c1 hx hm1=>?_,fun L x x0 h0 hx hp=>?_⟩,?_⟩
 ·obtain⟨rfl,rfl⟩:=hone L x hx
  rw[hu]
  refine .inl ⟨c,e,g1,g2,by simp only[List.length_map];omega,by simp only[List.length_map];omega,fun y hy=>?_,fun i y j a hy hj=>?_,?_⟩
  ·obtain⟨x,_,rfl⟩:=List.mem_map.1 hy
   rfl
  ·have hil:i<m.length:=by
    have:=(List.getElem?_eq_some_iff.1 hy).1
    simpa using this
   have hy':((m++r).map (fun x=>AV.sc (enc x)))[i]?=some y:=by
    rw[List.map_append,List.getElem?_append_left (by simpa using hil)];exact hy
   exact g6 i y j a hy' hj
  ·rcases g7 with h7|h7
   ·exact .inl h7
   ·exact .inr h7
 ·rw[(hone L x hx).1,(hone L' x' hx').1]
 ·obtain⟨rfl,rfl⟩:=hone L x hx
  rw[hu]at hm1
  obtain⟨rfl,rfl⟩:=Prod.mk.inj (Option.some.inj hm1)
  exact h.excl 1000 (bB (fun x=> .sc (enc x)) 1 kd (m++r)) b cap (by simp[lk]) hm rfl
 ·obtain⟨rfl,rfl⟩:=hone L x hx
  rw[hu]at hm1
  obtain⟨rfl,rfl⟩:=Prod.mk.inj (Option.some.inj hm1)
  exact h.mine 1000 (bB (fun x=> .sc (enc x)) 1 kd (m++r)) b cap (by simp[lk]) hm
 ·obtain⟨rfl,rfl⟩:=hone L x hx
  cases hp
 ·simp only[aE,lk,if_true,Option.map_some,hu]
  rw[lE (x:=⟨true,false,false,1,m.map (fun x=>AV.sc (enc x)),kd⟩) hkd]
  simp only[List.length_map]
end
theorem bHh {P:Program} [Glob P] {f g:FuncId} {α:Type} [Inhabited α] (enc:α->Value) (hone: ∀x,one (enc x)=true) (hsc: ∀x,gD (enc x)=true) (lt:α->α->Bool) (kd:Nat) (hkd:kd≠1) (l:List α) (hl:l≠ [])
 (hf: ∀cargs w,(callFunc f cargs).run P w= .ok (.enter f cargs) w)
 (hS: ∀(blk cap:Nat) (w:World),Holds enc w blk 0 l.toArray->blk<w.heap.size->Calls P f #[.slice (some ⟨blk,0,none⟩) l.length cap,.func (.func g) #[] #[]] w fun e w'=>
  e= .returned (.tuple #[])/\ ∃(d':Array α) (n:Nat) (os:Array Obj),PermIn 0 l.length l.toArray d'/\SortedIn lt 0 l.length d'/\w'=Sort.grow (putRow enc (Sort.ahead w n) blk 0 d') os):
 MCall P f [.ref 1000 0 l.length,.clo g []] [(1000,bB (fun x=> .sc (enc x)) 1 kd l)] (fun r o'=> ∃m:List α,(m.Perm l/\m.Pairwise (fun x y=>lt y x=false))/\r= .tup []/\o'= [(1000,bB (fun x=> .sc (enc x)) 1 kd m)]):=by
 refine⟨hf,fun C F μ w cargs h0 h1 h2 h3 h4 hsw hlen ha=>?_⟩
 obtain⟨b,cap,hm,hbs,hcap,hH,hval⟩:=aBn hkd hl hsw
 obtain⟨v0,v1,rfl⟩: ∃v0 v1,cargs= #[v0,v1]:=by
  obtain⟨cs⟩:=cargs
  rcases cs with _|⟨v0,_|⟨v1,_|⟨v2,r⟩⟩⟩
  ·simp at hlen
  ·simp at hlen
  ·exact⟨v0,v1,rfl⟩
  ·simp at hlen
 have hv0:=hval _ (ha 0 _ _ rfl rfl)
 have r1:=ha 1 _ _ rfl rfl
 have hv1:v1= .func (.func g) #[] #[]:=by
  cases r1 with
  | @clo _ _ _ _ vs hsz _=>
   have:vs= #[]:=Array.eq_empty_of_size_eq_zero (by simpa using hsz.symm)
   rw[this]
 subst hv0 hv1
 refine(hS b cap w hH hbs).mono ?_
 rintro e' w' ⟨rfl,d',n,os,hp,hs,rfl⟩
 obtain⟨p1,_,p3⟩:=hp
 simp only[List.size_toArray]at p1
 have hperm:d'.toList.Perm l:=by
  have e1:d'.extract 0 l.length=d':=by rw[<-p1];simp
  have e2:l.toArray.extract 0 l.length=l.toArray:=by simp
  rw[e1,e2]at p3
  simpa using p3
 refine⟨.tuple #[],.tup [],_,F,μ,rfl,⟨d'.toList,⟨hperm,?_⟩,rfl,rfl⟩,aBo hone hsc hkd hsw hm d' hperm.length_eq n os,.tup rfl (fun i a v h=>by simp at h)⟩
 rw[List.pairwise_iff_getElem]
 intro i j hi hj hij
 have hi':i<d'.size:=by simpa using hi
 have hj':j<d'.size:=by simpa using hj
 have:=hs i j (Nat.zero_le _) hij (by omega)
 simpa[hi',hj']using this
theorem bHi {P:Program} [Glob P] {f:FuncId} {α:Type} [Inhabited α] (enc:α->Value) (hone: ∀x,one (enc x)=true) (hsc: ∀x,gD (enc x)=true) (kd:Nat) (hkd:kd≠1) (l m:List α) (z:α) (hl:l≠ []) (hml:m.length<=l.length)
 (hf: ∀cargs w,(callFunc f cargs).run P w= .ok (.enter f cargs) w)
 (hS: ∀(blk cap:Nat) (w:World),Holds enc w blk 0 l.toArray->l.length<=cap->Calls P f #[.slice (some ⟨blk,0,none⟩) l.length cap] w fun e w'=>
  e= .returned (.slice (some ⟨blk,0,none⟩) m.length cap)/\ ∃q,w'=putRow enc (Sort.ahead w q) blk 0 (m++List.replicate (l.length - m.length) z).toArray):
 MCall P f [.ref 1000 0 l.length] [(1000,bB (fun x=> .sc (enc x)) 1 kd l)] (fun r o'=>r= .ref 1001 0 m.length/\o'= [(1001,⟨true,false,false,1,m.map (fun x=> .sc (enc x)),kd⟩)]):=by
 refine⟨hf,fun C F μ w cargs h0 h1 h2 h3 h4 hsw hlen ha=>?_⟩
 obtain⟨b,cap,hm,hbs,hcap,hH,hval⟩:=aBn hkd hl hsw
 obtain⟨v0,rfl⟩: ∃v0,cargs= #[v0]:=by
  obtain⟨cs⟩:=cargs
  rcases cs with _|⟨v0,_|⟨v1,r⟩⟩
  ·simp at hlen
  ·exact⟨v0,rfl⟩
  ·simp at hlen
 have hv0:=hval _ (ha 0 _ _ rfl rfl)
 subst hv0
 refine(hS b cap w hH hcap).mono ?_
 rintro e' w' ⟨rfl,q,rfl⟩
 have hln:(m++List.replicate (l.length - m.length) z).length=l.length:=by simp;omega
 have ht:=aBo hone hsc hkd hsw hm (m++List.replicate (l.length - m.length) z).toArray hln q #[]
 rw[Sort.grow_empty]at ht
 obtain⟨ht2,hloc⟩:=bHg hkd ht hm
 exact⟨_,_,_,F,_,rfl,⟨rfl,rfl⟩,ht2,.ref hloc (by omega) (by omega) (fun _=>by simp) (fun _=>rfl)⟩
theorem aIx (x y:ByteArray):(x.toList==y.toList)=decide (x=y):=by
 by_cases h:x=y
 ·simp[h]
 ·rw[decide_eq_false h,beq_eq_false_iff_ne]
  exact fun e=>h (toList_inj e)
theorem RV.void {F:Bool->aZ} {loc:Nat->Option LI} {a b c d:Bool} {v:Value} (hc:d=false) (h:RV F loc (.list a b []) v):RV F loc (.list c d []) v:=by
 generalize hx:([]:List AV)=xs at h
 subst hc
 cases h with
 |nil=>exact .nil
 |list h1 h2 h3 h4 h5 h6 h7 h8=>
  subst hx
  exact .list (es:=0) (f:=fun _ _=> .bool true) (o:=0) (by simp) h2 h3 (fun h=>by cases h) (by simp) (by simp) (by simp) (by simp)
theorem ACall.args {P:Program} [Glob P] {f:FuncId} {as bs:List AV} {R:AV->Prop} (h:ACall P f as R) (hl:bs.length=as.length)
 (hr: ∀(F:Bool->aZ) (i:Nat) (a b:AV) (v:Value),as[i]?=some a->bs[i]?=some b->RV F bU b v->RV F bU a v):ACall P f bs R:=
 ⟨h.1,fun w F cargs h0 h1 h2 h3=>h.2 w F cargs h0 h1 (hl▸h2) fun i a v ha hv=>by
  have hi:i<as.length:=(List.getElem?_eq_some_iff.1 ha).1
  exact hr F i a (bs[i]'(by omega)) v ha (List.getElem?_eq_getElem (by omega)) (h3 i _ v (List.getElem?_eq_getElem (by omega)) hv)⟩
end Go.Ab
