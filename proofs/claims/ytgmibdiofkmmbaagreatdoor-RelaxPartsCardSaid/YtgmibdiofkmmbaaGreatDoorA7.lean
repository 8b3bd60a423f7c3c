import Derived.Test.YtgmibdiofkmmbaaGreatDoorA6
import Derived.Deep.Draws
import Derived.Sort.Grow
import Derived.Sort.Row
import Derived.Sort.Statements
set_option linter.all false
namespace Go.Ab
open Go.RowKit Go.Sort
theorem SW.later {C F μ} {o:aK} {w w':World} (h:SW C F μ o w) (hf:Fr (fun _=>False) w w'):SW C F μ o w':=by
 have hblk: ∀k,k<w.heap.size->w'.heap[k]?=w.heap[k]?:=fun k hk=>hf.block k hk id
 refine⟨fun l b k v e=>?_,h.sub,h.lentc,h.grow,h.newf,h.fr.trans hf (fun _ _ hh=>hh.elim),?_,h.dist,h.excl,h.mine,h.keep⟩
 ·have hw:=h.facts l b k v e
  rw[sA (hblk b (rA hw))];exact hw
 ·intro L x hx
  have:=h.obj L x hx
  cases hm:μ L with
  |none=>rw[hm]at this;exact this
  |some p=>
   obtain⟨b,c⟩:=p
   rw[hm]at this
   obtain⟨_,g⟩:=ObjAt.lt this
   exact ObjAt.congr this (hblk b (iV g)) (FLe.refl _) (fun _ _=>rfl)
theorem bOu {w w':World} (h:Fr (fun _=>False) w w'): ∃(q:Nat) (os:Array Obj),w'=Sort.grow (w.drewN q) os:=by
 refine⟨w'.drawn - w.drawn,w'.heap.extract w.heap.size w'.heap.size,?_⟩
 obtain⟨hp,tp,dr,os,out⟩:=w
 obtain⟨hp',tp',dr',os',out'⟩:=w'
 obtain⟨h1,h2,h3,h4,h5,h6⟩:=h
 dsimp only at*
 subst h1 h2 h3
 unfold Sort.grow World.drewN
 dsimp only
 congr 1
 ·apply Array.ext_getElem?
  intro k
  rw[Array.getElem?_append]
  split
  ·rename_i hk;exact h5 k hk id
  ·rename_i hk
   rw[Array.getElem?_extract]
   split
   ·rename_i hk2;congr 1;omega
   ·rename_i hk2;rw[Array.getElem?_eq_none];omega
 ·omega
section
variable {α : Type} [Inhabited α] {enc : α -> Value} {kd : Nat}
theorem bOv {C F} {μ:Pl} {w:World} {l:List α} (hkd:kd≠1) (hl:l≠ []) (hsw:SW C F μ [(1000,bP (fun x=> .sc (enc x)) 1 kd l)] w):
 ∃b cap,μ 1000=some (b,cap)/\b<w.heap.size/\l.length<=cap/\Holds enc w b 0 l.toArray/\
  ∀v,RV F (aJ [(1000,bP (fun x=> .sc (enc x)) 1 kd l)] μ) (.ref 1000 0 l.length) v->v= .slice (some ⟨b,0,none⟩) l.length cap:=by
 have hob:=hsw.obj 1000 (bP (fun x=> .sc (enc x)) 1 kd l) (by simp[lk])
 cases hm:μ 1000 with
 |none=>
  rw[hm]at hob
  have:l.map (fun x=>AV.sc (enc x))= []:=hob
  exact absurd (by simpa using this) hl
 |some p=>
  obtain⟨b,cap⟩:=p
  rw[hm]at hob
  have hob':ObjAt F (aJ [(1000,bP (fun x=>AV.sc (enc x)) 1 kd l)] μ) w (bP (fun x=>AV.sc (enc x)) 1 kd l) b cap:=hob
  obtain⟨c,e,g1,g2,g3,g4,g5,g6,g7⟩:=hob'.std hkd
  simp only[List.length_map]at g3 g4
  have hbs:=iV g1
  have hn0:l.length≠0:=fun h=>hl (List.eq_nil_of_length_eq_zero h)
  have hcell: ∀(j:Nat) (h:j<l.length),c[j]?=some (enc l[j]):=fun j h=>by
   obtain⟨v,k1,k2,k3,k4⟩:=g6 j (.sc (enc l[j])) 0 (.sc (enc l[j])) (by simp[h]) rfl
   cases k3
   simpa using k1
  refine⟨b,cap,rfl,hbs,g3,fun j hj=>?_,fun v0 r0=>?_⟩
  ·have hj:j<l.length:=by simpa using hj
   have e2:l.toArray[j]! =l[j]:=by simp[hj]
   rw[e2,Nat.zero_add]
   exact⟨by simp[World.cell?,g1,hcell j hj],by simp[World.frozen?,g1]⟩
  ·generalize l.length=n at r0 hn0
   cases r0 with
   |refNil=>exact absurd rfl hn0
   |ref q1 q2 q3 q4 q5=>
    simp only[aJ,lk,if_true,Option.map_some,hm,Option.some.injEq]at q1
    rw[nQ (x:=bP (fun x=>AV.sc (enc x)) 1 kd l) hkd]at q1
    simp only[LI.mk.injEq,Option.some.injEq,Prod.mk.injEq]at q1
    obtain⟨⟨rfl,rfl⟩,rfl,_,_⟩:=q1
    obtain rfl:=q5 rfl
    obtain rfl:=q4 (.inl hn0)
    simp
theorem bOw {C F} {μ:Pl} {w:World} {l:List α} (hone: ∀x,one (enc x)=true) (hsc: ∀x,jO (enc x)=true) (hkd:kd≠1) (hsw:SW C F μ [(1000,bP (fun x=> .sc (enc x)) 1 kd l)] w)
 {b cap:Nat} (hm:μ 1000=some (b,cap)) (d':Array α) (hlen':d'.toList.length=l.length) (n:Nat) (os:Array Obj):
 SW C F μ [(1000,bP (fun x=> .sc (enc x)) 1 kd d'.toList)] (Sort.grow (putRow enc (Sort.ahead w n) b 0 d') os):=by
 have hob:=hsw.obj 1000 (bP (fun x=> .sc (enc x)) 1 kd l) (by simp[lk])
 rw[hm]at hob
 have hob':ObjAt F (aJ [(1000,bP (fun x=>AV.sc (enc x)) 1 kd l)] μ) w (bP (fun x=>AV.sc (enc x)) 1 kd l) b cap:=hob
 obtain⟨c,e,g1,g2,g3,g4,g5,g6,g7⟩:=hob'.std hkd
 simp only[List.length_map]at g3 g4
 have hblk:(putRow enc w b 0 d').heap[b]?=some (.cells (putCells enc 0 d' c) e (0,0)):=by
  unfold putRow mapBlock
  simp only[Array.getElem?_modify,if_true,g1,Option.map_some,onCells]
 have t1:SW C F μ (cL [(1000,bP (fun x=>AV.sc (enc x)) 1 kd l)] 1000 (bP (fun x=>AV.sc (enc x)) 1 kd d'.toList)) (putRow enc w b 0 d'):=by
  have hxl:(bP (fun x=>AV.sc (enc x)) 1 kd d'.toList).xs.length=(bP (fun x=>AV.sc (enc x)) 1 kd l).xs.length:=by simp only[List.length_map];exact hlen'
  refine hsw.turn (x:=bP (fun x=>AV.sc (enc x)) 1 kd l) (x':=bP (fun x=>AV.sc (enc x)) 1 kd d'.toList) (by simp[lk]) (fun p=>oS (x:=bP (fun x=>AV.sc (enc x)) 1 kd d'.toList) (y:=bP (fun x=>AV.sc (enc x)) 1 kd l) rfl hxl rfl p) rfl rfl hm rfl rfl ⟨rfl,rfl,rfl,by simp,fun k hk hkb=>?_,Nat.le_refl _⟩ (by simp) (.inl ⟨putCells enc 0 d' c,e,hblk,?_,?_,?_,?_,fun i y j a hy hj=>?_,g7⟩)
  ·unfold putRow mapBlock
   simp only[Array.getElem?_modify]
   rw[if_neg (fun q=>hkb q.symm)]
  ·rw[<-g2];simp[putCells]
  ·simp only[List.length_map,hlen'];exact g3
  ·simp only[List.length_map,hlen'];exact g4
  ·intro y hy
   obtain⟨x,_,rfl⟩:=List.mem_map.1 hy
   rfl
  ·simp only[List.getElem?_map,Option.map_eq_some_iff]at hy
   obtain⟨x,hx,rfl⟩:=hy
   rcases j with _|j
   ·simp only[AV.cells,List.getElem?_cons_zero,Option.some.injEq]at hj
    subst hj
    have hi:i<d'.size:=by
     have:=(List.getElem?_eq_some_iff.1 hx).1
     simpa using this
    have hil:i<l.length:=by rw[<-hlen'];simpa using hi
    have hic:i<c.size:=by simp only[bP,Nat.mul_one]at g2;omega
    have hxe:d'[i]! =x:=by
     have h5:=(List.getElem?_eq_some_iff.1 hx).2
     simp only[Array.getElem_toList]at h5
     rw[getElem!_pos d' i hi];exact h5
    refine⟨enc x,?_,hone x,.sc (hsc x),fun hz=>by cases hz⟩
    simp only[bP,Nat.mul_one,Nat.add_zero,putCells,Array.getElem?_mapIdx]
    rw[Array.getElem?_eq_getElem hic]
    simp only[Option.map_some,Nat.zero_le,true_and,Nat.zero_add,hi,if_true,Nat.sub_zero,hxe]
   ·simp[AV.cells]at hj
 have t2:SW C F μ [(1000,bP (fun x=>AV.sc (enc x)) 1 kd d'.toList)] (putRow enc w b 0 d'):=t1.same fun L=>by
  simp only[cL,lk]
  split<;>rfl
 have t3:SW C F μ [(1000,bP (fun x=>AV.sc (enc x)) 1 kd d'.toList)] (putRow enc (Sort.ahead w n) b 0 d'):=t2.drew rfl rfl rfl rfl (Nat.le_add_right _ _)
 exact t3.later ⟨rfl,rfl,rfl,by simp,fun k hk _=>heap_grow_old _ os hk,Nat.le_refl _⟩
omit [Inhabited α]in
end
theorem ACall.args {P:Program} [Glob P] {f:FuncId} {as bs:List AV} {R:AV->Prop} (h:ACall P f as R) (hl:bs.length=as.length)
 (hr: ∀(F:Bool->bY) (i:Nat) (a b:AV) (v:Value),as[i]?=some a->bs[i]?=some b->RV F cT b v->RV F cT a v):ACall P f bs R:=
 ⟨h.1,fun w F cargs h0 h1 h2 h3=>h.2 w F cargs h0 h1 (hl▸h2) fun i a v ha hv=>by
  have hi:i<as.length:=(List.getElem?_eq_some_iff.1 ha).1
  exact hr F i a (bs[i]'(by omega)) v ha (List.getElem?_eq_getElem (by omega)) (h3 i _ v (List.getElem?_eq_getElem (by omega)) hv)⟩
end Go.Ab
