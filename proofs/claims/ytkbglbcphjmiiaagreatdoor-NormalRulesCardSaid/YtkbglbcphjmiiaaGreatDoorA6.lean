import Derived.Test.YtkbglbcphjmiiaaGreatDoorA5
import Derived.JoinedCond
set_option linter.unusedSimpArgs false
set_option linter.unusedVariables false
namespace Go.Ab
open Go.RowKit
mutual
def bulkW {H:Type}:DataW H→Nat
 | .lit (.string bytes)=>bytes.length+1
 | .lit _=>1
 | .nil=>1
 | .ptr d=>bulkW d+1
 | .slice elems spare=>bulkL elems+bulkL spare+1
 | .agg parts=>bulkL parts+1
 | .iface _ d=>bulkW d+1
 | .map entries=>bulkE entries+1
 | .held _=>1
def bulkL {H:Type}:List (DataW H)→Nat
 | []=>0
 |d::r=>bulkW d+bulkL r
def bulkE {H:Type}:List (Lit×DataW H)→Nat
 | []=>0
 |x::r=>bulkE1 x+bulkE r
def bulkE1 {H:Type}:Lit×DataW H→Nat
 |(.string bytes,d)=>bytes.length+bulkW d+1
 |(_,d)=>bulkW d+1
end
def sumN {α:Type} (f:α→Nat):List α→Nat
 | []=>0
 |a::r=>f a+sumN f r
section
variable {H : Type} {enc : TypeId × Value → H} {P : Program} {w : World}
def CameB (enc:TypeId×Value→H) (P:Program) (w:World) {α:Type} (n:Nat) (t:TypeId) (en:α→AV) (mz:α→Nat) (ok:α→Prop):Prop:=
 ∀cs d ps,DataW.trod enc P w 0 (fun _=>true) true n t cs=some (d,ps)→(∀m∈d.weights P t,m≤reachBytes)→ ∃x,(ok x∧mz x≤bulkW d)∧CellsR w (en x).cells cs
theorem sumN_le {α:Type} {f:α→Nat}: ∀{l:List α} {ds:List (DataW H)},l.length≤ds.length→(∀(i:Nat) (x:α),l[i]?=some x→ ∃d,ds[i]?=some d∧f x≤bulkW d)→sumN f l≤bulkL ds
 | [],_,_,_=>Nat.zero_le _
 |x::r,[],h,_=>by simp at h
 |x::r,d::ds,h,hx=>by
  obtain⟨d',h1,h2⟩:=hx 0 x rfl
  obtain rfl:d=d':=by simpa using h1
  exact Nat.add_le_add h2 (sumN_le (by simpa using h) fun i y hy=>by
   obtain⟨e,h3,h4⟩:=hx (i+1) y (by simpa using hy)
   exact⟨e,by simpa using h3,h4⟩)
theorem CameB.slice {n:Nat} {t e:TypeId} {α:Type} {en:α→AV} {mz:α→Nat} {ok:α→Prop} (hu:P.underlying t=some (.slice e)) (hes:0<P.cellsOf e) (hb:0<P.bytesOf e) (h1:CameB enc P w n e en mz ok):
 CameB enc P w (n+1) t (fun l:List α=> .list false false (l.map en)) (fun l=>sumN mz l+1) (fun l=>(∀x∈l,ok x)∧l.length*P.bytesOf e≤reachBytes):=by
 intro cs d ps h hw
 rw[DataW.trod_step]at h
 unfold DataW.trodStep at h
 rw[hu]at h
 split at h
 case h_7=>
  obtain⟨rfl,rfl⟩:=Prod.mk.inj (Option.some.inj h)
  exact⟨[],⟨⟨by simp,by simp⟩,Nat.le_refl _⟩,CellsR.one1 .nil rfl⟩
 case h_8 e' a len cap hk=>
  obtain rfl:e=e':=by simpa using hk
  simp only at h
  split at h
  ·rename_i hc
   obtain⟨hc1,hc2,hc3⟩:=hc
   simp only[if_true,Option.map_eq_some_iff,Option.bind_eq_some_iff]at h
   obtain⟨elems,he,rest,hrest,hd⟩:=h
   obtain⟨rfl,rfl⟩:=Prod.mk.inj hd
   have hlen:elems.length=len:=by simpa using mapM_some_length he
   have hrl:rest.length=cap - len:=by simpa using mapM_some_length hrest
   have hel: ∀i,i<len→ ∃x:α,(ok x∧ ∃d,(elems[i]?).map (·.1)=some d∧mz x≤bulkW d)∧ ∃vs:List Value,CellsR w (en x).cells vs∧vs.length=P.cellsOf e∧ ∀j,j<P.cellsOf e→w.cell? ((a.add (i*P.cellsOf e)).add j)=vs[j]?:=by
    intro i hi
    have hy:=mapM_some_get he i i (by simp[hi])
    have hlt:i<elems.length:=by omega
    rw[List.getElem?_eq_getElem hlt]at hy
    simp only[Option.bind_eq_some_iff]at hy
    obtain⟨vs,hv1,hv2⟩:=hy
    obtain⟨_,c2,c3⟩:=World.cells?_some hv1
    obtain⟨x,hx1,hx2⟩:=h1 vs elems[i].1 elems[i].2 hv2 (fun m hm=>hw m (by
     simp only[DataW.weights,hu,List.mem_cons,List.mem_append]
     exact .inr (.inl (weightsAll_mem (List.mem_map.2 ⟨_,List.getElem_mem hlt,rfl⟩) m hm))))
    exact⟨x,⟨hx1.1,_,by rw[List.getElem?_eq_getElem hlt];rfl,hx1.2⟩,vs,hx2,c2,c3⟩
   have hwt:(len+(cap - len))*P.bytesOf e≤reachBytes:=by
    have:=hw ((elems.length+rest.length)*P.bytesOf e) (by simp[DataW.weights,hu])
    rw[hlen,hrl]at this;exact this
   have hwl:len*P.bytesOf e≤reachBytes:=Nat.le_trans (Nat.mul_le_mul_right _ (by omega)) hwt
   have hch: ∃l:List α,l.length=len∧ ∀(i:Nat) (x:α),l[i]?=some x→(ok x∧ ∃d,(elems[i]?).map (·.1)=some d∧mz x≤bulkW d)∧ ∃vs:List Value,CellsR w (en x).cells vs∧vs.length=P.cellsOf e∧ ∀j,j<P.cellsOf e→w.cell? ((a.add (i*P.cellsOf e)).add j)=vs[j]?:=by
    clear he hrest hw hd hwt hwl hc2 hrl
    clear hlen
    induction len with
    |zero=>exact⟨[],rfl,fun i x hx=>by simp at hx⟩
    |succ m ih=>
     obtain⟨l,g1,g2⟩:=ih (fun i hi=>hel i (by omega))
     obtain⟨x,hx⟩:=hel m (by omega)
     refine⟨l++ [x],by simp[g1],fun i y hy=>?_⟩
     by_cases hi:i<l.length
     ·rw[List.getElem?_append_left hi]at hy;exact g2 i y hy
     ·rw[List.getElem?_append_right (by omega)]at hy
      cases hq:i - l.length with
      |zero=>
       rw[hq]at hy;simp at hy;subst hy
       obtain rfl:i=m:=by omega
       exact hx
      |succ q=>rw[hq]at hy;simp at hy
   obtain⟨l,g1,g2⟩:=hch
   have hbk:sumN mz l≤bulkL (elems.map (·.1)):=sumN_le (by rw[List.length_map,hlen];omega) fun i x hx=>by
    obtain⟨⟨_,d,hd,hm⟩,_⟩:=g2 i x hx
    exact⟨d,by rw[List.getElem?_map];exact hd,hm⟩
   refine⟨l,⟨⟨fun x hx=>?_,by rw[g1];exact hwl⟩,by show sumN mz l+1≤bulkL _+bulkL _+1;omega⟩,CellsR.one1 ?_ rfl⟩
   ·obtain⟨i,hi⟩:=List.getElem?_of_mem hx
    exact(g2 i x hi).1.1
   ·by_cases hcap:cap=0
    ·subst hcap
     have hl0:len=0:=by omega
     subst hl0
     obtain rfl:l= []:=List.eq_nil_of_length_eq_zero g1
     exact .nil
    ·have hsp:a.spot=none:=by
      by_cases hl0:len=0
      ·have hr0:0<rest.length:=by omega
       have hy:=mapM_some_get hrest 0 0 (by rw[List.getElem?_range (by omega)])
       rw[List.getElem?_eq_getElem hr0]at hy
       simp only[Option.bind_eq_some_iff]at hy
       obtain⟨vs,hv1,hv2⟩:=hy
       obtain⟨_,c2,c3⟩:=World.cells?_some hv1
       have c0:=c3 0 hes
       rw[List.getElem?_eq_getElem (by omega)]at c0
       simpa[Addr.add,hl0]using World.cell?_spot c0
      ·have h0:0<l.length:=by omega
       obtain⟨_,vs,c1,c2,c3⟩:=g2 0 l[0] (by simp[h0])
       have c0:=c3 0 hes
       rw[List.getElem?_eq_getElem (by omega)]at c0
       simpa[Addr.add]using World.cell?_spot c0
     obtain⟨b,off,spot⟩:=a
     simp only at hsp
     subst hsp
     have hadd: ∀k,(Addr.mk b off none).add k=⟨b,off+k,none⟩:=fun k=>by
      unfold Addr.add;split
      ·rename_i hk;subst hk;rfl
      ·rfl
     have hadd2: ∀k j,((Addr.mk b off none).add k).add j=⟨b,off+k+j,none⟩:=fun k j=>by
      rw[hadd];unfold Addr.add;split
      ·rename_i hk;subst hk;rfl
      ·rfl
     simp only[hadd2]at g2
     have key:= @RV.list (wF w) noloc false false (l.map en) b off off cap (P.cellsOf e) (fun i j=>(w.cell? ⟨b,off+i*P.cellsOf e+j,none⟩).getD .nilIface)
      (fun y hy=>by
       obtain⟨x,hx,rfl⟩:=List.mem_map.1 hy
       obtain⟨i,hi⟩:=List.getElem?_of_mem hx
       obtain⟨_,vs,c1,c2,c3⟩:=g2 i x hi
       rw[c1.1,c2])
      (by rw[List.length_map,g1];exact hc2)
      (by
       rw[List.length_map,g1]
       have:len≤len*P.bytesOf e:=Nat.le_mul_of_pos_right _ hb
       have h47:=reachBytes_lt
       unfold maxRow;omega)
      (fun hf=>by cases hf) (fun _=>rfl)
      (fun i y j c hy hj=>by
       simp only[List.getElem?_map,Option.map_eq_some_iff]at hy
       obtain⟨x,hx,rfl⟩:=hy
       obtain⟨_,vs,c1,c2,c3⟩:=g2 i x hx
       have hjl:j<P.cellsOf e:=by rw[←c2,←c1.1];exact(List.getElem?_eq_some_iff.1 hj).1
       show w.cell? _=_
       rw[c3 j hjl,List.getElem?_eq_getElem (by omega)];rfl)
      (fun i y j c hy hj=>by
       simp only[List.getElem?_map,Option.map_eq_some_iff]at hy
       obtain⟨x,hx,rfl⟩:=hy
       obtain⟨_,vs,c1,c2,c3⟩:=g2 i x hx
       have hjl:j<P.cellsOf e:=by rw[←c2,←c1.1];exact(List.getElem?_eq_some_iff.1 hj).1
       have hv:vs[j]?=some vs[j]:=List.getElem?_eq_getElem (by omega)
       rw[c3 j hjl,hv]
       exact(c1.2 j c vs[j] hj hv).1)
      (fun i y j c hy hj=>by
       simp only[List.getElem?_map,Option.map_eq_some_iff]at hy
       obtain⟨x,hx,rfl⟩:=hy
       obtain⟨_,vs,c1,c2,c3⟩:=g2 i x hx
       have hjl:j<P.cellsOf e:=by rw[←c2,←c1.1];exact(List.getElem?_eq_some_iff.1 hj).1
       have hv:vs[j]?=some vs[j]:=List.getElem?_eq_getElem (by omega)
       rw[c3 j hjl,hv]
       exact(c1.2 j c vs[j] hj hv).2)
     rw[List.length_map,g1]at key
     exact key
  ·cases h
 all_goals simp_all
end
section
variable {H : Type} {enc : TypeId × Value → H}
open Go.ChangeShapes
end
def loose1:AV→AV
 | .list l _ xs=> .list l false xs
 |a=>a
def loose:AV→AV
 | .agg cs=> .agg (cs.map loose1)
 |a=>loose1 a
theorem RV.loose1 {F:Bool→Facts} {loc:Nat→Option LI} {a:AV} {v:Value} (h:RV F loc a v):RV F loc (loose1 a) v:=by
 cases h with
 |nil=>exact .nil
 |list h1 h2 h3 h4 h5 h6 h7 h8=>exact .list h1 h2 h3 (fun h=>by cases h) h5 h6 h7 h8
 |sc h=>exact .sc h
 |agg h1 h2 h3=>exact .agg h1 h2 h3
 |tup h1 h2=>exact .tup h1 h2
 |iptr h1 h2 h3 h4 h5=>exact .iptr h1 h2 h3 h4 h5
 |refNil h=>exact .refNil h
 |ref h h1 h2 h3 h4=>exact .ref h h1 h2 h3 h4
 |ptr h h1=>exact .ptr h h1
 |aref h h1 h2 h3=>exact .aref h h1 h2 h3
 |clo h1 h2=>exact .clo h1 h2
 |mp h=>exact .mp h
 |yl h=>exact .yl h
 |rc h h1 h2=>exact .rc h h1 h2
 |dead=>exact .dead
theorem RV.loose {F:Bool→Facts} {loc:Nat→Option LI} {a:AV} {v:Value} (h:RV F loc a v):RV F loc (loose a) v:=by
 by_cases ha: ∃cs,a= .agg cs
 ·obtain⟨cs,rfl⟩:=ha
  cases h with
  |agg h1 h2 h3=>
   refine .agg (by simpa using h1) (fun i x u hx hu=>?_) h3
   simp only[List.getElem?_map,Option.map_eq_some_iff]at hx
   obtain⟨y,hy,rfl⟩:=hx
   exact(h2 i y u hy hu).loose1
 ·have e:Ab.loose a=Ab.loose1 a:=by
   cases a<;>first|rfl|exact absurd ⟨_,rfl⟩ ha
  rw[e];exact h.loose1
theorem pure_loose1 {a:AV} (h:a.pure=true):(loose1 a).pure=true:=by
 cases a<;>first|exact h|simpa[loose1,AV.pure]using h
theorem pureL_loose: ∀{cs:List AV},AV.pureL cs=true→AV.pureL (cs.map loose1)=true
 | [],h=>h
 |c::r,h=>by
  simp only[AV.pureL,Bool.and_eq_true,List.map_cons]at*
  exact⟨pure_loose1 h.1,pureL_loose h.2⟩
theorem pure_loose {a:AV} (h:a.pure=true):(loose a).pure=true:=by
 by_cases ha: ∃cs,a= .agg cs
 ·obtain⟨cs,rfl⟩:=ha
  simp only[AV.pure,loose]at*
  exact pureL_loose h
 ·have e:Ab.loose a=Ab.loose1 a:=by
   cases a<;>first|rfl|exact absurd ⟨_,rfl⟩ ha
  rw[e];exact pure_loose1 h
theorem ACall.loose {P:Program} {f:FuncId} {args:List AV} {x:AV} (hx:x.pure=true) (h:ACall P f args (fun r=>r=x)):ACall P f args (fun r=>r=Ab.loose x):=by
 refine⟨h.1,fun w F cargs h1 h2 h3=>(h.2 w F cargs h1 h2 h3).mono ?_⟩
 rintro e w' ⟨v,r,F',g1,rfl,g3,g4⟩
 refine⟨v,_,F',g1,rfl,g3,?_⟩
 have key: ∀{y:AV},y.pure=true→(ResV F' w' w.heap.size v y↔RV F' noloc y v):=fun {y} hy=>by
  cases y<;>first
   |exact⟨fun⟨_,_,hr⟩=>hr,fun hr=>⟨none,hy,hr⟩⟩
   |simp[AV.pure]at hy
 exact(key (pure_loose hx)).2 ((key hx).1 g4).loose
end Go.Ab
