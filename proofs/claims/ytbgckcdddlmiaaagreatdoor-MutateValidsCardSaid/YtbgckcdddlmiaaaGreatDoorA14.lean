import Derived.Test.YtbgckcdddlmiaaaGreatDoorA6
import Derived.LaidMore
import Derived.LaidLaws
set_option linter.all false
namespace Go.Ab
open Go.RowKit Go.ChangeShapes Go.WideShapes
section
variable {P : Program} {w : World}
def HeldAs (P:Program) (w:World) (t:TypeId) (d:DataW Unit) (av:AV):Prop:=
 ∀n cs ps,DataW.trod (fun _=>()) P w 0 (fun _=>true) false n t cs=some (d,ps)->CellsR w av.cells cs
theorem HeldAs.string {t:TypeId} {l:List UInt8} (hu:P.underlying t=some .string):HeldAs P w t (.lit (.string l)) (.sc (.string ⟨l.toArray⟩)):=by
 intro n cs ps h
 cases n with
 |zero=>simp[DataW.trod]at h
 |succ n=>
  rw[DataW.trod_step]at h
  unfold DataW.trodStep at h
  rw[hu]at h
  split at h
  case h_4 s hk=>
   split at h
   ·obtain⟨h1,h2⟩:=Prod.mk.inj (Option.some.inj h)
    have h1:s.data.toList=l:=by simpa using h1
    subst h1
    exact CellsR.one1 (.sc rfl) rfl
   ·cases h
  all_goals simp_all
theorem HeldAs.int {t:TypeId} {k:IntKind} {i:Int} (hu:P.underlying t=some (.int k)):HeldAs P w t (.lit (.int k i)) (.sc (.int k i)):=by
 intro n cs ps h
 cases n with
 |zero=>simp[DataW.trod]at h
 |succ n=>
  rw[DataW.trod_step]at h
  unfold DataW.trodStep at h
  rw[hu]at h
  split at h
  case h_2 k1 k' m hk=>
   split at h
   ·rename_i hc
    obtain⟨h1,h2⟩:=Prod.mk.inj (Option.some.inj h)
    obtain⟨hc1,hc2⟩:=hc
    have h1:k1=k/\m=i:=by simpa using h1
    obtain⟨rfl,rfl⟩:=h1
    subst hc1
    exact CellsR.one1 (.sc rfl) rfl
   ·cases h
  all_goals simp_all
theorem HeldAs.bool {t:TypeId} {b:Bool} (hu:P.underlying t=some .bool):HeldAs P w t (.lit (.bool b)) (.sc (.bool b)):=by
 intro n cs ps h
 cases n with
 |zero=>simp[DataW.trod]at h
 |succ n=>
  rw[DataW.trod_step]at h
  unfold DataW.trodStep at h
  rw[hu]at h
  split at h
  case h_1 b' hk=>
   obtain⟨h1,h2⟩:=Prod.mk.inj (Option.some.inj h)
   have h1:b'=b:=by simpa using h1
   subst h1
   exact CellsR.one1 (.sc rfl) rfl
  all_goals simp_all
theorem HeldAs.slice {t e:TypeId} {ds:List (DataW Unit)} {avs:List AV} (hu:P.underlying t=some (.slice e)) (hes:0<P.cellsOf e) (hl:avs.length=ds.length) (hmx:avs.length<=dD) (hc: ∀x∈avs,x.cells.length=P.cellsOf e)
 (h1: ∀(i:Nat) (d:DataW Unit) (a:AV),ds[i]?=some d->avs[i]?=some a->HeldAs P w e d a):HeldAs P w t (.slice ds []) (.list false true avs):=by
 intro n cs ps h
 cases n with
 |zero=>simp[DataW.trod]at h
 |succ n=>
  rw[DataW.trod_step]at h
  unfold DataW.trodStep at h
  rw[hu]at h
  split at h
  case h_8 e' a len cap hk=>
   obtain rfl:e=e':=by simpa using hk
   simp only at h
   split at h
   ·rename_i hcc
    obtain⟨hc1,hc2,hc3⟩:=hcc
    simp only[if_true,Option.map_eq_some_iff,Option.bind_eq_some_iff]at h
    obtain⟨elems,he,rest,hrest,hd⟩:=h
    obtain⟨hd1,hd2⟩:=Prod.mk.inj hd
    have hlen:elems.length=len:=by simpa using mapM_some_length he
    have hrl:rest.length=cap - len:=by simpa using mapM_some_length hrest
    simp only[DataW.slice.injEq,List.map_eq_nil_iff]at hd1
    obtain⟨hd1,hd3⟩:=hd1
    subst hd1
    rw[hd3]at hrl
    have hcap:cap=len:=by simp at hrl;omega
    subst hcap
    have hal:avs.length=cap:=by rw[hl,List.length_map,hlen]
    have hel: ∀i (x:AV),avs[i]?=some x-> ∃vs:List Value,CellsR w x.cells vs/\vs.length=P.cellsOf e/\ ∀j,j<P.cellsOf e->w.cell? ((a.add (i*P.cellsOf e)).add j)=vs[j]?:=by
     intro i x hx
     have hi:i<cap:=by rw[<-hal];exact(List.getElem?_eq_some_iff.1 hx).1
     have hy:=mapM_some_get he i i (by simp[hi])
     have hlt:i<elems.length:=by omega
     rw[List.getElem?_eq_getElem hlt]at hy
     simp only[Option.bind_eq_some_iff]at hy
     obtain⟨vs,hv1,hv2⟩:=hy
     obtain⟨_,c2,c3⟩:=World.cells?_some hv1
     exact⟨vs,h1 i elems[i].1 x (by simp[hlt]) hx n vs elems[i].2 hv2,c2,c3⟩
    refine CellsR.one1 ?_ rfl
    by_cases h0:cap=0
    ·subst h0
     obtain rfl:avs= []:=List.eq_nil_of_length_eq_zero hal
     exact .nil
    ·have hpos:0<avs.length:=by omega
     have hsp:a.spot=none:=by
      obtain⟨vs,c1,c2,c3⟩:=hel 0 avs[0] (by simp[hpos])
      have c0:=c3 0 hes
      rw[List.getElem?_eq_getElem (by omega)]at c0
      simpa[Addr.add]using World.cell?_spot c0
     obtain⟨b,off,spot⟩:=a
     simp only at hsp
     subst hsp
     have hadd: ∀k,(Addr.mk b off none).add k=⟨b,off+k,none⟩:=fun k=>by
      unfold Addr.add;split
      ·rename_i hk;subst hk;rfl
      ·rfl
     have hadd2: ∀k j,((Addr.mk b off none).add k).add j=⟨b,off+k+j,none⟩:=fun k j=>by
      rw[hadd];unfold Addr.add;split
      ·rename_i hk;subst hk;rfl
      ·rfl
     simp only[hadd2]at hel
     have hcell: ∀(i:Nat) (x:AV) (j:Nat) (c:AV),avs[i]?=some x->x.cells[j]?=some c-> ∃v,w.cell? ⟨b,off+i*P.cellsOf e+j,none⟩=some v/\RV (wF w) bU c v/\one v=true:=by
      intro i x j c hx hj
      obtain⟨vs,c1,c2,c3⟩:=hel i x hx
      have hjl:j<P.cellsOf e:=by rw[<-c2,<-c1.1];exact(List.getElem?_eq_some_iff.1 hj).1
      have hv:vs[j]?=some vs[j]:=List.getElem?_eq_getElem (by omega)
      obtain⟨g1,g2⟩:=c1.2 j c vs[j] hj hv
      exact⟨vs[j],by rw[c3 j hjl,hv],g1,g2⟩
     have key:= @RV.list (wF w) bU false true avs b off off cap (P.cellsOf e) (fun i j=>(w.cell? ⟨b,off+i*P.cellsOf e+j,none⟩).getD .nilIface) hc (by omega) hmx (fun _=>hal.symm) (fun _=>rfl)
      (fun i x j c hx hj=>by
       obtain⟨v,g1,g2,g3⟩:=hcell i x j c hx hj
       show w.cell? _=_
       rw[g1];rfl)
      (fun i x j c hx hj=>by
       obtain⟨v,g1,g2,g3⟩:=hcell i x j c hx hj
       rw[g1];exact g2)
      (fun i x j c hx hj=>by
       obtain⟨v,g1,g2,g3⟩:=hcell i x j c hx hj
       rw[g1];exact g3)
     rw[hal]at key
     exact key
   ·cases h
  all_goals simp_all
theorem aKc {ce:Nat}: ∀{avs:List AV} {cs:List Value},cs.length=avs.length*ce->(∀(i:Nat) (a:AV),avs[i]?=some a->CellsR w a.cells ((cs.drop (i*ce)).take ce))->CellsR w (avs.flatMap AV.cells) cs
 | [],cs,h,_=>by
  obtain rfl:cs= []:=List.eq_nil_of_length_eq_zero (by simpa using h)
  exact CellsR.nil
 |a::r,cs,h,hh=>by
  rw[List.length_cons,Nat.add_mul,Nat.one_mul]at h
  have h0:=hh 0 a rfl
  rw[Nat.zero_mul,List.drop_zero]at h0
  have h1:=aKc (avs:=r) (cs:=cs.drop ce) (ce:=ce) (by rw[List.length_drop];omega) (fun i b hb=>by
   have:=hh (i+1) b (by simpa using hb)
   rw[List.drop_drop]
   rw[Nat.add_mul,Nat.one_mul,Nat.add_comm]at this
   exact this)
  rw[List.flatMap_cons,<-List.take_append_drop ce cs]
  exact h0.append h1
theorem HeldAs.array {t e:TypeId} {m ce:Nat} {ds:List (DataW Unit)} {avs:List AV} (hu:P.underlying t=some (.array m e)) (hce:P.cellsOf e=ce) (hct:P.cellsOf t=m*ce) (hl:avs.length=m)
 (h1: ∀(i:Nat) (d:DataW Unit) (a:AV),ds[i]?=some d->avs[i]?=some a->HeldAs P w e d a):HeldAs P w t (.agg ds) (.agg (avs.flatMap AV.cells)):=by
 intro n cs ps h
 cases n with
 |zero=>simp[DataW.trod]at h
 |succ n=>
  rw[DataW.trod_step]at h
  unfold DataW.trodStep at h
  rw[hu]at h
  split at h
  case h_10 m' e' hk=>
   obtain⟨rfl,rfl⟩:m=m'/\e=e':=by simpa using hk
   split at h
   ·rename_i hlen
    simp only[Option.map_eq_some_iff]at h
    obtain⟨xs,hx,hd⟩:=h
    obtain⟨hd1,hd2⟩:=Prod.mk.inj hd
    simp only[DataW.agg.injEq]at hd1
    subst hd1
    have hxl:xs.length=m:=by simpa using mapM_some_length hx
    refine aKc (ce:=ce) (by rw[hlen,hct,hl]) fun i a ha=>?_
    have hi:i<m:=by rw[<-hl];exact(List.getElem?_eq_some_iff.1 ha).1
    have hy:=mapM_some_get hx i i (by simp[hi])
    rw[List.getElem?_eq_getElem (by omega)]at hy
    rw[hce]at hy
    exact h1 i xs[i].1 a (by rw[List.getElem?_map,List.getElem?_eq_getElem (by omega)];rfl) ha n _ xs[i].2 hy
   ·cases h
  all_goals simp_all
def aB1 (P:Program) (w:World) (N:Nat):List Field->Nat->List (DataW Unit)->List AV->Prop
 | [],off,[],[]=>off=N
 |f::r,off,d::ds,a::as=>f.offset=off/\HeldAs P w f.type d a/\aB1 P w N r (off+P.cellsOf f.type) ds as
 |_,_,_,_=>False
theorem aKd {N n:Nat} {cs:List Value} (hN:cs.length=N): ∀{l:List Field} {off:Nat} {avs:List AV} {xs:List (DataW Unit×List MemPlace)},aB1 P w N l off (xs.map (·.1)) avs->
 (l.mapM fun f=>DataW.trod (fun _=>()) P w 0 (fun _=>true) false n f.type ((cs.drop f.offset).take (P.cellsOf f.type)))=some xs->CellsR w (avs.flatMap AV.cells) (cs.drop off)
 | [],off,avs,xs,h,hx=>by
  simp at hx
  subst hx
  cases avs with
  |cons=>exact h.elim
  |nil=>
   obtain rfl:off=N:=h
   rw[List.drop_of_length_le (by omega)]
   exact CellsR.nil
 |f::r,off,avs,xs,h,hx=>by
  simp only[List.mapM_cons,Option.pure_def,Option.bind_eq_bind,Option.bind_eq_some_iff]at hx
  obtain⟨y,hy,ys,hys,he⟩:=hx
  obtain rfl:=Option.some.inj he
  cases avs with
  |nil=>exact h.elim
  |cons a as=>
   obtain⟨rfl,h1,h2⟩:=h
   have h0:=h1 n _ y.2 hy
   have h3:=aKd hN h2 hys
   rw[List.flatMap_cons,<-List.take_append_drop (P.cellsOf f.type) (cs.drop f.offset),List.drop_drop]
   exact h0.append h3
theorem HeldAs.struct {t:TypeId} {fs:Array Field} {N:Nat} {ds:List (DataW Unit)} {avs:List AV} (hu:P.underlying t=some (.struct fs)) (hN:P.cellsOf t=N) (h1:aB1 P w N fs.toList 0 ds avs):HeldAs P w t (.agg ds) (.agg (avs.flatMap AV.cells)):=by
 intro n cs ps h
 cases n with
 |zero=>simp[DataW.trod]at h
 |succ n=>
  rw[DataW.trod_step]at h
  unfold DataW.trodStep at h
  rw[hu]at h
  split at h
  case h_9 fs' hk=>
   obtain rfl:fs=fs':=by simpa using hk
   split at h
   ·rename_i hlen
    simp only[Option.map_eq_some_iff]at h
    obtain⟨xs,hx,hd⟩:=h
    obtain⟨hd1,hd2⟩:=Prod.mk.inj hd
    simp only[DataW.agg.injEq]at hd1
    subst hd1
    have:=aKd (hlen.trans hN) h1 hx
    rw[List.drop_zero]at this
    exact this
   ·cases h
  all_goals simp_all
theorem aKe {nm:String} {d:DataW Unit}: ∀{l:List (String×DataW Unit)} {ps:List MemPlace},DataW.LaidVars P w l ps->(nm,d)∈l->
 ∃g t cs fuel p,P.globalNamed nm=some g/\(P.globals[g]?).map (·.type)=some t/\w.var? P nm=some cs/\DataW.trod (fun _=>()) P w 0 (fun _=>true) false fuel t cs.toList=some (d,p)
 | [],_,_,hm=>by simp at hm
 |(n1,d1)::r,ps,hv,hm=>by
  obtain⟨g1,t1,cs,fuel,p,q,e1,e2,e3,e4,e5,e6⟩:=hv
  rcases List.mem_cons.1 hm with hx|hx
  ·obtain⟨rfl,rfl⟩:=Prod.mk.inj hx
   exact⟨g1,t1,cs,fuel,p,e1,e2,e3,e4⟩
  ·exact aKe e5 hx
theorem aKf {l:List (String×DataW Unit)} (hL:laidMet P l w) {nm:String} {d:DataW Unit} (hm:(nm,d)∈l) {g:Nat} {t:TypeId} (hg:P.globalNamed nm=some g) (ht:(P.globals[g]?).map (·.type)=some t) {av:AV} (h:HeldAs P w t d av):
 RV (sh (wF w)) bU (.iptr false [av] 0 0) (V6 g):=by
 obtain⟨ps,hv,_⟩:=hL
 obtain⟨g1,t1,cs,fuel,p,e1,e2,e3,e4⟩:=aKe hv hm
 rw[hg]at e1
 obtain rfl:=Option.some.inj e1
 rw[ht]at e2
 obtain rfl:=Option.some.inj e2
 have h2:=h fuel cs.toList p e4
 unfold World.var? at e3
 rw[hg]at e3
 simp only[Option.bind_some]at e3
 split at e3
 ·rename_i cs' ty sp hheap
  obtain rfl:=Option.some.inj e3
  have hcell: ∀(i:Nat) (x:AV) (j:Nat) (c:AV),[av][i]?=some x->x.cells[j]?=some c->i=0/\ ∃v,cs'[j]?=some v/\RV (wF w) bU c v/\one v=true:=by
   intro i x j c hx hj
   cases i with
   |succ i=>simp at hx
   |zero=>
    simp only[List.getElem?_cons_zero,Option.some.injEq]at hx
    subst hx
    have hjl:j<cs'.size:=by
     have e1:=h2.1
     have e2:=(List.getElem?_eq_some_iff.1 hj).1
     simp only[Array.length_toList]at e1
     omega
    obtain⟨g1,g2⟩:=h2.2 j c cs'[j] hj (by simp[hjl])
    exact⟨rfl,cs'[j],by simp[hjl],g1,g2⟩
  have key:= @RV.iptr (sh (wF w)) bU false [av] g 0 av.cells.length 0 0 (fun _ j=>cs'.getD j .nilIface) (fun x hx=>by simp at hx;subst hx;rfl) (by simp)
   (fun i x j c hx hj=>by
    obtain⟨rfl,v,g1,g2,g3⟩:=hcell i x j c hx hj
    show w.cell? _=_
    rw[Array.getD_eq_getD_getElem?,g1]
    simp[World.cell?,hheap,g1])
   (fun i x j c hx hj=>by
    obtain⟨rfl,v,g1,g2,g3⟩:=hcell i x j c hx hj
    rw[Array.getD_eq_getD_getElem?,g1];exact g2)
   (fun i x j c hx hj=>by
    obtain⟨rfl,v,g1,g2,g3⟩:=hcell i x j c hx hj
    rw[Array.getD_eq_getD_getElem?,g1];exact g3)
  simpa[V6]using key
 ·cases e3
end
end Go.Ab
