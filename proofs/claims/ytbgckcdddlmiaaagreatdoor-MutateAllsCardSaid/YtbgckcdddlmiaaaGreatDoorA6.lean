import Derived.Test.YtbgckcdddlmiaaaGreatDoorA5
import Derived.JoinedCond
set_option linter.unusedSectionVars false
set_option linter.unusedSimpArgs false
set_option linter.unusedVariables false
namespace Go.Ab
open Go.RowKit
mutual
def oV {H:Type}:DataW H->Nat
 | .lit (.string bytes)=>bytes.length+1
 | .lit _=>1
 | .nil=>1
 | .ptr d=>oV d+1
 | .slice elems spare=>qC elems+qC spare+1
 | .agg parts=>qC parts+1
 | .iface _ d=>oV d+1
 | .map entries=>aEn entries+1
 | .held _=>1
def qC {H:Type}:List (DataW H)->Nat
 | []=>0
 |d::r=>oV d+qC r
def aEn {H:Type}:List (Lit×DataW H)->Nat
 | []=>0
 |x::r=>bCz x+aEn r
def bCz {H:Type}:Lit×DataW H->Nat
 |(.string bytes,d)=>bytes.length+oV d+1
 |(_,d)=>oV d+1
end
def xJ {α:Type} (f:α->Nat):List α->Nat
 | []=>0
 |a::r=>f a+xJ f r
section
variable {H : Type} {enc : TypeId × Value -> H} {P : Program} [Glob P] {w : World}
def CameB (enc:TypeId×Value->H) (P:Program) [Glob P] (w:World) {α:Type} (n:Nat) (t:TypeId) (en:α->AV) (mz:α->Nat) (ok:α->Prop):Prop:=
 ∀cs d ps,DataW.trod enc P w 0 (fun _=>true) true n t cs=some (d,ps)->(∀m∈d.weights P t,m<=reachBytes)-> ∃x,(ok x/\mz x<=oV d)/\CellsR w (en x).cells cs
theorem CameB.zero {α:Type} {t:TypeId} {en:α->AV} {mz:α->Nat} {ok:α->Prop}:CameB enc P w 0 t en mz ok:=fun cs d ps h=>by simp[DataW.trod]at h
theorem aEo {α:Type} {f:α->Nat}: ∀{l:List α} {ds:List (DataW H)},l.length<=ds.length->(∀(i:Nat) (x:α),l[i]?=some x-> ∃d,ds[i]?=some d/\f x<=oV d)->xJ f l<=qC ds
 | [],_,_,_=>Nat.zero_le _
 |x::r,[],h,_=>by simp at h
 |x::r,d::ds,h,hx=>by
  obtain⟨d',h1,h2⟩:=hx 0 x rfl
  obtain rfl:d=d':=by simpa using h1
  exact Nat.add_le_add h2 (aEo (by simpa using h) fun i y hy=>by
   obtain⟨e,h3,h4⟩:=hx (i+1) y (by simpa using hy)
   exact⟨e,by simpa using h3,h4⟩)
theorem CameB.bool {n:Nat} {t:TypeId} (hu:P.underlying t=some .bool):CameB enc P w n t (fun b:Bool=> .sc (.bool b)) (fun _=>1) (fun _=>True):=by
 intro cs d ps h hw
 cases n with
 |zero=>simp[DataW.trod]at h
 |succ n=>
  rw[DataW.trod_step]at h
  unfold DataW.trodStep at h
  rw[hu]at h
  split at h<;>first|(obtain⟨rfl,rfl⟩:=Prod.mk.inj (Option.some.inj h);exact⟨_,⟨trivial,Nat.le_refl _⟩,CellsR.one1 (.sc rfl) rfl⟩)|simp_all
theorem CameB.int {n:Nat} {t:TypeId} {k:IntKind} (hu:P.underlying t=some (.int k)):CameB enc P w n t (fun i:Int=> .sc (.int k i)) (fun _=>1) (fun i=>k.min<=i/\i<=k.max):=by
 intro cs d ps h hw
 cases n with
 |zero=>simp[DataW.trod]at h
 |succ n=>
  rw[DataW.trod_step]at h
  unfold DataW.trodStep at h
  rw[hu]at h
  split at h
  case h_2 k0 k' m hk=>
   obtain rfl:k=k0:=by simpa using hk
   split at h
   ·rename_i hc
    obtain⟨rfl,hc⟩:=hc
    obtain⟨rfl,rfl⟩:=Prod.mk.inj (Option.some.inj h)
    exact⟨m,⟨by simpa[Lit.wf]using hc,Nat.le_refl _⟩,CellsR.one1 (.sc rfl) rfl⟩
   ·cases h
  all_goals simp_all
theorem CameB.i64 {n:Nat} {t:TypeId} (hu:P.underlying t=some (.int .i64)):CameB enc P w n t (fun i:Int=>nt .i64 i) (fun _=>1) I64:=by
 intro cs d ps h hw
 obtain⟨x,a,b⟩:=CameB.int hu cs d ps h hw
 exact⟨x,⟨I64.of a.1,a.2⟩,b⟩
theorem CameB.string {n:Nat} {t:TypeId} (hu:P.underlying t=some .string):CameB enc P w n t (fun s:ByteArray=> .sc (.string s)) (fun s=>s.size+1) (fun s=>s.size<=reachBytes):=by
 intro cs d ps h hw
 cases n with
 |zero=>simp[DataW.trod]at h
 |succ n=>
  rw[DataW.trod_step]at h
  unfold DataW.trodStep at h
  rw[hu]at h
  split at h
  case h_4 s hk=>
   split at h
   ·obtain⟨rfl,rfl⟩:=Prod.mk.inj (Option.some.inj h)
    exact⟨s,⟨by have:=hw s.data.toList.length (by simp only[DataW.weights,List.mem_singleton]);rw[Array.length_toList]at this;exact this,by show s.size+1<=s.data.toList.length+1;rw[Array.length_toList];exact Nat.le_refl _⟩,CellsR.one1 (.sc rfl) rfl⟩
   ·cases h
  all_goals simp_all
theorem CameB.slice {n:Nat} {t e:TypeId} {α:Type} {en:α->AV} {mz:α->Nat} {ok:α->Prop} (hu:P.underlying t=some (.slice e)) (hes:0<P.cellsOf e) (hb:0<P.bytesOf e) (h1:CameB enc P w n e en mz ok):
 CameB enc P w (n+1) t (fun l:List α=> .list false false (l.map en)) (fun l=>xJ mz l+1) (fun l=>(∀x∈l,ok x)/\l.length*P.bytesOf e<=reachBytes):=by
 intro cs d ps h hw
 rw[DataW.trod_step]at h
 unfold DataW.trodStep at h
 rw[hu]at h
 split at h
 case h_7=>
  obtain⟨rfl,rfl⟩:=Prod.mk.inj (Option.some.inj h)
  exact⟨[],⟨⟨by simp,by simp⟩,Nat.le_refl _⟩,CellsR.one1 .nil rfl⟩
 case h_8 e' a len cap hk=>
  obtain rfl:e=e':=by simpa using hk
  simp only at h
  split at h
  ·rename_i hc
   obtain⟨hc1,hc2,hc3⟩:=hc
   simp only[if_true,Option.map_eq_some_iff,Option.bind_eq_some_iff]at h
   obtain⟨elems,he,rest,hrest,hd⟩:=h
   obtain⟨rfl,rfl⟩:=Prod.mk.inj hd
   have hlen:elems.length=len:=by simpa using mapM_some_length he
   have hrl:rest.length=cap - len:=by simpa using mapM_some_length hrest
   have hel: ∀i,i<len-> ∃x:α,(ok x/\ ∃d,(elems[i]?).map (·.1)=some d/\mz x<=oV d)/\ ∃vs:List Value,CellsR w (en x).cells vs/\vs.length=P.cellsOf e/\ ∀j,j<P.cellsOf e->w.cell? ((a.add (i*P.cellsOf e)).add j)=vs[j]?:=by
    intro i hi
    have hy:=mapM_some_get he i i (by simp[hi])
    have hlt:i<elems.length:=by omega
    rw[List.getElem?_eq_getElem hlt]at hy
    simp only[Option.bind_eq_some_iff]at hy
    obtain⟨vs,hv1,hv2⟩:=hy
    obtain⟨_,c2,c3⟩:=World.cells?_some hv1
    obtain⟨x,hx1,hx2⟩:=h1 vs elems[i].1 elems[i].2 hv2 (fun m hm=>hw m (by
     simp only[DataW.weights,hu,List.mem_cons,List.mem_append]
     exact .inr (.inl (Q3 (List.mem_map.2 ⟨_,List.getElem_mem hlt,rfl⟩) m hm))))
    exact⟨x,⟨hx1.1,_,by rw[List.getElem?_eq_getElem hlt];rfl,hx1.2⟩,vs,hx2,c2,c3⟩
   have hwt:(len+(cap - len))*P.bytesOf e<=reachBytes:=by
    have:=hw ((elems.length+rest.length)*P.bytesOf e) (by simp[DataW.weights,hu])
    rw[hlen,hrl]at this;exact this
   have hwl:len*P.bytesOf e<=reachBytes:=Nat.le_trans (Nat.mul_le_mul_right _ (by omega)) hwt
   have hch: ∃l:List α,l.length=len/\ ∀(i:Nat) (x:α),l[i]?=some x->(ok x/\ ∃d,(elems[i]?).map (·.1)=some d/\mz x<=oV d)/\ ∃vs:List Value,CellsR w (en x).cells vs/\vs.length=P.cellsOf e/\ ∀j,j<P.cellsOf e->w.cell? ((a.add (i*P.cellsOf e)).add j)=vs[j]?:=by
    clear he hrest hw hd hwt hwl hc2 hrl
    clear hlen
    induction len with
    |zero=>exact⟨[],rfl,fun i x hx=>by simp at hx⟩
    |succ m ih=>
     obtain⟨l,g1,g2⟩:=ih (fun i hi=>hel i (by omega))
     obtain⟨x,hx⟩:=hel m (by omega)
     refine⟨l++ [x],by simp[g1],fun i y hy=>?_⟩
     by_cases hi:i<l.length
     ·rw[List.getElem?_append_left hi]at hy;exact g2 i y hy
     ·rw[List.getElem?_append_right (by omega)]at hy
      cases hq:i - l.length with
      |zero=>
       rw[hq]at hy;simp at hy;subst hy
       obtain rfl:i=m:=by omega
       exact hx
      |succ q=>rw[hq]at hy;simp at hy
   obtain⟨l,g1,g2⟩:=hch
   have hbk:xJ mz l<=qC (elems.map (·.1)):=aEo (by rw[List.length_map,hlen];omega) fun i x hx=>by
    obtain⟨⟨_,d,hd,hm⟩,_⟩:=g2 i x hx
    exact⟨d,by rw[List.getElem?_map];exact hd,hm⟩
   refine⟨l,⟨⟨fun x hx=>?_,by rw[g1];exact hwl⟩,by show xJ mz l+1<=qC _+qC _+1;omega⟩,CellsR.one1 ?_ rfl⟩
   ·obtain⟨i,hi⟩:=List.getElem?_of_mem hx
    exact(g2 i x hi).1.1
   ·by_cases hcap:cap=0
    ·subst hcap
     have hl0:len=0:=by omega
     subst hl0
     obtain rfl:l= []:=List.eq_nil_of_length_eq_zero g1
     exact .nil
    ·have hsp:a.spot=none:=by
      by_cases hl0:len=0
      ·have hr0:0<rest.length:=by omega
       have hy:=mapM_some_get hrest 0 0 (by rw[List.getElem?_range (by omega)])
       rw[List.getElem?_eq_getElem hr0]at hy
       simp only[Option.bind_eq_some_iff]at hy
       obtain⟨vs,hv1,hv2⟩:=hy
       obtain⟨_,c2,c3⟩:=World.cells?_some hv1
       have c0:=c3 0 hes
       rw[List.getElem?_eq_getElem (by omega)]at c0
       simpa[Addr.add,hl0]using World.cell?_spot c0
      ·have h0:0<l.length:=by omega
       obtain⟨_,vs,c1,c2,c3⟩:=g2 0 l[0] (by simp[h0])
       have c0:=c3 0 hes
       rw[List.getElem?_eq_getElem (by omega)]at c0
       simpa[Addr.add]using World.cell?_spot c0
     obtain⟨b,off,spot⟩:=a
     simp only at hsp
     subst hsp
     have hadd: ∀k,(Addr.mk b off none).add k=⟨b,off+k,none⟩:=fun k=>by
      unfold Addr.add;split
      ·rename_i hk;subst hk;rfl
      ·rfl
     have hadd2: ∀k j,((Addr.mk b off none).add k).add j=⟨b,off+k+j,none⟩:=fun k j=>by
      rw[hadd];unfold Addr.add;split
      ·rename_i hk;subst hk;rfl
      ·rfl
     simp only[hadd2]at g2
     have key:= @RV.list (wF w) bQ false false (l.map en) b off off cap (P.cellsOf e) (fun i j=>(w.cell? ⟨b,off+i*P.cellsOf e+j,none⟩).getD .nilIface)
      (fun y hy=>by
       obtain⟨x,hx,rfl⟩:=List.mem_map.1 hy
       obtain⟨i,hi⟩:=List.getElem?_of_mem hx
       obtain⟨_,vs,c1,c2,c3⟩:=g2 i x hi
       rw[c1.1,c2])
      (by rw[List.length_map,g1];exact hc2)
      (by
       rw[List.length_map,g1]
       have:len<=len*P.bytesOf e:=Nat.le_mul_of_pos_right _ hb
       have h47:=reachBytes_lt
       unfold cL;omega)
      (fun hf=>by cases hf) (fun _=>rfl)
      (fun i y j c hy hj=>by
       simp only[List.getElem?_map,Option.map_eq_some_iff]at hy
       obtain⟨x,hx,rfl⟩:=hy
       obtain⟨_,vs,c1,c2,c3⟩:=g2 i x hx
       have hjl:j<P.cellsOf e:=by rw[<-c2,<-c1.1];exact(List.getElem?_eq_some_iff.1 hj).1
       show w.cell? _=_
       rw[c3 j hjl,List.getElem?_eq_getElem (by omega)];rfl)
      (fun i y j c hy hj=>by
       simp only[List.getElem?_map,Option.map_eq_some_iff]at hy
       obtain⟨x,hx,rfl⟩:=hy
       obtain⟨_,vs,c1,c2,c3⟩:=g2 i x hx
       have hjl:j<P.cellsOf e:=by rw[<-c2,<-c1.1];exact(List.getElem?_eq_some_iff.1 hj).1
       have hv:vs[j]?=some vs[j]:=List.getElem?_eq_getElem (by omega)
       rw[c3 j hjl,hv]
       exact(c1.2 j c vs[j] hj hv).1)
      (fun i y j c hy hj=>by
       simp only[List.getElem?_map,Option.map_eq_some_iff]at hy
       obtain⟨x,hx,rfl⟩:=hy
       obtain⟨_,vs,c1,c2,c3⟩:=g2 i x hx
       have hjl:j<P.cellsOf e:=by rw[<-c2,<-c1.1];exact(List.getElem?_eq_some_iff.1 hj).1
       have hv:vs[j]?=some vs[j]:=List.getElem?_eq_getElem (by omega)
       rw[c3 j hjl,hv]
       exact(c1.2 j c vs[j] hj hv).2)
     rw[List.length_map,g1]at key
     exact key
  ·cases h
 all_goals simp_all
def CameFB (enc:TypeId×Value->H) (P:Program) [Glob P] (w:World) {α:Type} (n N:Nat) (fs:List Field) (off:Nat) (en:α->List AV) (mz:α->Nat) (ok:α->Prop):Prop:=
 ∀(cs:List Value) (xs:List (DataW H×List MemPlace)),cs.length=N->fs.mapM (fun f=>DataW.trod enc P w 0 (fun _=>true) true n f.type ((cs.drop f.offset).take (P.cellsOf f.type)))=some xs->(∀m∈DataW.weightsEach P (fs.map (·.type)) (xs.map (·.1)),m<=reachBytes)->
  ∃x,(ok x/\mz x<=qC (xs.map (·.1)))/\CellsR w (en x) (cs.drop off)
theorem CameFB.nil {n N:Nat}:CameFB enc P w n N [] N (fun _:Unit=> []) (fun _=>0) (fun _=>True):=by
 intro cs xs hN h hw
 refine⟨(),⟨trivial,Nat.zero_le _⟩,?_⟩
 rw[List.drop_of_length_le (by omega)]
 exact CellsR.nil
theorem CameFB.cons {n N off:Nat} (k:Nat) {f:Field} {fs:List Field} {α β:Type} {en:α->AV} {mz:α->Nat} {ok:α->Prop} {enr:β->List AV} {mzr:β->Nat} {okr:β->Prop} (ho:f.offset=off) (hk:P.cellsOf f.type=k)
 (h1:CameB enc P w n f.type en mz ok) (h2:CameFB enc P w n N fs (off+k) enr mzr okr):CameFB enc P w n N (f::fs) off (fun x:α×β=>(en x.1).cells++enr x.2) (fun x=>mz x.1+mzr x.2) (fun x=>ok x.1/\okr x.2):=by
 intro cs xs hN h hw
 subst ho;subst hk
 simp only[List.mapM_cons]at h
 cases hy:DataW.trod enc P w 0 (fun _=>true) true n f.type ((cs.drop f.offset).take (P.cellsOf f.type))with
 |none=>simp[hy]at h
 |some y=>
  cases hz:fs.mapM (fun f=>DataW.trod enc P w 0 (fun _=>true) true n f.type ((cs.drop f.offset).take (P.cellsOf f.type)))with
  |none=>simp[hy,hz]at h
  |some ys=>
   simp[hy,hz]at h
   subst h
   simp only[List.map_cons,DataW.weightsEach,List.mem_append]at hw
   obtain⟨x,a1,a2⟩:=h1 _ y.1 y.2 hy (fun m hm=>hw m (.inl hm))
   obtain⟨z,b1,b2⟩:=h2 cs ys hN hz (fun m hm=>hw m (.inr hm))
   refine⟨(x,z),⟨⟨a1.1,b1.1⟩,Nat.add_le_add a1.2 b1.2⟩,?_⟩
   have e:cs.drop f.offset=(cs.drop f.offset).take (P.cellsOf f.type)++cs.drop (f.offset+P.cellsOf f.type):=by
    rw[<-List.drop_drop,List.take_append_drop]
   rw[e]
   exact a2.append b2
theorem CameB.struct {n N:Nat} {t:TypeId} {fs:Array Field} {l:List Field} {α:Type} {en:α->List AV} {mz:α->Nat} {ok:α->Prop} (hu:P.underlying t=some (.struct fs)) (hl:fs.toList=l) (hN:P.cellsOf t=N)
 (h1:CameFB enc P w n N l 0 en mz ok):CameB enc P w (n+1) t (fun x:α=> .agg (en x)) (fun x=>mz x+1) ok:=by
 intro cs d ps h hw
 rw[DataW.trod_step]at h
 unfold DataW.trodStep at h
 rw[hu]at h
 split at h
 case h_9 cs0 fs' hk=>
  obtain rfl:fs=fs':=by simpa using hk
  split at h
  ·rename_i hc
   simp only[Option.map_eq_some_iff]at h
   obtain⟨xs,hx,hd⟩:=h
   obtain⟨rfl,rfl⟩:=Prod.mk.inj hd
   rw[hl]at hx
   obtain⟨x,a1,a2⟩:=h1 _ xs (by omega) hx (fun m hm=>hw m (by simpa[DataW.weights,hu,hl]using hm))
   exact⟨x,⟨a1.1,Nat.succ_le_succ a1.2⟩,by rw[List.drop_zero]at a2;exact a2⟩
  ·cases h
 all_goals simp_all
theorem CameB.map {n:Nat} {t:TypeId} {α β:Type} {en:α->AV} {mz:α->Nat} {ok:α->Prop} {en':β->AV} {mz':β->Nat} {ok':β->Prop} (h:CameB enc P w n t en mz ok) (g:α->β) (hg: ∀x,ok x->(ok' (g x)/\mz' (g x)<=mz x)/\en' (g x)=en x):CameB enc P w n t en' mz' ok':=by
 intro cs d ps h1 h2
 obtain⟨x,a1,a2⟩:=h cs d ps h1 h2
 obtain⟨⟨b1,b3⟩,b2⟩:=hg x a1.1
 exact⟨g x,⟨b1,Nat.le_trans b3 a1.2⟩,by rw[b2];exact a2⟩
theorem CameB.arg {t:TypeId} {α:Type} {en:α->AV} {mz:α->Nat} {ok:α->Prop} {base:Nat} {v:Value} {d:DataW H} {ps:List MemPlace} (h: ∀n,CameB enc P w n t en mz ok) (ht:DataW.Trod enc P w 0 (fun _=>true) true t v d ps)
 (hv:Value.okWide P w .any base t v) (hw: ∀m∈d.weights P t,m<=reachBytes) (hag: ∀x cs,en x= .agg cs->lS P t=true) (hna:lS P t=true-> ∀x,∃cs,en x= .agg cs): ∃x,(ok x/\mz x<=oV d)/\RV (wF w) bQ (en x) v:=by
 obtain⟨n,ht⟩:=ht
 obtain⟨x,a1,a2,a3⟩:=h n _ d ps ht hw
 refine⟨x,a1,?_⟩
 unfold Value.okWide at hv
 by_cases hA:lS P t=true
 ·obtain⟨cs,hcs⟩:=hna hA x
  rw[hcs]at a2 a3 ⊢
  have: ∃vs:Array Value,v= .agg vs:=by
   unfold lS at hA
   split at hA<;>split at hv<;>simp_all<;>(obtain⟨vs,rfl,_⟩:=hv;exact⟨vs,rfl⟩)
  obtain⟨vs,rfl⟩:=this
  refine .agg (by simpa[AV.cells,Value.cells]using a2) (fun i a v ha hv=>(a3 i a v (by simpa[AV.cells]using ha) (by simpa[Value.cells]using hv)).1) (fun i v hv=>?_)
  have hl:cs.length=vs.size:=by simpa[AV.cells,Value.cells]using a2
  have hi:i<cs.length:=by rw[hl];exact(Array.getElem?_eq_some_iff.1 hv).1
  exact(a3 i cs[i] v (by simp[AV.cells,hi]) (by simpa[Value.cells]using hv)).2
 ·have hc:(en x).cells= [en x]:=by
   cases he:en x with
   |agg cs=>exact absurd (hag x cs he) hA
   |_=>rfl
  rw[hc]at a2 a3
  have hvc:v.cells.toList= [v]:=by
   unfold Value.cells at a2 ⊢
   split
   ·exfalso
    unfold lS at hA
    split at hv
    ·simp_all
    ·simp_all
    ·unfold Cell.okWide Cell.ok at hv
     split at hv<;>simp_all
   ·rfl
  rw[hvc]at a3
  exact(a3 0 (en x) v rfl rfl).1
end
section
variable {H : Type} {enc : TypeId × Value -> H}
open Go.ChangeShapes
end
def loose1:AV->AV
 | .list l _ xs=> .list l false xs
 |a=>a
def loose:AV->AV
 | .agg cs=> .agg (cs.map loose1)
 |a=>loose1 a
theorem RV.loose1 {F:Bool->aY} {loc:Nat->Option LI} {a:AV} {v:Value} (h:RV F loc a v):RV F loc (loose1 a) v:=by
 cases h with
 |nil=>exact .nil
 |list h1 h2 h3 h4 h5 h6 h7 h8=>exact .list h1 h2 h3 (fun h=>by cases h) h5 h6 h7 h8
 |sc h=>exact .sc h
 |agg h1 h2 h3=>exact .agg h1 h2 h3
 |tup h1 h2=>exact .tup h1 h2
 |iptr h1 h2 h3 h4 h5=>exact .iptr h1 h2 h3 h4 h5
 |refNil h=>exact .refNil h
 |ref h h1 h2 h3 h4=>exact .ref h h1 h2 h3 h4
 |ptr h h1=>exact .ptr h h1
 |aref h h1 h2 h3=>exact .aref h h1 h2 h3
 |clo h1 h2=>exact .clo h1 h2
 |mp h h'=>exact .mp h h'
 |yl h=>exact .yl h
 |rc h h1 h2=>exact .rc h h1 h2
 |dead=>exact .dead
theorem RV.loose {F:Bool->aY} {loc:Nat->Option LI} {a:AV} {v:Value} (h:RV F loc a v):RV F loc (loose a) v:=by
 by_cases ha: ∃cs,a= .agg cs
 ·obtain⟨cs,rfl⟩:=ha
  cases h with
  |agg h1 h2 h3=>
   refine .agg (by simpa using h1) (fun i x u hx hu=>?_) h3
   simp only[List.getElem?_map,Option.map_eq_some_iff]at hx
   obtain⟨y,hy,rfl⟩:=hx
   exact(h2 i y u hy hu).loose1
 ·have e:Ab.loose a=Ab.loose1 a:=by
   cases a<;>first|rfl|exact absurd ⟨_,rfl⟩ ha
  rw[e];exact h.loose1
theorem aEp {a:AV} (h:a.pure=true):(loose1 a).pure=true:=by
 cases a<;>first|exact h|simpa[loose1,AV.pure]using h
theorem aEq: ∀{cs:List AV},AV.pureL cs=true->AV.pureL (cs.map loose1)=true
 | [],h=>h
 |c::r,h=>by
  simp only[AV.pureL,Bool.and_eq_true,List.map_cons]at*
  exact⟨aEp h.1,aEq h.2⟩
theorem aEr {a:AV} (h:a.pure=true):(loose a).pure=true:=by
 by_cases ha: ∃cs,a= .agg cs
 ·obtain⟨cs,rfl⟩:=ha
  simp only[AV.pure,loose]at*
  exact aEq h
 ·have e:Ab.loose a=Ab.loose1 a:=by
   cases a<;>first|rfl|exact absurd ⟨_,rfl⟩ ha
  rw[e];exact aEp h
theorem ACall.loose {P:Program} [Glob P] {f:FuncId} {args:List AV} {x:AV} (hx:x.pure=true) (h:ACall P f args (fun r=>r=x)):ACall P f args (fun r=>r=Ab.loose x):=by
 refine⟨h.1,fun w F cargs h0 h1 h2 h3=>(h.2 w F cargs h0 h1 h2 h3).mono ?_⟩
 rintro e w' ⟨v,r,F',g1,rfl,g3,g4⟩
 refine⟨v,_,F',g1,rfl,g3,?_⟩
 have key: ∀{y:AV},y.pure=true->(vZ F' w' w.heap.size v y↔RV F' bQ y v):=fun {y} hy=>by
  cases y<;>first
   |exact⟨fun⟨_,_,hr⟩=>hr,fun hr=>⟨none,hy,hr⟩⟩
   |simp[AV.pure]at hy
 exact(key (aEr hx)).2 ((key hx).1 g4).loose
end Go.Ab
