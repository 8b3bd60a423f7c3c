import Derived.Laws.IdiomRangeMap
import Derived.Test.YtbgckcdddlmiaaaGreatDoorA1
import Derived.MapKept
import Derived.Laws.MakeOwn
import Derived.Deep.LoopGhost
import Derived.OrdersIn
import Derived.RangeFuncNested
import Derived.Lib.Overlaps
import Derived.Laws.BytesString
set_option linter.all false
namespace Go.Ab
open Go.RowKit
theorem aFo {need B:Nat} (hB: ∀c,c<need->c+(c+768) / 4<=B): ∀(n c:Nat),c<=B->Builtin.growBy need n c<=B
 |0,c,h=>h
 |n+1,c,h=>by
  unfold Builtin.growBy
  split
  ·exact h
  ·exact aFo hB n _ (hB c (by omega))
theorem aFp {need c:Nat} (h:c<need):Builtin.nextslicecap need c<=2*need+200:=by
 unfold Builtin.nextslicecap
 split
 ·omega
 ·split
  ·omega
  ·exact aFo (fun c hc=>by omega) 4 c (by omega)
def dF (es:Nat) (xs:List AV):AObj:= {arr:=true,fz:=false,pin:=false,es:=es,xs:=xs}
def iL (es:Nat) (xs:List AV) (k:Nat):AObj:= {arr:=true,fz:=false,pin:=false,es:=es,xs:=xs,kd:=k}
def dZ (P:Program) (e:TypeId):Nat:=match P.underlying e with
 |some (.int .u8)=>e+2
 |_=>0
theorem zI (P:Program) (e:TypeId):dZ P e=0\/dZ P e=e+2:=by
 unfold dZ;split
 ·exact .inr rfl
 ·exact .inl rfl
def fU (P:Program) (t:TypeId):Bool:=match P.underlying t with
 |some (.slice _)=>true
 |some .string=>true
 |_=>false
theorem aFq {P:Program} {t:TypeId} (h:fU P t=true):(∃e,∀w,(underlying t).run P w= .ok (.slice e) w)\/ ∀w,(underlying t).run P w= .ok .string w:=by
 unfold fU at h
 split at h
 ·rename_i e hu;exact .inl ⟨e,run_underlying hu⟩
 ·rename_i hu;exact .inr (run_underlying hu)
 ·cases h
def IsSrc (v:Value) (m:Nat):Prop:=(∃base c,v= .slice base m c)\/ ∃s:ByteArray,v= .string s/\s.size=m
theorem IsSrc.len {P:Program} {v:Value} {m:Nat} (h:IsSrc v m) (w:World):(Builtin.lenOf v).run P w= .ok m w:=by
 rcases h with⟨b,c,rfl⟩|⟨s,rfl,rfl⟩<;>rfl
theorem tT {P:Program} {C F μ} {o:aF} {w:World} (hw:SW C F μ o w) {b:AV} {v:Value} {ys:List AV} (he:mC o b=some ys) (hb:RV F (aE o μ) b v) {es:Nat} (hes: ∀y∈ys,y.cells.length=es):
 IsSrc v ys.length/\ ∃cs,ERow F ys es cs/\(Builtin.firstCells es ys.length v).run P w= .ok cs.toArray w:=by
 unfold mC at he
 split at he
 ·rename_i s
  obtain rfl:=Option.some.inj he
  cases hb
  refine⟨.inr ⟨s,rfl,by simp⟩,s.data.toList.map fun c=> .int .u8 c.toNat,?_,?_⟩
  ·cases hl:s.data.toList with
   |nil=>
    refine⟨by simp,by simp,by simp,?_⟩
    intro i y j a hy;simp at hy
   |cons c r=>
    have he1:es=1:=by
     have:=hes (tS c) (by rw[hl];simp)
     simpa[tS,AV.cells]using this.symm
    subst he1
    refine⟨by simp,fun y hy=>?_,fun v hv=>?_,fun i y j a hy hj=>?_⟩
    ·obtain⟨q,_,rfl⟩:=List.mem_map.1 hy;rfl
    ·obtain⟨q,_,rfl⟩:=List.mem_map.1 hv;rfl
    ·simp only[List.getElem?_map,Option.map_eq_some_iff]at hy
     obtain⟨q,hq,rfl⟩:=hy
     cases j with
     |zero=>
      simp[tS,AV.cells]at hj
      subst hj
      refine⟨.int .u8 q.toNat,?_,.sc rfl⟩
      simp only[Nat.mul_one,Nat.add_zero,List.getElem?_map,hq,Option.map_some]
     |succ j=>simp[tS,AV.cells]at hj
  ·have hx:(s.extract 0 s.data.toList.length)=s:=by
    have:s.data.toList.length=s.size:=by simp
    rw[this]
    exact ByteArray.extract_zero_size
   simp only[List.length_map,Builtin.firstCells,hx]
   have:Array.map (fun b:UInt8=>Value.int IntKind.u8 ↑b.toNat) s.data=(List.map (fun b:UInt8=>Value.int IntKind.u8 ↑b.toNat) s.data.toList).toArray:=by
    rw[<-List.map_toArray]
   rw[this]
   rfl
 ·obtain⟨h1,h2⟩:=H6 (P:=P) hw he hb hes
  exact⟨.inl h1,h2⟩
theorem ERow.at {F:Bool->aZ} {xs:List AV} {es:Nat} {cs:List Value} (h:ERow F xs es cs) {w:World} {b cap:Nat} {c:Array Value} {e:TypeId} (hb:w.heap[b]?=some (.cells c e (0,0))) (hsz:c.size=cap*es) (hle:xs.length<=cap) (hrow:xs.length<=dD)
 (hc: ∀k,k<cs.length->c[k]?=cs[k]?) {kk:Nat} (hkk:kk=0\/kk=e+2):ObjAt F bU w (iL es xs kk) b cap:=by
 refine .inl ⟨c,e,hb,hsz,hle,hrow,h.2.1,fun i y j a hy hj=>?_,hkk.imp_right fun h=>⟨h,fun h=>by simp[iL]at h⟩⟩
 obtain⟨v,g1,g2⟩:=h.2.2.2 i y j a hy hj
 have hk:i*es+j<cs.length:=(List.getElem?_eq_some_iff.1 g1).1
 refine⟨v,?_,h.one g1,g2,fun hz=>by simp[iL]at hz⟩
 show c[i*es+j]?=some v
 rw[hc _ hk];exact g1
def tU (P:Program) (st xt:TypeId) (a b:AV) (d:Nat) (s:ASt):Option St:=
 match cE P st,fU P xt,mC s.o b with
 |some (e,es,bytes),true,some ys=>match dQ P e with
  |some _=>match a with
   | .list _ true xs=>some ⟨decide (d<s.n/\(∀zv,dQ P e=some zv->zv.cells.size=es)/\(∀y∈ys,y.cells.length=es)/\(∀y∈xs,y.cells.length=es)/\bytes≠0/\(2*(xs.length+ys.length)+200)*bytes<=2^48/\(xs= []\/ys≠ [])),
    s.renew d d d (iL es (xs++ys) (dZ P e)) (.ref d 0 (xs++ys).length)⟩
   | .ref L lo n=>match lk s.o L with
    |some x=>if x.arr=true/\x.fz=false/\lo=0 then
     some ⟨decide (d<s.n/\(∀zv,dQ P e=some zv->zv.cells.size=es)/\(∀y∈ys,y.cells.length=es)/\x.es=es/\bytes≠0/\(2*(n+ys.length)+200)*bytes<=2^48/\n<=x.xs.length),
      s.renew L (if x.pin=true then d else L) d (iL es (cA x.xs 0 n++ys) (if x.kd=dZ P e then dZ P e else 0)) (.ref (if x.pin=true then d else L) 0 (n+ys.length))⟩else none
    |none=>none
   |_=>none
  |none=>none
 |_,_,_=>none
theorem aFr {P:Program} {st xt e ty:TypeId} {es bytes:Nat} (h1:cE P st=some (e,es,bytes)) (h2:fU P xt=true) {zv:Value} (hz:dQ P e=some zv) {w:World} {base:Option Addr} {n m c:Nat} {vx:Value} (hvx:IsSrc vx m) {eP new:List Value}
 (ho:(Builtin.firstCells es n (.slice base n c)).run P w.drew= .ok eP.toArray w.drew)
 (hn:(Builtin.firstCells es m vx).run P w.drew= .ok new.toArray w.drew)
 (hc:c<n+m) (hb:bytes≠0) (hbd:(2*(n+m)+200)*bytes<=2^48):
 ∃nc,n+m<=nc/\(Builtin.append_ #[st,xt] ty #[.slice base n c,vx]).run P w=
  .ok (.slice (some ⟨w.heap.size,0,none⟩) (n+m) nc) (w.drew.alloc (.cells (eP.toArray++new.toArray++Builtin.zeroCells zv.cells (nc - (n+m))) e (0,0))):=by
 obtain⟨hu,hs,i,hi,_,hib⟩:=gV h1 w
 obtain⟨_,hs',_⟩:=gV h1 {w with drawn:=w.drawn+1}
 have hcap:=aFp hc
 have hle:Builtin.nextslicecap (n+m) c*bytes<=2^48:=Nat.le_trans (Nat.mul_le_mul_right _ hcap) hbd
 have hpos:1<=bytes:=Nat.pos_of_ne_zero hb
 have hnm:n+m<=2^48:=by
  have:(2*(n+m)+200)*1<=(2*(n+m)+200)*bytes:=Nat.mul_le_mul_left _ hpos
  omega
 have hti: ∀w':World,(typeInfo e).run P w'= .ok i w':=fun w'=>by simp[typeInfo,hi]
 have hmax:IntKind.i64.max=9223372036854775807:=by decide
 have c1: ¬(((n+m:Nat):Int)>IntKind.i64.max/\bytes=0):=fun h=>hb h.2
 have hzr:=rQ hz
 refine⟨(Question.appendCap (n+m) c e).cut (w.tape w.drawn (.appendCap (n+m) c e)),by simp[Question.cut],?_⟩
 have hlen:=hvx.len (P:=P) w
 simp only[Builtin.append_,Sem.run_bind,hu,hs,Result.andThen_ok,List.getElem?_toArray,List.getElem?_cons_zero,List.getElem?_cons_succ]
 have hnlt: ¬n+m<=c:=by omega
 have hle': ¬281474976710656<Builtin.nextslicecap (n+m) c*bytes:=by omega
 rcases aFq h2 with⟨e2,hu2⟩|hu2
 ·simp[hu,hu2,hs,hlen,hnlt,hti,hib,hb,hle',hzr,newRow,Question.forced,ho,hn]
  rw[show(eP++new).toArray=eP.toArray++new.toArray from by simp,Array.append_assoc]
 ·simp[hu,hu2,hs,hlen,hnlt,hti,hib,hb,hle',hzr,newRow,Question.forced,ho,hn]
  rw[show(eP++new).toArray=eP.toArray++new.toArray from by simp,Array.append_assoc]
theorem zJ {P:Program} {st xt e ty:TypeId} {es bytes:Nat} (h1:cE P st=some (e,es,bytes)) (h2:fU P xt=true) {w w':World} {base:Option Addr} {n m c:Nat} {vx:Value} (hvx:IsSrc vx m) {new:List Value}
 (hn:(Builtin.firstCells es m vx).run P w= .ok new.toArray w) (hc:n+m<=c)
 (hs': ∀a,base=some a->(storeCells (a.add (n*es)) new).run P w= .ok () w') (hw:base=none->w'=w):
 (Builtin.append_ #[st,xt] ty #[.slice base n c,vx]).run P w= .ok (.slice base (n+m) c) w':=by
 obtain⟨hu,hs,i,hi,_,hib⟩:=gV h1 w
 have hlen:=hvx.len (P:=P) w
 simp only[Builtin.append_,Sem.run_bind,hu,hs,Result.andThen_ok,List.getElem?_toArray,List.getElem?_cons_zero,List.getElem?_cons_succ]
 rcases aFq h2 with⟨e2,hu2⟩|hu2
 all_goals
  cases base with
  |none=>
   have:=hw rfl
   subst this
   simp[hu,hu2,hs,hlen,hc,hn]
  |some a=>
   have:=hs' a rfl
   simp[hu,hu2,hs,hlen,hc,hn,this]
theorem zeroCells_size (z:Array Value) (n:Nat):(Builtin.zeroCells z n).size=n*z.size:=by simp[Builtin.zeroCells]
theorem V3 {C F μ} {s:ASt} {a:Act} {w:World} (h:SR C F μ s a w) {L T d:Nat} (hd:d<s.n) {xs ys:List AV} {es:Nat} {eP new:List Value} (ho:ERow F xs es eP) (hn:ERow F ys es new) {zs:Array Value} {nc:Nat} (hnc:xs.length+ys.length<=nc)
 (hzs:zs.size=(nc - (xs.length+ys.length))*es) (hrow:xs.length+ys.length<=dD) {e:TypeId} {kk:Nat} (hkk:kk=0\/kk=e+2):
 SR C F (bJ μ T (some (w.heap.size,nc))) (s.renew L T d (iL es (xs++ys) kk) (.ref T 0 (xs.length+ys.length))) (a.put (some d) (.slice (some ⟨w.heap.size,0,none⟩) (xs.length+ys.length) nc))
  (w.drew.alloc (.cells (eP.toArray++new.toArray++zs) e (0,0))):=by
 have hrow2:=ho.append hn
 have hb:(w.drew.alloc (.cells (eP.toArray++new.toArray++zs) e (0,0))).heap[w.heap.size]?=some (.cells (eP.toArray++new.toArray++zs) e (0,0)):=tR (w:=w.drew)
 have hsz:(eP.toArray++new.toArray++zs).size=nc*es:=by
  simp only[Array.size_append,List.size_toArray,ho.1,hn.1,hzs,<-Nat.add_mul]
  congr 1;omega
 refine SR.renew (x:=iL es (xs++ys) kk) (w':=w.drew.alloc (.cells (eP.toArray++new.toArray++zs) e (0,0))) (p:=some (w.heap.size,nc)) h hd rfl rfl rfl ⟨rfl,rfl,rfl,(by simp:w.heap.size<=(w.drew.alloc _).heap.size),fun k hk _=>pN (w:=w.drew) hk,Nat.le_succ _⟩ ?_ (fun b c hbc=> .inl (h.sw.nb (by simp at hbc;omega))) (fun loc hl=>?_)
 ·refine hrow2.at hb hsz (by simp;exact hnc) (by simp;exact hrow) (fun k hk=>?_) hkk
  simp only[List.length_append]at hk
  rw[Array.getElem?_append_left (by simp;exact hk)]
  simp
 ·have:= @RV.ref F loc T 0 (xs.length+ys.length) w.heap.size nc es (xs++ys).length 0 nc (by rw[hl,lE (by show kk≠1;omega)];rfl) (by simp) hnc (fun _=>by simp) (fun _=>rfl)
  exact this
theorem V4 {P:Program} {es:Nat} {v:Value} {w:World} (h:IsSrc v 0):(Builtin.firstCells es 0 v).run P w= .ok ([]:List Value).toArray w:=by
 rcases h with⟨b,c,rfl⟩|⟨s,rfl,hs⟩
 ·cases b<;>simp[Builtin.firstCells,loadCells,loadCellsFrom]
 ·simp[Builtin.firstCells]
theorem aFs {P:Program} {C F μ} {s:ASt} {a:Act} {w:World} (h:SR C F μ s a w) {st xt ty:TypeId} {x b:AV} {vx vb:Value} (hx:RV F (aE s.o μ) x vx) (hb:RV F (aE s.o μ) b vb) {d:Nat} {r:St}
 (he:tU P st xt x b d s=some r) (hn:r.need):
 ∃v w' μ',(Builtin.append_ #[st,xt] ty #[vx,vb]).run P w= .ok v w'/\SR C F μ' r.st (a.put (some d) v) w':=by
 unfold tU at he
 split at he
 ·rename_i e es bytes ys h1 h2 hys
  split at he
  ·rename_i zv hzv
   split at he
   ·rename_i l xs
    obtain rfl:=Option.some.inj he
    obtain⟨hd,hzs,hye,hxe,hb0,hbd,hne⟩:=of_decide_eq_true hn
    have hrow:xs.length+ys.length<=dD:=by
     unfold dD
     have:(2*(xs.length+ys.length)+200)*1<=(2*(xs.length+ys.length)+200)*bytes:=Nat.mul_le_mul_left _ (Nat.pos_of_ne_zero hb0)
     omega
    obtain⟨hvx,new,hnew,hnr⟩:=tT (P:=P) h.drew.sw hys hb hye
    obtain⟨⟨base,c,rfl⟩,eP,hold,hor⟩:=H6 (P:=P) (b:= .list l true xs) h.drew.sw rfl hx hxe
    have hc:c=xs.length:=by
     cases hx with
     |nil=>rfl
     |list g1 g2 g3 g4=>exact g4 rfl
    subst hc
    by_cases hy0:ys= []
    ·subst hy0
     have hx0:xs= []:=by rcases hne with hh|hh<;>simp_all
     subst hx0
     have hnr0:(Builtin.firstCells es 0 vb).run P w= .ok ([]:List Value).toArray w:=V4 hvx
     refine⟨.slice base 0 0,w,bJ μ d none,zJ (P:=P) (ty:=ty) (w':=w) (new:= []) (n:=0) (m:=0) (c:=0) h1 h2 hvx hnr0 (by omega) (fun q hq=>by simp[storeCells]) (fun _=>rfl),?_⟩
     refine SR.renew (p:=none) h hd rfl rfl rfl (Fr.refl _ _) (by rfl) (fun b c hbc=>by cases hbc) (fun loc hl=>?_)
     exact .refNil (hl.trans (by rw[lE (by show dZ P e≠1;have:=zI P e;omega)]))
    ·have hlen:0<ys.length:=List.length_pos_iff.2 hy0
     obtain⟨nc,g1,g2⟩:=aFr (P:=P) (ty:=ty) h1 h2 hzv hvx hor hnr (by omega) hb0 hbd
     refine⟨_,_,bJ μ d (some (w.heap.size,nc)),g2,?_⟩
     show SR C F _ (s.renew d d d (iL es (xs++ys) (dZ P e)) (.ref d 0 (xs++ys).length)) _ _
     rw[List.length_append]
     exact V3 h hd hold hnew g1 (by rw[zeroCells_size,hzs zv hzv]) hrow (zI P e)
   ·rename_i L lo n
    split at he
    ·rename_i x' hg
     split at he
     ·rename_i hcnd
      obtain⟨harr,hfz,rfl⟩:=hcnd
      obtain rfl:=Option.some.inj he
      obtain⟨hd,hzs,hye,hxe,hb0,hbd,hnle⟩:=of_decide_eq_true hn
      have hrow:n+ys.length<=dD:=by
       unfold dD
       have:(2*(n+ys.length)+200)*1<=(2*(n+ys.length)+200)*bytes:=Nat.mul_le_mul_left _ (Nat.pos_of_ne_zero hb0)
       omega
      obtain⟨hvx,new,hnew,hnr⟩:=tT (P:=P) h.sw hys hb hye
      have hnr':=(tT (P:=P) h.drew.sw hys hb hye).2
      have hseg:(cA x'.xs 0 n).length=n:=zE (by omega)
      have hloc:aE s.o μ L=some (bV x' (μ L)):=by simp[aE,hg]
      have hee: ∀y∈cA x'.xs 0 n,y.cells.length=es:=by
       intro y hy
       have ho:=h.sw.obj L x' hg
       cases hm:μ L with
       |none=>
        rw[hm]at ho
        have h0:x'.xs= []:=ho
        have:=xB hy
        rw[h0]at this;simp at this
       |some p=>
        obtain⟨b,cap⟩:=p
        rw[hm]at ho
        rw[<-hxe]
        obtain⟨c,e,q1,q2,q3,q4,q5,q6,q7⟩:=ObjAt.std ho (V2 hx hg)
        exact q5 y (xB hy)
      have hel:lI s.o (.ref L 0 n)=some (cA x'.xs 0 n):=by simp[lI,hg,harr]
      obtain⟨⟨base,c,hvx⟩,eP,hold,hor⟩:=H6 (P:=P) h.drew.sw hel hx hee
      rw[hseg]at hvx hor
      subst hvx
      by_cases hroom:n+ys.length<=c
      ·cases hx with
       |refNil g=>
        have hy0:ys= []:=List.length_eq_zero_iff.1 (by omega)
        subst hy0
        have hnr0:(Builtin.firstCells es 0 vb).run P w= .ok ([]:List Value).toArray w:=V4 hvx
        refine⟨.slice base 0 0,w,bJ μ (if x'.pin=true then d else L) none,zJ (P:=P) (ty:=ty) (w':=w) (new:= []) (n:=0) (m:=0) (c:=0) h1 h2 hvx hnr0 (by omega) (fun q hq=>by simp[storeCells]) (fun _=>rfl),?_⟩
        have hs0:cA x'.xs 0 0= []:=List.length_eq_zero_iff.1 hseg
        rw[hs0]
        refine SR.renew (p:=none) h hd rfl rfl rfl (Fr.refl _ _) (by rfl) (fun b c hbc=>by cases hbc) (fun loc hl=>?_)
        exact .refNil (hl.trans (by rw[lE (by show(if x'.kd=dZ P e then dZ P e else 0)≠1;have:=zI P e;split<;>omega)]))
       | @ref _ _ _ _ _ blk cap es0 len p c g1 g2 g3 g4 g5=>
        rw[hloc]at g1
        obtain⟨hm,hes,rfl,hk1⟩:=fB (Option.some.inj g1)
        have hp0:=g4 (.inr rfl)
        simp at hp0
        subst hp0
        obtain rfl:=g5 rfl
        have ho:=h.sw.obj L x' hg
        rw[hm]at ho
        obtain⟨cc,ty',q1,q2,q3,q4,q5,q6,q7⟩:=ho.std hk1
        have hfit:n*es+0+new.length<=cc.size:=by
         rw[hnew.1,q2,hxe,Nat.add_zero,<-Nat.add_mul];exact Nat.mul_le_mul_right _ hroom
        have hst:=run_storeCells_at (P:=P) blk (n*es) ty' new 0 cc w q1 hfit (fun v hv=>hnew.2.2.1 v hv)
        let cc':=(cc.toList.take (n*es+0)++new++cc.toList.drop (n*es+0+new.length)).toArray
        have hcc':(w.setRow blk cc').heap[blk]?=some (.cells cc' ty' (0,0)):=setRow_heap w blk cc cc' ty' (0,0) q1
        have hsize:cc'.size=cc.size:=by
         simp only[cc',List.size_toArray,List.length_append,List.length_take,List.length_drop,Array.length_toList]
         omega
        refine⟨.slice (some ⟨blk,0,none⟩) (n+ys.length) c,w.setRow blk cc',bJ μ (if x'.pin=true then d else L) (some (blk,c)),zJ (P:=P) (ty:=ty) h1 h2 hvx hnr hroom (fun q hq=>?_) (fun hh=>by cases hh),?_⟩
        ·obtain rfl:=Option.some.inj hq
         rw[nH,Nat.zero_add]
         exact hst
        ·refine SR.renew (x:=iL es (cA x'.xs 0 n++ys) (if x'.kd=dZ P e then dZ P e else 0)) (w':=w.setRow blk cc') (p:=some (blk,c)) h hd rfl rfl rfl ⟨rfl,rfl,rfl,by simp,fun k hk hkk=>setRow_other w blk k cc' (fun e=>hkk ⟨x',c,hg,hfz,by rw[hm,e]⟩),Nat.le_refl _⟩ ?_ (fun b c' hbc=>by simp at hbc;obtain⟨rfl,rfl⟩:=hbc;exact .inr ⟨x',c,hg,hfz,hm⟩) (fun loc hl=>?_)
         ·-- the row in its block
          have hkk:(if x'.kd=dZ P e then dZ P e else 0)=0\/(if x'.kd=dZ P e then dZ P e else 0)=ty'+2:=by
           split
           ·rename_i hh;rw[<-hh];exact q7.imp_right And.left
           ·exact .inl rfl
          have hrowx:ERow F (cA x'.xs 0 n) es ((cc.toList.take (n*es))):=by
           have hlen:(cc.toList.take (n*es)).length=n*es:=by
            rw[List.length_take,Array.length_toList];omega
           have hload:=run_loadCells_list (P:=P) w.drew ⟨blk,0,none⟩ (cc.toList.take (n*es)) (fun j v hv=>by
            rw[List.getElem?_take]at hv
            split at hv
            ·rw[nH,Nat.zero_add]
             have hq:w.drew.heap[blk]?=some (.cells cc ty' (0,0)):=q1
             simp only[Array.getElem?_toList]at hv
             simp only[World.cell?,hq]
             simpa using hv
            ·cases hv)
           rw[hlen]at hload
           have hor':(loadCells ⟨blk,0,none⟩ (n*es)).run P w.drew= .ok eP.toArray w.drew:=by simpa[Builtin.firstCells]using hor
           rw[hload]at hor'
           have:cc.toList.take (n*es)=eP:=by simpa using hor'
           rw[this];exact hold
          have hall:=hrowx.append hnew
          refine hall.at hcc' (by rw[hsize,q2,hxe]) (by rw[List.length_append,hseg];exact hroom) (by rw[List.length_append,hseg];exact hrow) (fun k hk=>?_) hkk
          simp only[cc',Nat.add_zero,List.getElem?_toArray]
          rw[List.getElem?_append_left hk]
         ·have:= @RV.ref F loc (if x'.pin=true then d else L) 0 (n+ys.length) blk c es ((cA x'.xs 0 n)++ys).length 0 c (by rw[hl,lE (by show(if x'.kd=dZ P e then dZ P e else 0)≠1;have:=zI P e;split<;>omega)];rfl) (by rw[List.length_append,hseg];omega) hroom (fun _=>by simp) (fun _=>rfl)
          exact this
      ·obtain⟨new',hnew',hnr''⟩:=hnr'
       obtain⟨nc,g1,g2⟩:=aFr (P:=P) (ty:=ty) h1 h2 hzv hvx hor hnr'' (by omega) hb0 hbd
       refine⟨_,_,bJ μ (if x'.pin=true then d else L) (some (w.heap.size,nc)),g2,?_⟩
       have key:=V3 (L:=L) (T:=if x'.pin=true then d else L) (nc:=nc) (e:=e) (zs:=Builtin.zeroCells zv.cells (nc - (n+ys.length))) h hd hold hnew' (by rw[hseg];exact g1) (by rw[zeroCells_size,hzs zv hzv,hseg]) (by rw[hseg];exact hrow) (kk:=if x'.kd=dZ P e then dZ P e else 0) (by have:=zI P e;split<;>omega)
       rw[hseg]at key
       exact key
     ·cases he
    ·cases he
   ·cases he
  ·cases he
 ·cases he
theorem H8 {a:AV} (h:a.pure=true):a.plain=true:=by cases a<;>first|rfl|(simp[AV.pure]at h)
theorem zeroCells_get' {z:Array Value} {n es i j:Nat} (hz:z.size=es) (hj:j<es) (hi:i<n):(Builtin.zeroCells z n)[i*es+j]?=z[j]?:=by
 have hlt:i*es+j<n*es:=by
  have:(i+1)*es<=n*es:=Nat.mul_le_mul_right _ hi
  rw[Nat.add_mul]at this;omega
 simp only[Builtin.zeroCells,Array.getElem?_map,Array.getElem?_range,hz,hlt]
 have hm:(i*es+j) % es=j:=by rw[Nat.mul_comm,Nat.mul_add_mod];exact Nat.mod_eq_of_lt hj
 simp[hm,hz,hj]
theorem ERow.zeros {F:Bool->aZ} {z:AV} {zv:Value} {es:Nat} (n:Nat) (hrz:RV (sh F) bU z zv) (c4:z.pure=true) (c5:z.cells.length=es):zv.cells.size=es/\ERow F (List.replicate n z) es (Builtin.zeroCells zv.cells n).toList:=by
 have hcv:=hrz.cv (H8 c4)
 have hzs:zv.cells.size=es:=by rw[<-hcv.len];exact c5
 refine⟨hzs,by simp[zeroCells_size,hzs],fun y hy=>by rw[(List.mem_replicate.1 hy).2];exact c5,fun v hv=>?_,fun i y j a' hy hj=>?_⟩
 ·simp only[Builtin.zeroCells,Array.toList_map,List.mem_map]at hv
  obtain⟨k,hk,rfl⟩:=hv
  have hk':k<n*zv.cells.size:=by simpa using hk
  have hpos:0<zv.cells.size:=by
   rcases Nat.eq_zero_or_pos zv.cells.size with h0|h0
   ·rw[h0]at hk';simp at hk'
   ·exact h0
  have hlt:k % zv.cells.size<zv.cells.size:=Nat.mod_lt _ hpos
  exact hcv.one (k % zv.cells.size) _ (by rw[Array.getElem?_eq_getElem hlt,getElem!_pos zv.cells _ hlt])
 ·obtain⟨hi,rfl⟩:=List.getElem?_eq_some_iff.1 hy
  simp only[List.length_replicate]at hi
  simp only[List.getElem_replicate]at hj
  have hjl:j<es:=by rw[<-c5];exact(List.getElem?_eq_some_iff.1 hj).1
  have hjs:j<zv.cells.size:=by omega
  refine⟨zv.cells[j],?_,hcv.rv j a' _ hj (by simp[hjs])⟩
  rw[Array.getElem?_toList,zeroCells_get' hzs hjl hi]
  simp[hjs]
theorem aQp {P:Program} {st xt e ty:TypeId} {es bytes:Nat} (h1:cE P st=some (e,es,bytes)) {ki:IntKind} (h2:P.underlying xt=some (.int ki)) {zv:Value} (hz:dQ P e=some zv) {w:World} {base:Option Addr} {n m c:Nat} {eP:List Value}
 (ho:(Builtin.firstCells es n (.slice base n c)).run P w.drew= .ok eP.toArray w.drew)
 (hc:c<n+m) (hb:bytes≠0) (hes:es≠0) (hm:m≠0) (hbd:(2*(n+m)+200)*bytes<=2^48):
 ∃nc,n+m<=nc/\(Builtin.append_ #[st,xt] ty #[.slice base n c,.int .i64 (m:Int)]).run P w=
  .ok (.slice (some ⟨w.heap.size,0,none⟩) (n+m) nc) (w.drew.alloc (.cells (eP.toArray++Builtin.zeroCells zv.cells m++Builtin.zeroCells zv.cells (nc - (n+m))) e (0,0))):=by
 obtain⟨hu,hs,i,hi,_,hib⟩:=gV h1 w
 obtain⟨_,hs',_⟩:=gV h1 {w with drawn:=w.drawn+1}
 have hcap:=aFp hc
 have hle:Builtin.nextslicecap (n+m) c*bytes<=2^48:=Nat.le_trans (Nat.mul_le_mul_right _ hcap) hbd
 have hpos:1<=bytes:=Nat.pos_of_ne_zero hb
 have hnm:n+m<=2^48:=by
  have:(2*(n+m)+200)*1<=(2*(n+m)+200)*bytes:=Nat.mul_le_mul_left _ hpos
  omega
 have hti: ∀w':World,(typeInfo e).run P w'= .ok i w':=fun w'=>by simp[typeInfo,hi]
 have hmax:IntKind.i64.max=9223372036854775807:=by decide
 have hzr:=rQ hz
 refine⟨(Question.appendCap (n+m) c e).cut (w.tape w.drawn (.appendCap (n+m) c e)),by simp[Question.cut],?_⟩
 have hwr:IntKind.i64.wrap (m:Int)=m:=by
  simp[IntKind.wrap,IntKind.bits,IntKind.signed]
  omega
 have hmb:m*bytes<=2^48:=Nat.le_trans (Nat.mul_le_mul_right _ (by omega)) hbd
 have hmi: ¬((m:Int)*bytes>2^48):=by
  have:((m*bytes:Nat):Int)<=((2^48:Nat):Int):=Int.ofNat_le.2 hmb
  simp only[Int.natCast_mul]at this
  simpa using this
 have hmi': ¬(281474976710656:Int)<(m:Int)*bytes:=by simpa using hmi
 have hui:=run_underlying h2
 simp only[Builtin.append_,Sem.run_bind,hu,hs,Result.andThen_ok,List.getElem?_toArray,List.getElem?_cons_zero,List.getElem?_cons_succ]
 have hnlt: ¬n+m<=c:=by omega
 have hle': ¬281474976710656<Builtin.nextslicecap (n+m) c*bytes:=by omega
 have hbig: ¬(9223372036854775807:Int)<((n+m:Nat):Int):=by omega
 have hbig': ¬(9223372036854775807:Int)<(n:Int)+(m:Int):=by omega
 have hneg: ¬(m:Int)<0:=by omega
 have hme:m*es≠0:=Nat.mul_ne_zero hm hes
 simp[hui,hwr,hs,hnlt,hti,hib,hb,hme,hneg,hle',hzr,newRow,Question.forced,ho,hmi',hmax,hbig',asInt,asIntOf]
def V5 (P:Program) (st xt:TypeId) (L lo n c:Nat) (b:AV) (d:Nat) (s:ASt):Option St:=
 match b with
 | .sc (.int .i64 k)=>match cE P st,P.underlying xt with
  |some (e,es,bytes),some (.int _)=>match aL P e,lk s.o L with
   |some z,some x=>if x.arr=true/\z.pure=true/\z.cells.length=es then
    some ⟨decide (d<s.n/\x.es=es/\es≠0/\lo=0/\0<k/\c<n+k.toNat/\n<=x.xs.length/\bytes≠0/\(2*(n+k.toNat)+200)*bytes<=2^48),
     s.renew d d d (iL es (cA x.xs 0 n++List.replicate k.toNat z) 0) (.ref d 0 (n+k.toNat))⟩else none
   |_,_=>none
  |_,_=>none
 |_=>none
theorem aQq {P:Program} {C F μ} {s:ASt} {a:Act} {w:World} (h:SR C F μ s a w) {st xt ty:TypeId} {L lo n c:Nat} {b:AV} {vx vb:Value} (hx:RV F (aE s.o μ) (.rc L lo n c) vx) (hb:RV F (aE s.o μ) b vb) {d:Nat} {r:St}
 (he:V5 P st xt L lo n c b d s=some r) (hn:r.need):
 ∃v w' μ',(Builtin.append_ #[st,xt] ty #[vx,vb]).run P w= .ok v w'/\SR C F μ' r.st (a.put (some d) v) w':=by
 unfold V5 at he
 split at he
 ·rename_i k
  split at he
  ·rename_i e es bytes ki h1 h2
   split at he
   ·rename_i z x' hz hg
    split at he
    ·rename_i hcnd
     obtain⟨harr,hzp,hzc⟩:=hcnd
     obtain rfl:=Option.some.inj he
     obtain⟨hd,hxe,hes,rfl,hk0,hcl,hnle,hb0,hbd⟩:=of_decide_eq_true hn
     cases hb
     obtain⟨m,rfl⟩: ∃m:Nat,k=m:=⟨k.toNat,by omega⟩
     simp only[Int.toNat_natCast]at hcl hbd ⊢
     unfold aL at hz
     cases hzv:dQ P e with
     |none=>simp[hzv]at hz
     |some zv=>
      simp only[hzv,Option.bind_some]at hz
      obtain⟨hzs,hzrow⟩:=ERow.zeros (F:=F) m (rS hz) hzp hzc
      have hseg:(cA x'.xs 0 n).length=n:=zE (by omega)
      have hrow:n+m<=dD:=by
       unfold dD
       have:(2*(n+m)+200)*1<=(2*(n+m)+200)*bytes:=Nat.mul_le_mul_left _ (Nat.pos_of_ne_zero hb0)
       omega
      have hel:lI s.o (.rc L 0 n c)=some (cA x'.xs 0 n):=by simp[lI,hg,harr];omega
      have hee: ∀y∈cA x'.xs 0 n,y.cells.length=es:=by
       intro y hy
       have ho:=h.sw.obj L x' hg
       cases hx with
       | @rc _ _ _ _ _ blk cap es' len o g1 g2 g3=>
        simp only[aE,hg,Option.map_some]at g1
        obtain⟨hm,_,_,hk1⟩:=fB (Option.some.inj g1)
        rw[hm]at ho
        rw[<-hxe]
        obtain⟨c,e,q1,q2,q3,q4,q5,q6,q7⟩:=ObjAt.std ho hk1
        exact q5 y (xB hy)
      obtain⟨⟨base,c',hvx⟩,eP,hold,hor⟩:=H6 (P:=P) h.drew.sw hel hx hee
      rw[hseg]at hvx hor
      have hc':c'=c:=by
       rw[hvx]at hx
       cases hx;simp
      subst hc'
      subst hvx
      obtain⟨nc,g1,g2⟩:=aQp (P:=P) (ty:=ty) h1 h2 hzv hor hcl hb0 hes (by omega) hbd
      refine⟨_,_,bJ μ d (some (w.heap.size,nc)),g2,?_⟩
      have key:=V3 (L:=d) (T:=d) (nc:=nc) (e:=e) (kk:=0) (zs:=Builtin.zeroCells zv.cells (nc - (n+m))) h hd hold hzrow (by rw[hseg];simpa using g1) (by rw[zeroCells_size,hzs,hseg];simp) (by rw[hseg];simpa using hrow) (.inl rfl)
      simp only[hseg,List.length_replicate,Array.toArray_toList]at key
      exact key
    ·cases he
   ·cases he
  ·cases he
 ·cases he
def xD (P:Program) (st xt:TypeId) (a b:AV) (d:Nat) (s:ASt):Option St:=match a with
 | .sc (.slice none 0 0)=>match mC s.o b with
  |some []=>match cE P st,fU P xt with
   |some _,true=>some ⟨decide (d<s.n),s.put d (.sc (.slice none 0 0))⟩
   |_,_=>none
  |_=>tU P st xt (.list false true []) b d s
 | .rc L lo n c=>V5 P st xt L lo n c b d s
 |_=>tU P st xt a b d s
theorem aQr {P:Program} {C F μ} {s:ASt} {a:Act} {w:World} (h:SR C F μ s a w) {st xt ty:TypeId} {x b:AV} {vx vb:Value} (hx:RV F (aE s.o μ) x vx) (hb:RV F (aE s.o μ) b vb) {d:Nat} {r:St}
 (he:xD P st xt x b d s=some r) (hn:r.need):
 ∃v w' μ',(Builtin.append_ #[st,xt] ty #[vx,vb]).run P w= .ok v w'/\SR C F μ' r.st (a.put (some d) v) w':=by
 unfold xD at he
 split at he
 ·cases hx
  split at he
  ·rename_i hs
   split at he
   ·rename_i q h1 h2
    obtain⟨e,es,bytes⟩:=q
    obtain rfl:=Option.some.inj he
    obtain⟨hvx,new,hnew,hnr⟩:=tT (P:=P) (es:=es) h.sw hs hb (fun y hy=>by simp at hy)
    exact⟨.slice none 0 0,w,μ,zJ (P:=P) (ty:=ty) (w':=w) (new:= []) (n:=0) (m:=0) (c:=0) h1 h2 hvx (V4 hvx) (by omega) (fun q hq=>by cases hq) (fun _=>rfl),h.put (of_decide_eq_true hn) (.sc rfl)⟩
   ·cases he
  ·exact aFs h .nil hb he hn
 ·exact aQq h hx hb he hn
 ·exact aFs h hx hb he hn
end Go.Ab
namespace Go.Ab
open Go.RowKit
def nK:ASt->List AV->Option (ASt×List AV)
 |s,[]=>some (s,[])
 |s,a::r=>match share s a with
  |some (s1,b)=>match nK s1 r with
   |some (s2,bs)=>some (s2,b::bs)
   |none=>none
  |none=>none
theorem aFt {C μ} {a:Act} {w:World}: ∀{cs ds:List AV} {F} {s s':ASt},SR C F μ s a w->nK s cs=some (s',ds)->
 ∃F',FLe F F'/\SR C F' μ s' a w/\s'.n=s.n/\aE s'.o μ=aE s.o μ/\ds.length=cs.length/\ ∀(i:Nat) (x y:AV) (v:Value),cs[i]?=some x->ds[i]?=some y->RV F (aE s.o μ) x v->RV F' bU y v
 | [],ds,F,s,s',h,he=>by
  simp[nK]at he
  obtain⟨rfl,rfl⟩:=he
  exact⟨F,FLe.refl _,h,rfl,rfl,rfl,fun i x y v hx=>by simp at hx⟩
 |c::cs,ds,F,s,s',h,he=>by
  simp only[nK]at he
  split at he
  ·rename_i s1 b h1
   split at he
   ·rename_i s2 bs h2
    obtain⟨rfl,rfl⟩:=Prod.mk.inj (Option.some.inj he)
    obtain⟨F1,a1,a2,a3,a4,a5⟩:=zF h h1
    obtain⟨F2,b1,b2,b3,b4,b5,b6⟩:=aFt a2 h2
    refine⟨F2,a1.trans b1,b2,b3.trans a3,b4.trans a4,by simp[b5],fun i x y v hx hy hv=>?_⟩
    cases i with
    |zero=>simp at hx hy;subst hx;subst hy;exact(a5 v hv).mono b1
    |succ i=>simp at hx hy;exact b6 i x y v hx hy (by rw[a4];exact hv.mono a1)
   ·cases he
  ·cases he
theorem aFu {es:Nat}: ∀(vs:List Value) (m:Nat) (cs:Array Value),(∀v∈vs,v.cells.size=es)->(m+vs.length)*es<=cs.size->
 ∃r,Instr.fill (fun i=>some (i*es,es)) cs ((vs.zipIdx m).map fun p=>(p.2,p.1))=some r/\r.size=cs.size/\(∀k,k<m*es->r[k]?=cs[k]?)/\
  ∀(p:Nat) (v:Value) (j:Nat),vs[p]?=some v->j<es->r[(m+p)*es+j]?=v.cells[j]?
 | [],m,cs,_,_=>⟨cs,rfl,rfl,fun _ _=>rfl,fun p v j hv=>by simp at hv⟩
 |v::vs,m,cs,hs,hl=>by
  have hv:v.cells.size=es:=hs v (by simp)
  simp only[List.length_cons]at hl
  have hm1:(m+1)*es<=cs.size:=Nat.le_trans (Nat.mul_le_mul_right _ (by omega)) hl
  rw[Nat.add_mul]at hm1
  have hg:=fun i=>T9 (m*es) v.cells.toList 0 cs i (by simp[hv];omega)
  have hu:v.cells.zipIdx.foldl (fun cs x=>cs.setIfInBounds (m*es+x.2) x.1) cs=((v.cells.toList.zipIdx 0).foldl (fun cs x=>cs.setIfInBounds (m*es+x.2) x.1) cs):=by
   rw[<-Array.foldl_toList,Array.toList_zipIdx]
  have hz:=U0 (m*es) (v.cells.toList.zipIdx 0) cs
  obtain⟨r,h1,h2,h3,h4⟩:=aFu vs (m+1) ((v.cells.toList.zipIdx 0).foldl (fun cs x=>cs.setIfInBounds (m*es+x.2) x.1) cs) (fun u hu=>hs u (by simp[hu])) (by rw[hz];rw[show m+1+vs.length=m+(vs.length+1) by omega];exact hl)
  refine⟨r,?_,h2.trans hz,fun k hk=>?_,fun p u j hp hj=>?_⟩
  ·simp only[List.zipIdx_cons,List.map_cons,Instr.fill]
   rw[if_neg (by simp[hv];omega)]
   have:(v.cells.zipIdx.foldl (fun cs (x:Value×Nat)=>match x with|(c,j)=>cs.setIfInBounds (m*es+j) c) cs)=v.cells.zipIdx.foldl (fun cs x=>cs.setIfInBounds (m*es+x.2) x.1) cs:=rfl
   rw[this,hu]
   exact h1
  ·rw[h3 k (by rw[Nat.add_mul];omega),hg k]
   rw[if_neg (by simp;omega)]
  ·cases p with
   |zero=>
    simp at hp;subst hp
    rw[Nat.add_zero,h3 (m*es+j) (by rw[Nat.add_mul];omega),hg]
    rw[if_pos ⟨by omega,by simp[hv];omega⟩]
    simp
   |succ p=>
    simp at hp
    rw[show m+(p+1)=m+1+p by omega]
    exact h4 p u j hp hj
def zK (P:Program) (t:TypeId) (len:Nat) (ps:Option (List (Nat×AV))) (d:Nat) (s:ASt):Option St:=
 match cE P t,ps with
 |some (e,es,_),some ps=>match dQ P e with
  |some _=>if ps.map (·.1)=List.range len then match nK s (ps.map (·.2))with
   |some (s1,bs)=>some ⟨decide (d<s1.n/\len*es<=2^24/\len<=dD/\ ∀b∈bs,b.pure=true/\b.cells.length=es),s1.fresh d (dF es bs) (.ref d 0 len)⟩
   |none=>none
   else none
  |none=>none
 |_,_=>none
theorem aQs {P:Program} {C F μ} {s:ASt} {a:Act} {w:World} (h:SR C F μ s a w) {t:TypeId} {len:Nat} {ρ:Operand->Option AV} {ρv:Operand->Value} (hρ: ∀x a,ρ x=some a->RV F (aE s.o μ) a (ρv x)) {parts:Array (Nat×Operand)} {d:Nat} {r:St}
 (he:zK P t len (oI ρ parts.toList) d s=some r) (hn:r.need):
 ∃v w' F' μ',(Instr.buildSlice t len (parts.map fun(i,x)=>(i,ρv x))).run P w= .ok v w'/\SR C F' μ' r.st (a.put (some d) v) w':=by
 unfold zK at he
 split at he
 ·rename_i e es bytes ps ht hp
  split at he
  ·rename_i zv hz
   split at he
   ·rename_i hix
    split at he
    ·rename_i s1 bs hs1
     obtain rfl:=Option.some.inj he
     obtain⟨hd,hlen,hrow,hbs⟩:=of_decide_eq_true hn
     obtain⟨hu,hs,_⟩:=gV ht w
     obtain⟨m1,m2⟩:=rR hp
     obtain⟨F',f1,f2,f3,f4,f5,f6⟩:=aFt h hs1
     have hpl:ps.length=len:=by have:=congrArg List.length hix;simpa using this
     have hbl:bs.length=len:=by rw[f5];simpa using hpl
     let vs:List Value:=parts.toList.map fun p=>ρv p.2
     have hvl:vs.length=len:=by simp[vs,<-m1,hpl]
     have hrv: ∀(i:Nat) (y:AV) (v:Value),bs[i]?=some y->vs[i]?=some v->RV F' bU y v:=by
      intro i y v hy hv
      simp only[vs,List.getElem?_map,Option.map_eq_some_iff]at hv
      obtain⟨q,hq,rfl⟩:=hv
      have hi:i<ps.length:=by rw[m1];exact(List.getElem?_eq_some_iff.1 hq).1
      have hpi:ps[i]?=some ps[i]:=by simp[hi]
      have hq2:=m2 i q ps[i] hq hpi
      cases hr:ρ q.2 with
      |none=>simp[hr]at hq2
      |some b=>
       simp[hr]at hq2
       refine f6 i b y _ ?_ hy (hρ _ _ hr)
       rw[List.getElem?_map,hpi,<-hq2];rfl
     have hcv: ∀(i:Nat) (y:AV) (v:Value),bs[i]?=some y->vs[i]?=some v->CV (sh F') bU y.cells v.cells/\y.cells.length=es:=fun i y v hy hv=>by
      obtain⟨g1,g2⟩:=hbs y (List.mem_of_getElem? hy)
      exact⟨((hrv i y v hy hv).shared g1).cv (H8 g1),g2⟩
     have hvsz: ∀v∈vs,v.cells.size=es:=fun v hv=>by
      obtain⟨i,hi⟩:=List.getElem?_of_mem hv
      have hib:i<bs.length:=by rw[hbl,<-hvl];exact(List.getElem?_eq_some_iff.1 hi).1
      obtain⟨g1,g2⟩:=hcv i bs[i] v (by simp[hib]) hi
      rw[<-g1.len];exact g2
     obtain⟨c0,hc0,hc0s⟩: ∃c0:Array Value,(do let zero<-(if len*es=0 then pure #[]else do pure (<-zeroValue e).cells);pure ((Array.range (len*es)).map (zero[· % zero.size]!)):Sem (Array Value)).run P w= .ok c0 w/\c0.size=len*es:=by
      by_cases h0:len*es=0
      ·exact⟨#[],by simp[h0],by simp[h0]⟩
      ·refine⟨(Array.range (len*es)).map (zv.cells[· % zv.cells.size]!),?_,by simp⟩
       simp[h0,rQ hz]
     obtain⟨cells,k1,k2,k3,k4⟩:=aFu (es:=es) vs 0 c0 hvsz (by rw[hc0s,hvl,Nat.zero_add];exact Nat.le_refl _)
     have hparts:(parts.map fun(i,x)=>(i,ρv x)).toList=(vs.zipIdx 0).map fun p=>(p.2,p.1):=by
      apply List.ext_getElem?
      intro i
      simp only[Array.toList_map,List.getElem?_map,List.getElem?_zipIdx,vs,Nat.zero_add]
      cases hq:parts.toList[i]? with
      |none=>simp
      |some q=>
       have hi:i<ps.length:=by rw[m1];exact(List.getElem?_eq_some_iff.1 hq).1
       have hq2:=m2 i q ps[i] hq (by simp[hi])
       have hfst:ps[i].1=i:=by
        have:=congrArg (·[i]?) hix
        simp only[List.getElem?_map,List.getElem?_range (by omega:i<len)]at this
        simpa[hi]using this
       cases hr:ρ q.2 with
       |none=>simp[hr]at hq2
       |some b=>
        simp[hr]at hq2
        have:q.1=i:=by rw[<-hfst,<-hq2]
        simp[this]
     refine⟨.slice (some ⟨w.heap.size,0,none⟩) len len,w.alloc (.cells cells e (0,0)),F',bJ μ d (some (w.heap.size,len)),?_,?_⟩
     ·have hbig: ¬2^24<len*es:=by omega
      simp only[Sem.run_bind]at hc0
      simp only[Instr.buildSlice,Sem.run_bind,hu,hs,Result.andThen_ok]
      have hparts':List.map (fun x=>(x.1,ρv x.2)) parts.toList=(vs.zipIdx 0).map fun p=>(p.2,p.1):=by rw[<-hparts,Array.toList_map]
      by_cases h0:len*es=0
      ·have hc00:c0= #[]:=Array.eq_empty_of_size_eq_zero (by rw[hc0s,h0])
       have hr0:(Array.map (fun x:Nat=>(default:Value)) (Array.range 0))=c0:=by rw[hc00];exact Array.eq_empty_of_size_eq_zero (by simp)
       simp[h0]
       rw[hparts',hr0,k1]
       simp[newRow]
      ·simp[h0,rQ hz]at hc0
       simp[h0,hbig,rQ hz,hc0]
       rw[hparts',k1]
       simp[newRow]
     ·refine f2.fresh hd (x:=dF es bs) (c:=cells) (cap:=len) ⟨by rw[k2,hc0s];rfl,by simp[dF,hbl],by simp[dF,hbl];exact hrow,fun y hy=>(hbs y hy).2,fun i y j a' hy hj=>?_,rfl,rfl,.inl rfl⟩ ?_ fun loc hl=>?_
      ·have hib:i<vs.length:=by rw[hvl,<-hbl];exact(List.getElem?_eq_some_iff.1 hy).1
       obtain⟨g1,g2⟩:=hcv i y vs[i] hy (by simp[hib])
       have hjl:j<es:=by rw[<-g2];exact(List.getElem?_eq_some_iff.1 hj).1
       have hjs:j<vs[i].cells.size:=by rw[<-g1.len];exact(List.getElem?_eq_some_iff.1 hj).1
       have hk:=k4 i vs[i] j (by simp[hib]) hjl
       rw[Nat.zero_add]at hk
       refine⟨vs[i].cells[j],?_,g1.one j _ (by simp[hjs]),g1.rv j a' _ hj (by simp[hjs])⟩
       show cells[i*es+j]?=_
       rw[hk];simp[hjs]
      ·rw[Bool.eq_false_iff]
       intro hh
       obtain⟨i,y,hy,hL⟩:=kP hh
       have hib:i<vs.length:=by rw[hvl,<-hbl];exact(List.getElem?_eq_some_iff.1 hy).1
       exact(hrv i y vs[i] hy (by simp[hib])).noloc_has (fun _=>rfl) d hL
      ·have:= @RV.ref F' loc d 0 len w.heap.size len es bs.length 0 len (by rw[hl];rfl) (by omega) (Nat.le_refl _) (fun _=>by simp) (fun _=>rfl)
       exact this
    ·cases he
   ·cases he
  ·cases he
 ·cases he
end Go.Ab
namespace Go.Ab
open Go.RowKit
def OwnR (F:Bool->aZ) (w:World) (base es:Nat) (xs:List AV) (v:Value):Option (Nat×Nat)->Prop
 |none=>xs= []/\ ∃q,v= .slice q 0 0
 |some (b,cap)=>v= .slice (some ⟨b,0,none⟩) xs.length cap/\ObjAt F bU w (dF es xs) b cap/\base<=b/\ ∀l k,F l b k=none
def ResV1 (F:Bool->aZ) (w:World) (base:Nat) (p:Option (Nat×Nat)) (v:Value):AV->Prop
 | .own es xs=>OwnR F w base es xs v p
 |r=>r.pure=true/\RV F bU r v
def zL (F:Bool->aZ) (w:World) (base:Nat) (v:Value):AV->Prop
 | .tup rs=> ∃(vs:Array Value) (ps:Nat->Option (Nat×Nat)),v= .tuple vs/\rs.length=vs.size/\(∀(i:Nat) (r:AV) (u:Value),rs[i]?=some r->vs[i]?=some u->ResV1 F w base (ps i) u r)/\
  ∀i j b c c',ps i=some (b,c)->ps j=some (b,c')->i=j
 |r=> ∃p,ResV1 F w base p v r
structure Fok (F:Bool->aZ) (w:World):Prop where
 facts: ∀l b k v,F l b k=some v->w.cell? ⟨b,k,none⟩=some v
 sub:Sub F
structure APost (F:Bool->aZ) (w:World) (F':Bool->aZ) (w':World):Prop where
 ok:Fok F' w'
 le:FLe F F'
 lentc: ∀b k v,F' true b k=some v->F true b k=some v\/F' false b k=some v
 newf: ∀b k v,F' false b k=some v->F false b k=some v\/w.heap.size<=b
 fr:Fr (fun _=>False) w w'
class Glob (P:Program) where
 tab:Nat->Option AV
@[reducible] def Glob.none (P:Program):Glob P:=⟨fun _=>Option.none⟩
def V6 (g:Nat):Value:= .pointer (some ⟨g,0,none⟩)
def GlF (P:Program) [Glob P] (F:Bool->aZ):Prop:= ∀g a,Glob.tab P g=some a->RV (sh F) bU a (V6 g)
theorem GlF.mono {P:Program} [Glob P] {F F':Bool->aZ} (h:GlF P F) (hF: ∀b k v,F false b k=some v->F' false b k=some v):GlF P F':=fun g a hg=>
 (h g a hg).mono fun l b k v e=>hF b k v e
theorem aFv {P:Program} {F:Bool->aZ}: @GlF P (Glob.none P) F:=fun g a h=>by cases h
class GOk (P:Program) [Glob P] (C:Cx):Prop where
 it:GlF P C.F0
theorem GOk.at {P:Program} [Glob P] {C:Cx} [h:GOk P C] {F:Bool->aZ} (hF:FLe C.F0 F):GlF P F:=h.it.mono fun b k v e=>hF _ _ _ _ e
def ACall (P:Program) [Glob P] (f:FuncId) (args:List AV) (R:AV->Prop):Prop:=
 (∀cargs w,(callFunc f cargs).run P w= .ok (.enter f cargs) w)/\
 ∀(w:World) (F:Bool->aZ) (cargs:Array Value),GlF P F->Fok F w->args.length=cargs.size->(∀(i:Nat) (a:AV) (v:Value),args[i]?=some a->cargs[i]?=some v->RV F bU a v)->
  Calls P f cargs w fun e w'=> ∃v r F',e= .returned v/\R r/\APost F w F' w'/\zL F' w' w.heap.size v r
theorem ACall.mono {P f args} [Glob P] {R R':AV->Prop} (h:ACall P f args R) (hR: ∀r,R r->R' r):ACall P f args R':=
 ⟨h.1,fun w F cargs h0 h1 h2 h3=>(h.2 w F cargs h0 h1 h2 h3).mono fun e w' ⟨v,r,F',g1,g2,g3,g4⟩=>⟨v,r,F',g1,hR r g2,g3,g4⟩⟩
def qO (cs:List AV) (off es:Nat):AV:=if es=1 then cs.getD off .dead else .agg ((cs.drop off).take es)
def jB (o:aF):AV->Option AV
 | .ref L lo n=>match lk o L with
  |some x=>if x.arr=true then some (.list (!x.fz) false (cA x.xs lo n))else none
  |none=>none
 | .ptr L i k=>match lk o L with
  |some x=>if x.arr=true\/AV.pureL x.xs=true then some (.iptr true x.xs i k)else none
  |none=>none
 | .aref L i k es n=>match lk o L with
  |some x=>match x.xs[i]? with
   |some y=>if y.pure=true/\k+n*es<=y.cells.length/\n<=1048576/\y.isAgg=true then some (.list true false ((List.range n).map fun j=>qO y.cells (k+j*es) es))else none
   |none=>none
  |none=>none
 | .sc v=>some (.sc v)
 | .list l f xs=>some (.list l f xs)
 | .iptr l xs i k=>some (.iptr l xs i k)
 | .dead=>some .dead
 |_=>none
def lJ (o:aF):List AV->Option (List AV)
 | []=>some []
 |a::r=>match jB o a with
  |some b=>match lJ o r with
   |some bs=>some (b::bs)
   |none=>none
  |none=>none
def mD (o:aF):AV->Option AV
 | .agg cs=>(lJ o cs).map .agg
 | .clo g cs=>(lJ o cs).map (.clo g)
 |a=>jB o a
def lK (o:aF):List AV->Option (List AV)
 | []=>some []
 |a::r=>match mD o a with
  |some b=>match lK o r with
   |some bs=>some (b::bs)
   |none=>none
  |none=>none
def mE (F:Bool->aZ) (w:World):Bool->aZ:=fun l b k=>if l=true then w.cell? ⟨b,k,none⟩else F false b k
theorem aFw {C F μ o w} (h:SW C F μ o w):Fok (mE F w) w:=
 ⟨fun l b k v hv=>by
  cases l
  ·exact h.facts false b k v hv
  ·exact hv,fun b k v hv=>h.facts false b k v hv⟩
theorem aFx {C F μ o w} (h:SW C F μ o w):FLe F (mE F w):=fun l b k v hv=>by
 cases l
 ·exact hv
 ·exact h.facts true b k v hv
theorem aFy: ∀{cs:List AV} {y:AV},AV.pureL cs=true->y∈cs->y.pure=true
 | [],_,_,h=>by simp at h
 |c::cs,y,h,hy=>by
  simp[AV.pureL]at h
  rcases List.mem_cons.1 hy with rfl|hy
  ·exact h.1
  ·exact aFy h.2 hy
theorem aQt {cs:List AV} {off es:Nat} (h:off+es<=cs.length) (hc: ∀a∈cs,a.isAgg=false):(qO cs off es).cells=(cs.drop off).take es:=by
 unfold qO
 split
 ·rename_i h1
  subst h1
  have hlt:off<cs.length:=by omega
  rw[List.getD_eq_getElem?_getD,List.getElem?_eq_getElem hlt,Option.getD_some,H5 (hc _ (List.getElem_mem hlt))]
  rw[List.drop_eq_getElem_cons hlt];rfl
 ·rfl
theorem aFz {C F μ} {o:aF} {w:World} (h:SW C F μ o w) {a b:AV} (he:jB o a=some b) {v:Value} (hv:RV F (aE o μ) a v):RV (mE F w) bU b v:=by
 unfold jB at he
 split at he
 ·rename_i L lo n
  split at he
  ·rename_i x hg
   split at he
   ·rename_i ha
    obtain rfl:=Option.some.inj he
    refine RV.row (G:=mE F w) hg (h.obj L x hg) ha hv (fun l b k u hu=>hu) (fun b cap hm i y j a u hy hj hu=>?_) bU
    cases hz:x.fz with
    |false=>exact hu
    |true=>
     have ho:=h.obj L x hg
     rw[hm]at ho
     obtain⟨c,e,q1,q2,q3,q4,q5,q6,q7⟩:=ho.std (V2 hv hg)
     obtain⟨u',g1,g2,g3,g4⟩:=q6 i y j a hy hj
     have:u'=u:=by simp[World.cell?,q1,g1]at hu;exact hu
     subst this
     exact g4 hz
   ·cases he
  ·cases he
 ·rename_i L i k
  split at he
  ·rename_i x hg
   split at he
   ·rename_i hc
    obtain rfl:=Option.some.inj he
    have hloc:aE o μ L=some (bV x (μ L)):=by simp[aE,hg]
    cases hv with
    | @ptr _ _ _ _ _ b cap es len g1 g2=>
     rw[hloc]at g1
     obtain⟨hm,rfl,rfl,hk1⟩:=fB (Option.some.inj g1)
     have ho:=h.obj L x hg
     rw[hm]at ho
     have hcell: ∀(i:Nat) (y:AV) (j:Nat) (a:AV),x.xs[i]?=some y->y.cells[j]?=some a-> ∃u,w.cell? ⟨b,i*x.es+j,none⟩=some u/\one u=true/\RV (sh F) bU a u:=by
      intro i y j a hy hj
      obtain⟨u,r1,r2,r3⟩:=ObjAt.cell ho hk1 hy hj
      refine⟨u,r1,r2,?_⟩
      cases harr:x.arr with
      |true=>rw[harr]at r3;exact r3
      |false=>
       rw[harr]at r3
       have hp:AV.pureL x.xs=true:=hc.resolve_left fun hc=>by rw[harr]at hc;cases hc
       exact RV.shared r3 (aFi (aFy hp (List.mem_of_getElem? hy)) hj)
     obtain⟨c,e,q1,q2,q3,q4,q5,q6,q7⟩:=ho.std hk1
     have key:= @RV.iptr (mE F w) bU true x.xs b 0 x.es i k (fun i j=>(w.cell? ⟨b,i*x.es+j,none⟩).getD .nilIface) q5 g2
      (fun i y j a hy hj=>by
       obtain⟨u,r1,r2,r3⟩:=hcell i y j a hy hj
       rw[Nat.zero_add]
       show w.cell? _=_
       rw[r1];rfl)
      (fun i y j a hy hj=>by
       obtain⟨u,r1,r2,r3⟩:=hcell i y j a hy hj
       simp only[r1,Option.getD_some];exact r3)
      (fun i y j a hy hj=>by
       obtain⟨u,r1,r2,r3⟩:=hcell i y j a hy hj
       simp only[r1,Option.getD_some];exact r2)
     rw[Nat.zero_add]at key
     exact key
   ·cases he
  ·cases he
 ·rename_i L i k es n
  split at he
  ·rename_i x hg
   split at he
   ·rename_i y hy
    split at he
    ·rename_i hc
     obtain⟨hp,hle,hn,hag⟩:=hc
     obtain rfl:=Option.some.inj he
     have hloc:aE o μ L=some (bV x (μ L)):=by simp[aE,hg]
     cases hv with
     | @aref _ _ _ _ _ b cap es' len e _ off c g1 g2 g3 g4=>
      rw[hloc]at g1
      obtain⟨hm,rfl,rfl,hk1⟩:=fB (Option.some.inj g1)
      have ho:=h.obj L x hg
      rw[hm]at ho
      have hcell: ∀(j:Nat) (a:AV),y.cells[j]?=some a-> ∃u,w.cell? ⟨b,i*x.es+j,none⟩=some u/\one u=true/\RV (sh F) bU a u:=by
       intro j a hj
       obtain⟨u,r1,r2,r3⟩:=ObjAt.cell ho hk1 hy hj
       refine⟨u,r1,r2,?_⟩
       cases harr:x.arr with
       |true=>rw[harr]at r3;exact r3
       |false=>rw[harr]at r3;exact RV.shared r3 (aFi hp hj)
      have hna: ∀a∈y.cells,a.isAgg=false:=by
       intro a ha
       obtain⟨j,hj⟩:=List.getElem?_of_mem ha
       obtain⟨u,r1,r2,r3⟩:=hcell j a hj
       cases a with
       |agg cs=>cases r3;simp[Value.oneCell']at r2
       |_=>rfl
      have hch: ∀j,j<n->(qO y.cells (k+j*es) es).cells=(y.cells.drop (k+j*es)).take es:=fun j hj=>by
       refine aQt ?_ hna
       have:(j+1)*es<=n*es:=Nat.mul_le_mul_right _ hj
       rw[Nat.add_mul]at this;omega
      have hel: ∀(q:Nat) (z:AV) (j:Nat) (a:AV),((List.range n).map fun j=>qO y.cells (k+j*es) es)[q]?=some z->z.cells[j]?=some a->y.cells[k+(q*es+j)]?=some a/\q<n:=by
       intro q z j a hz hj
       obtain⟨hq,rfl⟩:=oH hz
       rw[hch q hq,List.getElem?_take]at hj
       split at hj
       ·rw[List.getElem?_drop]at hj
        exact⟨by rw[<-Nat.add_assoc];exact hj,hq⟩
       ·cases hj
      have hlen:((List.range n).map fun j=>qO y.cells (k+j*es) es).length=n:=by simp
      have key:= @RV.list (mE F w) bU true false ((List.range n).map fun j=>qO y.cells (k+j*es) es) b (i*x.es+k) off c es (fun q j=>(w.cell? ⟨b,i*x.es+k+q*es+j,none⟩).getD .nilIface)
       (fun z hz=>by
        obtain⟨q,hq,rfl⟩:=List.mem_map.1 hz
        have hq':q<n:=by simpa using hq
        rw[hch q hq',List.length_take,List.length_drop]
        have:(q+1)*es<=n*es:=Nat.mul_le_mul_right _ hq'
        rw[Nat.add_mul]at this;omega)
       (by rw[hlen];exact g3) (by rw[hlen];unfold dD;omega) (fun hf=>by cases hf) (fun hne=>g4 (by rintro rfl;simp at hne))
       (fun q z j a hz hj=>by
        obtain⟨hj',hq⟩:=hel q z j a hz hj
        obtain⟨u,r1,r2,r3⟩:=hcell _ a hj'
        show w.cell? _=_
        rw[show i*x.es+k+q*es+j=i*x.es+(k+(q*es+j)) by omega,r1];rfl)
       (fun q z j a hz hj=>by
        obtain⟨hj',hq⟩:=hel q z j a hz hj
        obtain⟨u,r1,r2,r3⟩:=hcell _ a hj'
        show RV (sh (mE F w)) bU a ((w.cell? ⟨b,i*x.es+k+q*es+j,none⟩).getD .nilIface)
        rw[show i*x.es+k+q*es+j=i*x.es+(k+(q*es+j)) by omega,r1];exact r3)
       (fun q z j a hz hj=>by
        obtain⟨hj',hq⟩:=hel q z j a hz hj
        obtain⟨u,r1,r2,r3⟩:=hcell _ a hj'
        show one ((w.cell? ⟨b,i*x.es+k+q*es+j,none⟩).getD .nilIface)=true
        rw[show i*x.es+k+q*es+j=i*x.es+(k+(q*es+j)) by omega,r1];exact r2)
      rw[hlen]at key
      exact key
    ·cases he
   ·cases he
  ·cases he
 ·obtain rfl:=Option.some.inj he;cases hv;constructor;assumption
 ·obtain rfl:=Option.some.inj he;exact hv.congr (aFx h) (fun L hL=>by simp[AV.has]at hL)
 ·obtain rfl:=Option.some.inj he;exact hv.congr (aFx h) (fun L hL=>by simp[AV.has]at hL)
 ·obtain rfl:=Option.some.inj he;exact .dead
 ·cases he
theorem V7 {C F μ} {o:aF} {w:World} (h:SW C F μ o w): ∀{cs ds:List AV},lJ o cs=some ds->ds.length=cs.length/\ ∀(i:Nat) (a b:AV),cs[i]?=some a->ds[i]?=some b-> ∀v,RV F (aE o μ) a v->RV (mE F w) bU b v
 | [],ds,he=>by simp[lJ]at he;subst he;exact⟨rfl,fun i a b ha=>by simp at ha⟩
 |c::cs,ds,he=>by
  simp only[lJ]at he
  split at he
  ·rename_i b h1
   split at he
   ·rename_i bs h2
    obtain rfl:=Option.some.inj he
    obtain⟨g1,g2⟩:=V7 h h2
    refine⟨by simp[g1],fun i x y hx hy v hv=>?_⟩
    cases i with
    |zero=>simp at hx hy;subst hx;subst hy;exact aFz h h1 hv
    |succ i=>simp at hx hy;exact g2 i x y hx hy v hv
   ·cases he
  ·cases he
theorem aQu {C F μ} {o:aF} {w:World} (h:SW C F μ o w) {a b:AV} (he:mD o a=some b) {v:Value} (hv:RV F (aE o μ) a v):RV (mE F w) bU b v:=by
 unfold mD at he
 split at he
 ·rename_i cs
  cases hl:lJ o cs with
  |none=>simp[hl]at he
  |some ds=>
   simp[hl]at he
   subst he
   obtain⟨g1,g2⟩:=V7 h hl
   cases hv with
   |agg h1 h2 h3=>
    refine .agg (by omega) (fun i b u hb hu=>?_) h3
    have hi:i<cs.length:=by rw[<-g1];exact(List.getElem?_eq_some_iff.1 hb).1
    exact g2 i cs[i] b (by simp[hi]) hb u (h2 i cs[i] u (by simp[hi]) hu)
 ·rename_i g cs
  cases hl:lJ o cs with
  |none=>simp[hl]at he
  |some ds=>
   simp[hl]at he
   subst he
   obtain⟨g1,g2⟩:=V7 h hl
   cases hv with
   |clo h1 h2=>
    refine .clo (by omega) (fun i b u hb hu=>?_)
    have hi:i<cs.length:=by rw[<-g1];exact(List.getElem?_eq_some_iff.1 hb).1
    exact g2 i cs[i] b (by simp[hi]) hb u (h2 i cs[i] u (by simp[hi]) hu)
 ·exact aFz h he hv
theorem V8 {C F μ} {o:aF} {w:World} (h:SW C F μ o w): ∀{cs ds:List AV},lK o cs=some ds->ds.length=cs.length/\ ∀(i:Nat) (a b:AV),cs[i]?=some a->ds[i]?=some b-> ∀v,RV F (aE o μ) a v->RV (mE F w) bU b v
 | [],ds,he=>by simp[lK]at he;subst he;exact⟨rfl,fun i a b ha=>by simp at ha⟩
 |c::cs,ds,he=>by
  simp only[lK]at he
  split at he
  ·rename_i b h1
   split at he
   ·rename_i bs h2
    obtain rfl:=Option.some.inj he
    obtain⟨g1,g2⟩:=V8 h h2
    refine⟨by simp[g1],fun i x y hx hy v hv=>?_⟩
    cases i with
    |zero=>simp at hx hy;subst hx;subst hy;exact aQu h h1 hv
    |succ i=>simp at hx hy;exact g2 i x y hx hy v hv
   ·cases he
  ·cases he
end Go.Ab
namespace Go.Ab
open Go.RowKit
def ASt.adopt (s:ASt) (T:Nat) (x:AObj):ASt:=s.renew0 T T x
def eO (n d:Nat):Nat->ASt->List AV->ASt×List AV
 |_,s,[]=>(s,[])
 |i,s,.own es xs::rs=>((eO n d (i+1) (s.adopt (n*(i+1)+d) (dF es xs)) rs).1,.ref (n*(i+1)+d) 0 xs.length::(eO n d (i+1) (s.adopt (n*(i+1)+d) (dF es xs)) rs).2)
 |i,s,r::rs=>((eO n d (i+1) s rs).1,r::(eO n d (i+1) s rs).2)
def qP (s:ASt) (d:Nat):AV->ASt
 | .own es xs=>s.renew d d d (dF es xs) (.ref d 0 xs.length)
 | .tup rs=>(eO s.n d 0 s rs).1.put d (.tup (eO s.n d 0 s rs).2)
 |r=>s.put d r
def jZ (F F':Bool->aZ):Bool->aZ:=fun l b k=>if l=true then(F' false b k).or (F true b k)else F' false b k
theorem SR.back {C F μ} {s:ASt} {a:Act} {w w':World} (h:SR C F μ s a w) {F':Bool->aZ} (hp:APost (mE F w) w F' w'):FLe F (jZ F F')/\SR C (jZ F F') μ s a w':=by
 have hFF: ∀b k v,F false b k=some v->F' false b k=some v:=fun b k v hv=>hp.le false b k v hv
 have hle:FLe F (jZ F F'):=by
  intro l b k v hv
  cases l
  ·exact hFF b k v hv
  ·show(F' false b k).or (F true b k)=some v
   cases hf:F' false b k with
   |none=>exact hv
   |some u=>
    have h1:=hp.ok.facts false b k u hf
    have h2:w'.cell? ⟨b,k,none⟩=some v:=by
     have hw:=h.sw.facts true b k v hv
     have:=hp.le true b k v hw
     exact hp.ok.facts true b k v this
    rw[h1]at h2
    simpa using h2
 have hblk: ∀k,k<w.heap.size->w'.heap[k]?=w.heap[k]?:=fun k hk=>hp.fr.block k hk (fun hh=>hh)
 have hsw:=h.sw
 have hnew: ∀l b k v,jZ F F' l b k=some v->F l b k=some v\/F' false b k=some v:=by
  intro l b k v hv
  cases l
  ·exact .inr hv
  ·have hv':(F' false b k).or (F true b k)=some v:=hv
   cases hf:F' false b k with
   |none=>rw[hf]at hv';exact .inl hv'
   |some u=>rw[hf]at hv';exact .inr hv'
 have hob: ∀L y b cc,lk s.o L=some y->μ L=some (b,cc)->b<w.heap.size:=fun L y b cc hy hm=>by
  have:=hsw.obj L y hy
  rw[hm]at this
  obtain⟨_,g⟩:=ObjAt.lt this
  exact gJ g
 refine⟨hle,⟨?_,?_,?_,hsw.grow.trans hle,?_,?_,?_,hsw.dist,?_,hsw.mine,hsw.keep⟩,h.defers,h.n,fun i x hx=>(h.slot i x hx).mono hle⟩
 ·intro l b k v hv
  rcases hnew l b k v hv with hv|hv
  ·have hw:=hsw.facts l b k v hv
   rw[qG (hblk b (pI hw))];exact hw
  ·exact hp.ok.facts false b k v hv
 ·intro b k v hv
  show(F' false b k).or (F true b k)=some v
  have hv':F' false b k=some v:=hv
  rw[hv'];rfl
 ·intro b k v hv
  rcases hnew true b k v hv with hv|hv
  ·rcases hsw.lentc b k v hv with hh|hh
   ·exact .inl hh
   ·exact .inr (hFF b k v hh)
  ·exact .inr hv
 ·intro b k v hv
  rcases hp.newf b k v hv with hh|hh
  ·exact hsw.newf b k v hh
  ·exact .inr (.inl (Nat.le_trans hsw.fr.size hh))
 ·exact hsw.fr.trans hp.fr (fun _ _ hh=>hh.elim)
 ·intro L y hy
  have ho:=hsw.obj L y hy
  cases hm:μ L with
  |none=>rw[hm]at ho;exact ho
  |some p=>
   obtain⟨b,cc⟩:=p
   rw[hm]at ho
   exact ho.congr (hblk b (hob L y b cc hy hm)) hle fun _ _=>rfl
 ·intro L y b cc hy hm hz l k
  have hF:=hsw.excl L y b cc hy hm hz
  cases hb:jZ F F' l b k with
  |none=>rfl
  |some v=>
   rcases hnew l b k v hb with hv|hv
   ·rw[hF]at hv;cases hv
   ·rcases hp.newf b k v hv with hh|hh
    ·have:F false b k=some v:=hh
     rw[hF]at this;cases this
    ·have:=hob L y b cc hy hm;omega
theorem V9 (n d:Nat): ∀(rs:List AV) (i:Nat) (s:ASt),(eO n d i s rs).1.n=s.n/\(eO n d i s rs).2.length=rs.length
 | [],i,s=>⟨rfl,rfl⟩
 |r::rs,i,s=>by
  cases r with
  |own es xs=>
   simp only[eO]
   obtain⟨h1,h2⟩:=V9 n d rs (i+1) (s.adopt (n*(i+1)+d) (dF es xs))
   exact⟨h1,by simp[h2]⟩
  |_=>
   simp only[eO]
   obtain⟨h1,h2⟩:=V9 n d rs (i+1) s
   exact⟨h1,by simp[h2]⟩
theorem W0 (s:ASt) (T:Nat) (x:AObj) (μ:Pl) (p):aE (s.adopt T x).o (bJ μ T p) T=some (bV x (p)):=by simp[aE,ASt.adopt,ASt.renew0,lk,bJ]
theorem aQv (s:ASt) {T L:Nat} (x:AObj) (μ:Pl) (p) (h:L≠T):aE (s.adopt T x).o (bJ μ T p) L=aE s.o μ L:=by
 simp only[aE,ASt.adopt,ASt.renew0,lk,rX,qN,if_neg (Ne.symm h),bJ,if_neg h,Option.map_map]
 congr 1
 funext y
 exact(rW T (dO T y) _).trans (rW T y _)
theorem SR.adopt {C F μ} {s:ASt} {a:Act} {w:World} (h:SR C F μ s a w) {base es:Nat} {xs:List AV} {u:Value} {p:Option (Nat×Nat)} (h0:OwnR F w base es xs u p) (hb:C.w0.heap.size<=base) (T:Nat)
 (hf: ∀b c,p=some (b,c)-> ∀L y c',lk s.o L=some y->μ L=some (b,c')->False):SR C F (bJ μ T p) (s.adopt T (dF es xs)) a w:=by
 refine h.renew0 rfl rfl rfl (Fr.refl _ _) ?_ fun b c hbc=>?_
 ·cases p with
  |none=>exact h0.1
  |some q=>exact h0.2.1
 ·subst hbc
  exact .inl ⟨Nat.le_trans hb h0.2.2.1,h0.2.2.2,fun L y c' hy hm=>hf b c rfl L y c' hy hm⟩
theorem OwnR.ref {F w base es xs u p} (h0:OwnR F w base es xs u p) {loc:Nat->Option LI} {T:Nat} (hl:loc T=some ⟨p,es,xs.length,false⟩):RV F loc (.ref T 0 xs.length) u:=by
 cases p with
 |none=>
  obtain⟨rfl,q,rfl⟩:=h0
  exact .refNil hl
 |some q=>
  obtain⟨b,cap⟩:=q
  obtain⟨rfl,ho,_⟩:=h0
  have hle:xs.length<=cap:=by obtain⟨c,e,q1,q2,q3,q4⟩:=ho.std (by simp[dF]);exact q3
  exact .ref (o:=0) (c:=cap) hl (by omega) hle (fun _=>by simp) (fun _=>rfl)
theorem aF0 {s:ASt} {T:Nat} {x:AObj} {L:Nat} {y:AObj} (h:lk (s.adopt T x).o L=some y):L=T\/ ∃z,lk s.o L=some z:=by
 simp only[ASt.adopt,ASt.renew0,lk,rX,qN]at h
 by_cases hT:T=L
 ·exact .inl hT.symm
 ·rw[if_neg hT,if_neg hT]at h
  simp only[Option.map_map,Option.map_eq_some_iff]at h
  obtain⟨z,hz,_⟩:=h
  exact .inr ⟨z,hz⟩
def oJ:AV->Bool
 | .own _ _=>true
 |_=>false
theorem aQw {n d i:Nat} {s:ASt} {r:AV} {rs:List AV} (h:oJ r=false):eO n d i s (r::rs)=((eO n d (i+1) s rs).1,r::(eO n d (i+1) s rs).2):=by
 cases r<;>first|rfl|(simp[oJ]at h)
theorem zM {F w base p u} {r:AV} (h:oJ r=false) (hr:ResV1 F w base p u r):r.pure=true/\RV F bU r u:=by
 cases r<;>first|exact hr|(simp[oJ]at h)
theorem W1 {C F} {a:Act} {w:World} {base n d:Nat} (hd:d<n) {ps:Nat->Option (Nat×Nat)} (hdist: ∀i j b c c',ps i=some (b,c)->ps j=some (b,c')->i=j):
 ∀(rs:List AV) (us:List Value) (i:Nat) (s:ASt) (μ:Pl),SR C F μ s a w->s.n=n->
  (∀L y b c,lk s.o L=some y->μ L=some (b,c)->b<base\/ ∃j c',j<i/\ps j=some (b,c'))->C.w0.heap.size<=base->
  rs.length=us.length->(∀(k:Nat) (r:AV) (u:Value),rs[k]?=some r->us[k]?=some u->ResV1 F w base (ps (i+k)) u r)->
  ∃μ',SR C F μ' (eO n d i s rs).1 a w/\(∀(k:Nat) (x:AV) (u:Value),(eO n d i s rs).2[k]?=some x->us[k]?=some u->RV F (aE (eO n d i s rs).1.o μ') x u)/\
   ∀L,(∀j,i<=j->L≠n*(j+1)+d)->aE (eO n d i s rs).1.o μ' L=aE s.o μ L
 | [],us,i,s,μ,h,hn,hob,hb,hl,hr=>⟨μ,h,fun k x u hx=>by simp[eO]at hx,fun L _=>rfl⟩
 |r::rs,[],i,s,μ,h,hn,hob,hb,hl,hr=>by simp at hl
 |r::rs,u::us,i,s,μ,h,hn,hob,hb,hl,hr=>by
  have h0:=hr 0 r u rfl rfl
  rw[Nat.add_zero]at h0
  have hr': ∀(k:Nat) (r:AV) (u:Value),rs[k]?=some r->us[k]?=some u->ResV1 F w base (ps (i+1+k)) u r:=fun k r' u' hk hu=>by
   have:=hr (k+1) r' u' (by simpa using hk) (by simpa using hu)
   rw[show i+(k+1)=i+1+k by omega]at this
   exact this
  cases hown:oJ r with
  |true=>
   cases r with
   |own es xs=>
    have h0':OwnR F w base es xs u (ps i):=h0
    have hadopt:=h.adopt h0' hb (n*(i+1)+d) (fun b c hbc L y c' hy hm=>by
     have hq:OwnR F w base es xs u (some (b,c)):=hbc▸h0'
     rcases hob L y b c' hy hm with hh|⟨j,c2,hj,hp⟩
     ·have:=hq.2.2.1;omega
     ·have:=hdist i j b c c2 hbc hp;omega)
    obtain⟨μ',k1,k2,k3⟩:=W1 hd hdist rs us (i+1) (s.adopt (n*(i+1)+d) (dF es xs)) (bJ μ (n*(i+1)+d) (ps i)) hadopt hn (fun L y b c hy hm=>by
     simp only[bJ]at hm
     by_cases hT:L=n*(i+1)+d
     ·rw[if_pos hT]at hm
      exact .inr ⟨i,c,by omega,hm⟩
     ·rw[if_neg hT]at hm
      rcases aF0 hy with hh|⟨z,hz⟩
      ·exact(hT hh).elim
      ·rcases hob L z b c hz hm with hh|⟨j,c',hj,hp⟩
       ·exact .inl hh
       ·exact .inr ⟨j,c',by omega,hp⟩) hb (by simpa using hl) hr'
    have hTj: ∀j,i+1<=j->n*(i+1)+d≠n*(j+1)+d:=fun j hj he=>by
     have:n*(i+1)<n*(j+1):=Nat.mul_lt_mul_of_pos_left (by omega) (by omega)
     omega
    refine⟨μ',k1,fun k x v hx hv=>?_,fun L hL=>?_⟩
    ·cases k with
     |zero=>
      simp only[eO,List.getElem?_cons_zero]at hx hv
      obtain rfl:=Option.some.inj hx
      obtain rfl:=Option.some.inj hv
      exact h0'.ref (by
       show aE (eO n d (i+1) (s.adopt (n*(i+1)+d) (dF es xs)) rs).1.o μ' _=_
       rw[k3 _ hTj,W0];rfl)
     |succ k=>
      simp only[eO,List.getElem?_cons_succ]at hx hv
      exact k2 k x v hx hv
    ·show aE (eO n d (i+1) (s.adopt (n*(i+1)+d) (dF es xs)) rs).1.o μ' L=_
     rw[k3 L (fun j hj=>hL j (by omega)),aQv _ _ _ _ (hL i (Nat.le_refl _))]
   |_=>simp[oJ]at hown
  |false=>
   obtain⟨hp,hv0⟩:=zM hown h0
   rw[aQw hown]
   obtain⟨μ',k1,k2,k3⟩:=W1 hd hdist rs us (i+1) s μ h hn (fun L y b c hy hm=>by
    rcases hob L y b c hy hm with hh|⟨j,c',hj,hp⟩
    ·exact .inl hh
    ·exact .inr ⟨j,c',by omega,hp⟩) hb (by simpa using hl) hr'
   refine⟨μ',k1,fun k x v hx hv=>?_,fun L hL=>k3 L (fun j hj=>hL j (by omega))⟩
   cases k with
   |zero=>
    simp only[List.getElem?_cons_zero]at hx hv
    obtain rfl:=Option.some.inj hx
    obtain rfl:=Option.some.inj hv
    exact hv0.congr (FLe.refl _) fun L hL=>(hv0.noloc_has (fun _=>rfl) L hL).elim
   |succ k=>
    simp only[List.getElem?_cons_succ]at hx hv
    exact k2 k x v hx hv
theorem aQx {C F μ} {s:ASt} {a:Act} {w w':World} (h:SR C F μ s a w) {F':Bool->aZ} {v:Value} {r:AV} (hp:APost (mE F w) w F' w') (hr:zL F' w' w.heap.size v r) {d:Nat} (hd:d<s.n):
 ∃F'' μ',SR C F'' μ' (qP s d r) (a.put (some d) v) w':=by
 obtain⟨hle,hb⟩:=h.back hp
 have hbase:C.w0.heap.size<=w.heap.size:=h.sw.fr.size
 have hsh:sh F'=sh (jZ F F'):=rfl
 have hobj: ∀L y b c,lk s.o L=some y->μ L=some (b,c)->b<w.heap.size:=fun L y b c hy hm=>by
  have:=h.sw.obj L y hy
  rw[hm]at this
  obtain⟨_,g⟩:=ObjAt.lt this
  exact gJ g
 have conv1: ∀(p:Option (Nat×Nat)) (u:Value) (r:AV),ResV1 F' w' w.heap.size p u r->ResV1 (jZ F F') w' w.heap.size p u r:=by
  intro p u r hr
  cases hown:oJ r with
  |true=>
   cases r with
   |own es xs=>
    have hr':OwnR F' w' w.heap.size es xs u p:=hr
    show OwnR (jZ F F') w' w.heap.size es xs u p
    cases p with
    |none=>exact hr'
    |some q=>
     obtain⟨b,cap⟩:=q
     obtain⟨g1,g2,g3,g4⟩:=hr'
     refine⟨g1,?_,g3,fun l k=>?_⟩
     ·obtain⟨c,e,q1,q2,q3,q4,q5,q6,q7⟩:=g2.std (by simp[dF])
      exact .inl ⟨c,e,q1,q2,q3,q4,q5,fun i y j a hy hj=>by
       obtain⟨u,r1,r2,r3,r4⟩:=q6 i y j a hy hj
       exact⟨u,r1,r2,r3,fun hz=>by simp[dF]at hz⟩,q7⟩
     ·cases hbk:jZ F F' l b k with
      |none=>rfl
      |some u=>
       have h2:=hb.sw.facts l b k u hbk
       cases l
       ·have:F' false b k=some u:=hbk
        rw[g4]at this;cases this
       ·have hbk':(F' false b k).or (F true b k)=some u:=hbk
        rw[g4]at hbk'
        have hF:F true b k=some u:=hbk'
        have:=pI (h.sw.facts true b k u hF)
        omega
   |_=>simp[oJ]at hown
  |false=>
   obtain⟨q1,q2⟩:=zM hown hr
   have q3:RV (jZ F F') bU r u:=RV.up (q2.shared q1) hb.sw.sub
   cases r<;>first|exact⟨q1,q3⟩|(simp[oJ]at hown)
 cases r with
 |own es xs=>
  obtain⟨p,hr⟩:=hr
  have h1:OwnR (jZ F F') w' w.heap.size es xs v p:=conv1 p v _ hr
  refine⟨jZ F F',bJ μ d p,?_⟩
  have hre:SR C (jZ F F') (bJ μ d p) (s.adopt d (dF es xs)) a w':=hb.adopt h1 hbase d (fun b c hbc L y c' hy hm=>by
   have hq:OwnR (jZ F F') w' w.heap.size es xs v (some (b,c)):=hbc▸h1
   have:=hobj L y b c' hy hm
   have:=hq.2.2.1;omega)
  exact hre.put (s:=s.adopt d (dF es xs)) hd (h1.ref (by rw[W0];rfl))
 |tup rs=>
  obtain⟨vs,ps,rfl,hl,hrs,hdist⟩:=hr
  obtain⟨μ',k1,k2,k3⟩:=W1 (n:=s.n) (d:=d) hd hdist rs vs.toList 0 s μ hb rfl (fun L y b c hy hm=> .inl (hobj L y b c hy hm)) hbase (by simpa using hl) (fun k r u hk hu=>by
   rw[Nat.zero_add];exact conv1 _ _ _ (hrs k r u hk (by simpa using hu)))
  obtain⟨e1,e2⟩:=V9 s.n d rs 0 s
  refine⟨jZ F F',μ',k1.put (by rw[e1];exact hd) (.tup (by rw[e2,hl]) fun i x u hx hu=>k2 i x u hx (by simpa using hu))⟩
 |_=>
  obtain⟨p,hr⟩:=hr
  obtain⟨q1,q2⟩:=zM rfl hr
  exact⟨jZ F F',μ,hb.put hd (RV.up (q2.shared q1) hb.sw.sub)⟩
end Go.Ab
namespace Go.Ab
open Go.RowKit
mutual
def AV.ren (σ:Nat->Nat):AV->AV
 | .agg cs=> .agg (AV.renL σ cs)
 | .tup cs=> .tup (AV.renL σ cs)
 | .clo f cs=> .clo f (AV.renL σ cs)
 | .ref L lo n=> .ref (σ L) lo n
 | .ptr L i o=> .ptr (σ L) i o
 | .aref L i o es n=> .aref (σ L) i o es n
 | .sc v=> .sc v
 | .list l f xs=> .list l f xs
 | .iptr l xs i o=> .iptr l xs i o
 | .own es xs=> .own es xs
 | .mp L=> .mp (σ L)
 | .yl L=> .yl (σ L)
 | .rc L lo n c=> .rc (σ L) lo n c
 | .lh h=> .lh h
 | .dead=> .dead
def AV.renL (σ:Nat->Nat):List AV->List AV
 | []=> []
 |a::r=>a.ren σ::AV.renL σ r
end
theorem tV (σ:Nat->Nat): ∀l:List AV,AV.renL σ l=l.map (AV.ren σ)
 | []=>rfl
 |a::r=>by simp[AV.renL,tV σ r]
mutual
def AV.labs (p:Nat->Bool):AV->Bool
 | .agg cs=>AV.labsL p cs
 | .tup cs=>AV.labsL p cs
 | .clo _ cs=>AV.labsL p cs
 | .ref L _ _=>p L
 | .ptr L _ _=>p L
 | .aref L _ _ _ _=>p L
 | .mp L=>p L
 | .yl L=>p L
 | .rc L _ _ _=>p L
 |_=>true
def AV.labsL (p:Nat->Bool):List AV->Bool
 | []=>true
 |a::r=>a.labs p&&AV.labsL p r
end
mutual
theorem W2 {p:Nat->Bool} {L:Nat}: ∀{a:AV},a.labs p=true->a.has L=true->p L=true
 | .agg cs,h,hh=>by simp only[AV.labs]at h;simp only[AV.has]at hh;exact rY h hh
 | .tup cs,h,hh=>by simp only[AV.labs]at h;simp only[AV.has]at hh;exact rY h hh
 | .clo g cs,h,hh=>by simp only[AV.labs]at h;simp only[AV.has]at hh;exact rY h hh
 | .ref L' _ _,h,hh=>by simp[AV.has]at hh;subst hh;simpa[AV.labs]using h
 | .ptr L' _ _,h,hh=>by simp[AV.has]at hh;subst hh;simpa[AV.labs]using h
 | .aref L' _ _ _ _,h,hh=>by simp[AV.has]at hh;subst hh;simpa[AV.labs]using h
 | .mp L',h,hh=>by simp[AV.has]at hh;subst hh;simpa[AV.labs]using h
 | .yl L',h,hh=>by simp[AV.has]at hh;subst hh;simpa[AV.labs]using h
 | .rc L' _ _ _,h,hh=>by simp[AV.has]at hh;subst hh;simpa[AV.labs]using h
 | .lh _,_,hh=>by simp[AV.has]at hh
 | .sc _,_,hh=>by simp[AV.has]at hh
 | .list _ _ _,_,hh=>by simp[AV.has]at hh
 | .iptr _ _ _ _,_,hh=>by simp[AV.has]at hh
 | .own _ _,_,hh=>by simp[AV.has]at hh
 | .dead,_,hh=>by simp[AV.has]at hh
theorem rY {p:Nat->Bool} {L:Nat}: ∀{cs:List AV},AV.labsL p cs=true->AV.hasL L cs=true->p L=true
 | [],_,hh=>by simp[AV.hasL]at hh
 |c::cs,h,hh=>by
  simp only[AV.labsL,Bool.and_eq_true]at h
  simp only[AV.hasL,Bool.or_eq_true]at hh
  rcases hh with hh|hh
  ·exact W2 h.1 hh
  ·exact rY h.2 hh
end
theorem RV.has_loc {F:Bool->aZ} {loc:Nat->Option LI} {a:AV} {v:Value} (h:RV F loc a v): ∀L,a.has L=true->loc L≠none:=by
 induction h with
 | @agg F loc cs vs hl hr ho ih=>
  intro L hL
  simp only[AV.has]at hL
  obtain⟨i,a,h1,h2⟩:=kP hL
  have hi:i<vs.size:=by rw[<-hl];exact(List.getElem?_eq_some_iff.1 h1).1
  exact ih i a vs[i] h1 (by simp[hi]) L h2
 | @tup F loc cs vs hl hr ih=>
  intro L hL
  simp only[AV.has]at hL
  obtain⟨i,a,h1,h2⟩:=kP hL
  have hi:i<vs.size:=by rw[<-hl];exact(List.getElem?_eq_some_iff.1 h1).1
  exact ih i a vs[i] h1 (by simp[hi]) L h2
 | @clo F loc g cs vs hl hr ih=>
  intro L hL
  simp only[AV.has]at hL
  obtain⟨i,a,h1,h2⟩:=kP hL
  have hi:i<vs.size:=by rw[<-hl];exact(List.getElem?_eq_some_iff.1 h1).1
  exact ih i a vs[i] h1 (by simp[hi]) L h2
 |refNil h=>intro L hL;simp[AV.has]at hL;subst hL;rw[h];simp
 |ref h=>intro L hL;simp[AV.has]at hL;subst hL;rw[h];simp
 |ptr h=>intro L hL;simp[AV.has]at hL;subst hL;rw[h];simp
 |aref h=>intro L hL;simp[AV.has]at hL;subst hL;rw[h];simp
 |mp h h'=>intro L hL;simp[AV.has]at hL;subst hL;rw[h];simp
 |yl h=>intro L hL;simp[AV.has]at hL;subst hL;rw[h];simp
 |rc h=>intro L hL;simp[AV.has]at hL;subst hL;rw[h];simp
 |_=>intro L hL;simp[AV.has]at hL
theorem RV.ren {F:Bool->aZ} {loc:Nat->Option LI} {a:AV} {v:Value} (h:RV F loc a v): ∀{loc':Nat->Option LI} {σ:Nat->Nat},(∀L,a.has L=true->loc' (σ L)=loc L)->RV F loc' (a.ren σ) v:=by
 induction h with
 |sc h=>intro loc' σ _;exact .sc h
 | @agg F loc cs vs hl hr ho ih=>
  intro loc' σ hloc
  simp only[AV.ren,tV]
  refine .agg (by simpa using hl) (fun i a v ha hv=>?_) ho
  rw[List.getElem?_map]at ha
  cases hc:cs[i]? with
  |none=>simp[hc]at ha
  |some c=>simp[hc]at ha;subst ha;exact ih i c v hc hv fun L hL=>hloc L (by simp only[AV.has];exact gI hc hL)
 | @tup F loc cs vs hl hr ih=>
  intro loc' σ hloc
  simp only[AV.ren,tV]
  refine .tup (by simpa using hl) (fun i a v ha hv=>?_)
  rw[List.getElem?_map]at ha
  cases hc:cs[i]? with
  |none=>simp[hc]at ha
  |some c=>simp[hc]at ha;subst ha;exact ih i c v hc hv fun L hL=>hloc L (by simp only[AV.has];exact gI hc hL)
 |nil=>intro loc' σ _;exact .nil
 |list h1 h2 h3 h4 h5 h6 h7 h8 ih=>intro loc' σ _;exact .list h1 h2 h3 h4 h5 h6 h7 h8
 |iptr h1 h2 h6 h7 h8 ih=>intro loc' σ _;exact .iptr h1 h2 h6 h7 h8
 |refNil h=>intro loc' σ hloc;exact .refNil ((hloc _ (by simp[AV.has])).trans h)
 |ref h h1 h2 h3 h4=>intro loc' σ hloc;exact .ref ((hloc _ (by simp[AV.has])).trans h) h1 h2 h3 h4
 |ptr h h1=>intro loc' σ hloc;exact .ptr ((hloc _ (by simp[AV.has])).trans h) h1
 |aref h h1 h2 h3=>intro loc' σ hloc;exact .aref ((hloc _ (by simp[AV.has])).trans h) h1 h2 h3
 | @clo F loc g cs vs hl hr ih=>
  intro loc' σ hloc
  simp only[AV.ren,tV]
  refine .clo (by simpa using hl) (fun i a v ha hv=>?_)
  rw[List.getElem?_map]at ha
  cases hc:cs[i]? with
  |none=>simp[hc]at ha
  |some c=>simp[hc]at ha;subst ha;exact ih i c v hc hv fun L hL=>hloc L (by simp only[AV.has];exact gI hc hL)
 |mp h h'=>intro loc' σ hloc;exact .mp ((hloc _ (by simp[AV.has])).trans h) h'
 |yl h=>intro loc' σ hloc;exact .yl ((hloc _ (by simp[AV.has])).trans h)
 |rc h h1 h2=>intro loc' σ hloc;exact .rc ((hloc _ (by simp[AV.has])).trans h) h1 h2
 |dead=>intro loc' σ _;exact .dead
theorem H9 (σ:Nat->Nat) (a:AV):(a.ren σ).cells=a.cells.map (AV.ren σ):=by
 cases a<;>simp[AV.ren,AV.cells,tV]
def dI (σ:Nat->Nat) (x:AObj):AObj:=if x.arr=true then x else{x with xs:=x.xs.map (AV.ren σ)}
def iM (σ:Nat->Nat) (q:Nat->Bool->Bool) (o:aF):aF:=o.map fun p=>(σ p.1,{dI σ p.2 with pin:=q p.1 p.2.pin})
def W3 (σ:Nat->Nat) (t:List (Nat×AV)):List (Nat×AV):=t.map fun p=>(p.1,p.2.ren σ)
theorem I0 (σ x):(dI σ x).arr=x.arr:=by unfold dI;split<;>rfl
theorem I1 (σ x):(dI σ x).fz=x.fz:=by unfold dI;split<;>rfl
theorem aF1 {x y:AObj} (h:bV x none=bV y none) (p:Option (Nat×Nat)):bV x p=bV y p:=by
 unfold bV at*
 split at h<;>split at h<;>simp_all
theorem xE (σ:Nat->Nat) (x:AObj) (b:Bool) (p:Option (Nat×Nat)):bV {dI σ x with pin:=b} p=bV x p:=
 nE (by unfold dI;split<;>rfl) (by unfold dI;split<;>simp) (by unfold dI;split<;>rfl) p
theorem W4 (σ x):(dI σ x).xs.length=x.xs.length:=by unfold dI;split<;>simp
section
variable {σ τ : Nat -> Nat} {q : Nat -> Bool -> Bool}
theorem vF: ∀{o:aF} {M:Nat} {y:AObj},(∀p∈o,τ (σ p.1)=p.1)->lk (iM σ q o) M=some y-> ∃x,M=σ (τ M)/\lk o (τ M)=some x/\y= {dI σ x with pin:=q (τ M) x.pin}
 | [],M,y,_,h=>by simp[iM,lk]at h
 |(k,x)::o,M,y,hk,h=>by
  simp only[iM,List.map_cons,lk]at h
  by_cases hM:σ k=M
  ·rw[if_pos hM]at h
   have h1:τ M=k:=by rw[<-hM];exact hk (k,x) (by simp)
   exact⟨x,by rw[h1];exact hM.symm,by rw[h1];simp[lk],by rw[h1];exact(Option.some.inj h).symm⟩
  ·rw[if_neg hM]at h
   obtain⟨x',g1,g2,g3⟩:=vF (o:=o) (fun p hp=>hk p (by simp[hp])) h
   refine⟨x',g1,?_,g3⟩
   simp only[lk]
   rw[if_neg (fun e=>hM (by rw[e];exact g1.symm))]
   exact g2
theorem I2: ∀{o:aF} {L:Nat} {x:AObj},(∀p∈o,τ (σ p.1)=p.1)->lk o L=some x->lk (iM σ q o) (σ L)=some {dI σ x with pin:=q L x.pin}/\τ (σ L)=L
 | [],L,x,_,h=>by simp[lk]at h
 |(k,x')::o,L,x,hk,h=>by
  simp only[iM,List.map_cons,lk]
  simp only[lk]at h
  by_cases hL:k=L
  ·subst hL
   rw[if_pos rfl]at h
   obtain rfl:=Option.some.inj h
   exact⟨by simp,hk (k,x') (by simp)⟩
  ·rw[if_neg hL]at h
   obtain⟨g1,g2⟩:=I2 (o:=o) (fun p hp=>hk p (by simp[hp])) h
   refine⟨?_,g2⟩
   rw[if_neg (fun e=>hL (by have:=hk (k,x') (by simp);simp only at this;rw[e,g2]at this;exact this.symm))]
   exact g1
theorem W5 {o:aF} {μ μ':Pl} (hk: ∀p∈o,τ (σ p.1)=p.1) (hμ: ∀L x,lk o L=some x->μ' (σ L)=μ L) {L:Nat} (hL:aE o μ L≠none):aE (iM σ q o) μ' (σ L)=aE o μ L:=by
 unfold aE at hL ⊢
 cases hx:lk o L with
 |none=>simp[hx]at hL
 |some x=>
  obtain⟨g1,g2⟩:=I2 (q:=q) hk hx
  rw[g1]
  simp only[Option.map_some,xE,hμ L x hx]
theorem OddOf.unren {σ:Nat->Nat} {F F':Bool->aZ} {loc loc':Nat->Option LI} {n:Nat} {r:Obj} {xs:List AV} (h:OddOf F loc n r (xs.map (AV.ren σ))) (hf: ∀a v,(∀L,a.has L=true->AV.hasL L xs=true)->RV F loc (a.ren σ) v->RV F' loc' a v):OddOf F' loc' n r xs:=by
 unfold OddOf at h ⊢
 split at h
 ·obtain⟨h1,h2,h3,h4⟩:=h
  refine⟨by simpa using h1,by simpa using h2,h3,fun i e y he hy=>?_⟩
  obtain⟨v,g1,g2,g3⟩:=h4 i e (y.ren σ) he (by rw[List.getElem?_map,hy];rfl)
  cases y<;>simp only[AV.ren]at g1<;>try cases g1
  rename_i cs
  rw[tV,AV.tup.injEq]at g1
  rcases cs with _|⟨a,_|⟨b,_|⟨c,cs⟩⟩⟩<;>simp only[List.map_cons,List.map_nil,List.cons.injEq,and_true,reduceCtorEq,and_false]at g1
  obtain⟨ga,rfl⟩:=g1
  have ha:a= .sc e.key:=by cases a<;>simp[AV.ren]at ga;rw[ga]
  subst ha
  refine⟨b,rfl,hf b _ (fun L hL=>gI hy (by simp[AV.has,AV.hasL,hL])) g2,g3⟩
 ·obtain⟨k,ts,e0,e1,e2⟩:=h
  cases xs with
  |nil=>cases e0
  |cons x0 xr=>
   rw[List.map_cons,List.cons.injEq]at e0
   obtain⟨g1,g2⟩:=e0
   obtain rfl:x0= .lh k:=by
    cases x0<;>simp[AV.ren]at g1
    rw[g1]
   exact⟨k,xr,rfl,e1,fun i a hi=>hf a _ (fun M hM=>gI (i:=i+1) (by simpa using hi) hM) (e2 i (a.ren σ) (by rw[<-g2,List.getElem?_map,hi];rfl))⟩
 ·obtain⟨e1,a,ts,e0,e2,e3,e4⟩:=h
  cases xs with
  |nil=>cases e0
  |cons x0 xr=>
   rw[List.map_cons,List.cons.injEq]at e0
   obtain⟨rfl,rfl⟩:=e0
   exact⟨e1,x0,xr,rfl,hf x0 _ (fun M hM=>gI (i:=0) rfl hM) e2,by simpa using e3,fun i c n hc hn=>hf c _ (fun M hM=>gI (i:=i+1) (by simpa using hc) hM) (e4 i (c.ren σ) n (by rw[List.getElem?_map,hc];rfl) hn)⟩
 ·exact h.elim
theorem I3 {F:Bool->aZ} {loc loc':Nat->Option LI} {w:World} {x:AObj} {p:Option (Nat×Nat)} {b:Bool} (h:lF F loc w x p) (hl: ∀L,loc L≠none->loc' (σ L)=loc L):lF F loc' w {dI σ x with pin:=b} p:=by
 cases p with
 |none=>
  show(dI σ x).xs= []
  have h':x.xs= []:=h
  unfold dI
  split<;>simp[h']
 |some p=>
  obtain⟨bl,cap⟩:=p
  rcases h with⟨c,e,h1,h2,h3,h4,h5,h6,h7⟩|hmap|⟨k1,k2,r,k4,k5⟩
  rotate_left
  ·have hx:dI σ x=x:=by simp[dI,hmap.2.1]
   rw[hx]
   exact .inr (.inl hmap)
  ·have hx:dI σ x= {x with xs:=x.xs.map (AV.ren σ)}:=by simp[dI,k2]
   rw[hx]
   exact .inr (.inr ⟨k1,k2,r,k4,k5.map (g:=AV.ren σ) (fun _=>by simp[AV.ren]) (fun _ _=>by simp[AV.ren,AV.renL]) (fun a v _ hv=>hv.ren fun L hL=>hl L (hv.has_loc L hL)) fun _ a v _ hv=>hv.ren fun L hL=>hl L (hv.has_loc L hL)⟩)
  cases harr:x.arr with
  |true=>
   have hx:dI σ x=x:=by simp[dI,harr]
   rw[hx]
   refine .inl ⟨c,e,h1,h2,h3,h4,h5,fun i y j a hy ha=>?_,h7⟩
   obtain⟨v,g1,g2,g3,g4⟩:=h6 i y j a hy ha
   refine⟨v,g1,g2,?_,g4⟩
   show RV (oF x.arr F) (oL x.arr loc') a v
   rw[harr]at g3 ⊢;exact g3
  |false=>
   have hx:dI σ x= {x with xs:=x.xs.map (AV.ren σ)}:=by simp[dI,harr]
   rw[hx]
   refine .inl ⟨c,e,h1,h2,by simpa using h3,by simpa using h4,fun y hy=>?_,fun i y j a hy ha=>?_,h7⟩
   ·obtain⟨z,hz,rfl⟩:=List.mem_map.1 hy
    rw[H9];simpa using h5 z hz
   ·simp only[List.getElem?_map]at hy
    cases hz:x.xs[i]? with
    |none=>simp[hz]at hy
    |some z=>
     simp[hz]at hy
     subst hy
     rw[H9,List.getElem?_map]at ha
     cases hb:z.cells[j]? with
     |none=>simp[hb]at ha
     |some a0=>
      simp[hb]at ha
      subst ha
      obtain⟨v,g1,g2,g3,g4⟩:=h6 i z j a0 hz hb
      refine⟨v,g1,g2,?_,g4⟩
      show RV (oF x.arr F) (oL x.arr loc') _ v
      rw[harr]at g3 ⊢
      exact g3.ren fun L hL=>hl L (g3.has_loc L hL)
end
def vG (K:Nat) (o:aF):aF:=iM (· +K) (fun _ _=>true) o
def oK (K:Nat) (μ:Pl):Pl:=fun M=>if K<=M then μ (M - K)else none
def zN (C:Cx) (F:Bool->aZ) (μ:Pl) (o:aF) (w:World) (K:Nat):Cx:= {w0:=w,F0:=F,o0:=vG K o,μ0:=oK K μ,M:=wX (vG K o) (oK K μ),df:= []}
theorem I4 {K:Nat} {o:aF}: ∀p∈o,(fun M=>M - K) ((fun L=>L+K) p.1)=p.1:=fun p _=>by simp
theorem aF2 {K:Nat} {o:aF} {μ:Pl} {L:Nat} (hL:aE o μ L≠none):aE (vG K o) (oK K μ) (L+K)=aE o μ L:=
 W5 (σ:=(· +K)) (τ:=(· - K)) (I4 (K:=K)) (fun L x _=>by simp[oK]) hL
theorem SW.enter {C F μ} {o:aF} {w:World} (h:SW C F μ o w) (K:Nat):SW (zN C F μ o w K) F (oK K μ) (vG K o) w:=by
 have hlk: ∀{M y},lk (vG K o) M=some y-> ∃x,M=(M - K)+K/\lk o (M - K)=some x/\y= {dI (· +K) x with pin:=true}:=fun {M y} hy=>by
  obtain⟨x,g1,g2,g3⟩:=vF (σ:=(· +K)) (τ:=(· - K)) (I4 (K:=K)) hy
  exact⟨x,g1,g2,g3⟩
 have hmu: ∀{M},M=(M - K)+K->oK K μ M=μ (M - K):=fun {M} hM=>by unfold oK;rw[if_pos (by omega)]
 refine⟨h.facts,h.sub,fun b k v hv=> .inl hv,FLe.refl _,fun b k v hv=> .inl hv,Fr.refl _ _,fun M y hy=>?_,fun M y M' y' b c c' hy hy' hm hm'=>?_,fun M y b c hy hm hz=>?_,fun M y b c hy hm=>?_,fun M y y0 h0 hy hp=>?_⟩
 ·obtain⟨x,g1,g2,rfl⟩:=hlk hy
  rw[hmu g1]
  exact I3 (h.obj _ x g2) fun L hL=>aF2 hL
 ·obtain⟨x,g1,g2,rfl⟩:=hlk hy
  obtain⟨x',g1',g2',rfl⟩:=hlk hy'
  rw[hmu g1]at hm
  rw[hmu g1']at hm'
  have:=h.dist _ x _ x' b c c' g2 g2' hm hm'
  omega
 ·obtain⟨x,g1,g2,rfl⟩:=hlk hy
  rw[hmu g1]at hm
  exact h.excl _ x b c g2 hm (by simpa[I1]using hz)
 ·exact .inr ⟨M,y,c,hy,hm⟩
 ·have:y=y0:=by have:=h0.symm.trans hy;exact(Option.some.inj this).symm
  subst this
  exact⟨rfl,rfl,rfl⟩
def eP (K:Nat) (o o':aF) (L:Nat):Bool:=decide (K<=L)&&(lk o (L - K)).isSome&&match lk o' L with
 |some x=>x.pin
 |none=>false
def oM (K B:Nat) (o o':aF) (L:Nat):Nat:=if eP K o o' L=true then L - K else L+B
def lL (K B:Nat) (M:Nat):Nat:=if M<B then M+K else M - B
def jM (o:aF) (L:Nat):Bool:=match lk o L with
 |some x=>x.pin
 |none=>false
def I5 (K B:Nat) (o o':aF):aF:=iM (oM K B o o') (fun L b=>eP K o o' L&&jM o (L - K)) o'
def pP (B:Nat) (o:aF):Bool:=o.all fun p=>decide (p.1<B)
def zO (K B:Nat) (s:ASt) (d:Nat) (r:AV) (o':aF):ASt:=
 {n:=s.n,t:=(d,r.ren (oM K B s.o o'))::s.t.map fun p=>(p.1,if p.2.labs (fun L=>eP K s.o o' (L+K))=true then p.2 else .dead),o:=I5 K B s.o o'}
theorem I6 {B:Nat}: ∀{o:aF} {L:Nat} {x:AObj},pP B o=true->lk o L=some x->L<B
 | [],L,x,_,h=>by simp[lk]at h
 |(k,y)::o,L,x,hk,h=>by
  simp only[pP,List.all_cons,Bool.and_eq_true,decide_eq_true_eq]at hk
  simp only[lk]at h
  by_cases hL:k=L
  ·subst hL;exact hk.1
  ·rw[if_neg hL]at h;exact I6 hk.2 h
theorem W6 {K:Nat} {o o':aF} {L:Nat} (h:eP K o o' L=true):K<=L/\(∃x0,lk o (L - K)=some x0)/\ ∃x,lk o' L=some x/\x.pin=true:=by
 simp only[eP,Bool.and_eq_true,decide_eq_true_eq]at h
 obtain⟨⟨h1,h2⟩,h3⟩:=h
 refine⟨h1,Option.isSome_iff_exists.1 h2,?_⟩
 cases hx:lk o' L with
 |none=>simp[hx]at h3
 |some x=>simp[hx]at h3;exact⟨x,rfl,h3⟩
theorem aF3 {K B:Nat} {o o':aF} (hB:pP B o=true) (L:Nat):lL K B (oM K B o o' L)=L:=by
 unfold oM
 split
 ·rename_i h
  obtain⟨h1,⟨x0,h2⟩,_⟩:=W6 h
  have:=I6 hB h2
  unfold lL
  rw[if_pos this];omega
 ·unfold lL
  rw[if_neg (by omega)];omega
theorem SR.leave {C F μ} {s:ASt} {a:Act} {w:World} (h:SR C F μ s a w) {K B:Nat} (hB:pP B s.o=true) {F':Bool->aZ} {μ':Pl} {o':aF} {w':World} (h':SW (zN C F μ s.o w K) F' μ' o' w')
 {d:Nat} (hd:d<s.n) {r:AV} {v:Value} (hr:RV F' (aE o' μ') r v):
 SR C F' (fun M=>μ' (lL K B M)) (zO K B s d r o') (a.put (some d) v) w':=by
 have hsw:=h.sw
 have hkey: ∀p∈o',lL K B (oM K B s.o o' p.1)=p.1:=fun p _=>aF3 hB p.1
 have hlk: ∀{M y},lk (I5 K B s.o o') M=some y-> ∃x,M=oM K B s.o o' (lL K B M)/\lk o' (lL K B M)=some x/\y= {dI (oM K B s.o o') x with pin:=eP K s.o o' (lL K B M)&&jM s.o (lL K B M - K)}:=fun {M y} hy=>by
  obtain⟨x,g1,g2,g3⟩:=vF (σ:=oM K B s.o o') (τ:=lL K B) hkey hy
  exact⟨x,g1,g2,g3⟩
 have hloc: ∀L,aE o' μ' L≠none->aE (I5 K B s.o o') (fun M=>μ' (lL K B M)) (oM K B s.o o' L)=aE o' μ' L:=fun L hL=>
  W5 (σ:=oM K B s.o o') (τ:=lL K B) hkey (fun L x _=>by simp only[aF3 hB]) hL
 have hM: ∀b,(zN C F μ s.o w K).M b->C.w0.heap.size<=b\/C.M b:=by
  rintro b ⟨M,x,c,hx,hm⟩
  obtain⟨x0,g1,g2,_⟩:=vF (o:=s.o) (q:=fun _ _=>true) (M:=M) (y:=x) (σ:=(· +K)) (τ:=(· - K)) (I4 (K:=K)) hx
  have hm':μ (M - K)=some (b,c):=by
   have:oK K μ M=some (b,c):=hm
   unfold oK at this
   split at this
   ·exact this
   ·cases this
  exact hsw.mine _ x0 b c g2 hm'
 have hold: ∀L,eP K s.o o' (L+K)=true->oM K B s.o o' (L+K)=L/\ ∃x0 x,lk s.o L=some x0/\lk o' (L+K)=some x/\x.pin=true/\μ' (L+K)=μ L/\(∀p,bV x p=bV x0 p)/\x.arr=x0.arr:=by
  intro L hL
  obtain⟨g1,⟨x0,g2⟩,x,g3,g4⟩:=W6 hL
  rw[Nat.add_sub_cancel]at g2
  refine⟨by unfold oM;rw[if_pos hL];omega,x0,x,g2,g3,g4,?_⟩
  obtain⟨k1,_⟩:=I2 (σ:=(· +K)) (τ:=(· - K)) (q:=fun _ _=>true) (I4 (K:=K)) g2
  have:=h'.keep (L+K) x _ k1 g3 g4
  obtain⟨e1,e2,e4⟩:=this
  refine⟨?_,fun p=>(aF1 e2 p).trans (xE _ _ _ _),by rw[e4];exact I0 _ _⟩
  rw[e1]
  show oK K μ (L+K)=μ L
  simp[oK]
 refine⟨⟨h'.facts,h'.sub,?_,hsw.grow.trans h'.grow,?_,?_,?_,?_,?_,?_,?_⟩,h.defers,?_,?_⟩
 ·intro b k u hu
  rcases h'.lentc b k u hu with hh|hh
  ·rcases hsw.lentc b k u hh with hh|hh
   ·exact .inl hh
   ·exact .inr (h'.grow _ _ _ _ hh)
  ·exact .inr hh
 ·intro b k u hu
  rcases h'.newf b k u hu with hh|hh|hh
  ·exact hsw.newf b k u hh
  ·exact .inr (.inl (Nat.le_trans hsw.fr.size hh))
  ·exact .inr (hM b hh)
 ·refine hsw.fr.trans h'.fr fun k hk hkm=>?_
  rcases hM k hkm with hh|hh
  ·omega
  ·exact hh
 ·intro M y hy
  obtain⟨x,g1,g2,rfl⟩:=hlk hy
  exact I3 (h'.obj _ x g2) fun L hL=>hloc L hL
 ·intro M y M' y' b c c' hy hy' hm hm'
  obtain⟨x,g1,g2,rfl⟩:=hlk hy
  obtain⟨x',g1',g2',rfl⟩:=hlk hy'
  have:=h'.dist _ x _ x' b c c' g2 g2' hm hm'
  rw[g1,g1',this]
 ·intro M y b c hy hm hz
  obtain⟨x,g1,g2,rfl⟩:=hlk hy
  exact h'.excl _ x b c g2 hm (by simpa[I1]using hz)
 ·intro M y b c hy hm
  obtain⟨x,g1,g2,rfl⟩:=hlk hy
  rcases h'.mine _ x b c g2 hm with hh|hh
  ·exact .inl (Nat.le_trans hsw.fr.size hh)
  ·exact hM b hh
 ·intro M y y0 h0 hy hp
  obtain⟨x,g1,g2,rfl⟩:=hlk hy
  simp only[Bool.and_eq_true]at hp
  obtain⟨hp1,hp2⟩:=hp
  have hKM:K<=lL K B M:=(W6 hp1).1
  have hp1':eP K s.o o' ((lL K B M - K)+K)=true:=by rw[Nat.sub_add_cancel hKM];exact hp1
  obtain⟨k1,x0,x1,k2,k3,k4,k5,k6,k8⟩:=hold _ hp1'
  rw[Nat.sub_add_cancel hKM]at k1 k3 k5
  have hMe:lL K B M - K=M:=by rw[<-k1];exact g1.symm
  rw[hMe]at k2 k5 hp2
  have hx1:x1=x:=Option.some.inj (k3.symm.trans g2)
  subst hx1
  have hpin:x0.pin=true:=by simpa[jM,k2]using hp2
  obtain⟨e1,e2,e4⟩:=hsw.keep M x0 y0 h0 k2 hpin
  refine⟨k5.trans e1,?_,?_⟩
  ·rw[xE,k6,e2]
  ·show(dI _ x1).arr=_
   rw[I0,k8,e4]
 ·show(a.put (some d) v).tmps.size=s.n
  simp[Act.put,h.n]
 ·intro i x hx
  rw[zD (by rw[h.n];exact hd)]
  simp only[zO,lk]at hx
  by_cases hi:d=i
  ·subst hi
   rw[if_pos rfl]at hx ⊢
   obtain rfl:=Option.some.inj hx
   exact hr.ren fun L hL=>hloc L (hr.has_loc L hL)
  ·rw[if_neg hi]at hx
   rw[if_neg (fun e=>hi e.symm)]
   rw[vE (fun y:AV=>if y.labs (fun L=>eP K s.o o' (L+K))=true then y else .dead)]at hx
   cases hy:lk s.t i with
   |none=>simp[hy]at hx
   |some y=>
    simp[hy]at hx
    have hv:=h.slot i y hy
    split at hx
    ·rename_i hlab
     subst hx
     refine hv.congr h'.grow fun L hL=>?_
     obtain⟨k1,x0,x1,k2,k3,k4,k5,k6,k8⟩:=hold L (W2 (p:=fun L=>eP K s.o o' (L+K)) hlab hL)
     have hne:aE o' μ' (L+K)≠none:=by simp[aE,k3]
     have:=hloc (L+K) hne
     rw[k1]at this
     rw[show(zO K B s d r o').o=I5 K B s.o o' from rfl,this]
     simp[aE,k2,k3,k5,k6]
    ·subst hx;exact .dead
def MCall (P:Program) [Glob P] (f:FuncId) (args:List AV) (o:aF) (R:AV->aF->Prop):Prop:=
 (∀cargs w,(callFunc f cargs).run P w= .ok (.enter f cargs) w)/\
 ∀(C:Cx) (F:Bool->aZ) (μ:Pl) (w:World) (cargs:Array Value),GOk P C->C.w0=w->C.F0=F->C.o0=o->C.μ0=μ->SW C F μ o w->args.length=cargs.size->
  (∀(i:Nat) (a:AV) (v:Value),args[i]?=some a->cargs[i]?=some v->RV F (aE o μ) a v)->
  Calls P f cargs w fun e w'=> ∃v r o' F' μ',e= .returned v/\R r o'/\SW C F' μ' o' w'/\RV F' (aE o' μ') r v
theorem MCall.mono {P f args o} [Glob P] {R R':AV->aF->Prop} (h:MCall P f args o R) (hR: ∀r o',R r o'->R' r o'):MCall P f args o R':=
 ⟨h.1,fun C F μ w cargs h0 h1 h2 h3 h4 h5 h6 h7=>(h.2 C F μ w cargs h0 h1 h2 h3 h4 h5 h6 h7).mono fun e w' ⟨v,r,o',F',μ',g1,g2,g3⟩=>⟨v,r,o',F',μ',g1,hR r o' g2,g3⟩⟩
theorem aQy {P:Program} [Glob P] {C F μ o w K} (hg:GOk P C) (h:SW C F μ o w):GOk P (zN C F μ o w K):=⟨hg.at h.grow⟩
theorem MCall.use {P f} [Glob P] {as:List AV} {R:AV->aF->Prop} {C F μ} {s:ASt} {a:Act} {w:World} {K B:Nat} (hc:MCall P f (as.map (AV.ren (· +K))) (vG K s.o) R) (hgk:GOk P C) (h:SR C F μ s a w) (hB:pP B s.o=true) {d:Nat} (hd:d<s.n)
 {cargs:Array Value} (hl:as.length=cargs.size) (hv: ∀(i:Nat) (x:AV) (v:Value),as[i]?=some x->cargs[i]?=some v->RV F (aE s.o μ) x v):
 Calls P f cargs w fun e w'=> ∃v r o' F' μ',e= .returned v/\R r o'/\SR C F' μ' (zO K B s d r o') (a.put (some d) v) w':=by
 refine(hc.2 (zN C F μ s.o w K) F (oK K μ) w cargs (aQy hgk h.sw) rfl rfl rfl rfl (h.sw.enter K) (by simpa using hl) (fun i x v hx hxv=>?_)).mono ?_
 ·rw[List.getElem?_map]at hx
  cases hy:as[i]? with
  |none=>simp[hy]at hx
  |some y=>
   simp[hy]at hx
   subst hx
   have:=hv i y v hy hxv
   exact this.ren fun L hL=>aF2 (this.has_loc L hL)
 ·rintro e w' ⟨v,r,o',F',μ',rfl,hR,hsw,hr⟩
  exact⟨v,r,o',F',_,rfl,hR,h.leave hB hsw hd hr⟩
end Go.Ab
namespace Go.Ab
open Go.RowKit
def mF:Value->Value->Option Bool
 | .int k a,.int k' b=>if k=k' then some (a==b)else none
 | .string a,.string b=>some (decide (a=b))
 | .bool a,.bool b=>some (a==b)
 |_,_=>none
def iN:List Value->List Value->Option Bool
 | [],[]=>some true
 |a::r,b::q=>match mF a b,iN r q with
  |some x,some y=>some (x&&y)
  |_,_=>none
 |_,_=>none
def iF:Value->Value->Option Bool
 | .agg a,.agg b=>iN a.toList b.toList
 |a,b=>mF a b
def nL:Option TypeDesc->Value->Bool
 |some (.int _),.int _ _=>true
 |some .string,.string _=>true
 |some .bool,.bool _=>true
 |_,_=>false
def iO (P:Program):List Field->List Value->Nat->Bool
 | [],[],_=>true
 |f::r,c::cs,i=> !decide (f.name= "_")&&(decide (f.offset=i)&&(decide (P.cellsOf f.type=1)&&(nL (P.underlying f.type) c&&iO P r cs (i+1))))
 |_,_,_=>false
def aF4 (P:Program) (kt:TypeId):Option TypeDesc->Value->Bool
 |some (.struct fs),.agg cs=>iO P fs.toList cs.toList 0&&(!P.stoodInHeld kt&&decide (cs.size=P.cellsOf kt))
 |d,k=>nL d k
def gF (P:Program) [Glob P] (t:TypeId) (k:Value):Bool:=match P.underlying t with
 |some (.map kt _)=>aF4 P kt (P.underlying kt) k
 |_=>false
def cI (k:Value):List AV->Nat->Option (Option (Nat×AV))
 | [],_=>some none
 | .tup [.sc k',v]::r,i=>match iF k k' with
  |some true=>some (some (i,v))
  |some false=>cI k r (i+1)
  |none=>none
 |_::_,_=>none
def fC (k:Value) (v:AV) (xs:List AV):Option (List AV):=match cI k xs 0 with
 |some (some (i,_))=>some (xs.set i (.tup [.sc k,v]))
 |some none=>some (xs++ [.tup [.sc k,v]])
 |none=>none
def vH (k:Value) (xs:List AV):Option (List AV):=match cI k xs 0 with
 |some (some (i,_))=>some (xs.eraseIdx i)
 |some none=>some xs
 |none=>none
theorem W7 (a b:ByteArray):(a==b)=decide (a=b):=by
 rw[Bool.eq_iff_iff,decide_eq_true_eq]
 constructor
 ·intro h
  obtain⟨a⟩:=a;obtain⟨b⟩:=b
  have h':(a==b)=true:=h
  rw[eq_of_beq h']
 ·rintro rfl
  obtain⟨a⟩:=a
  show(a==a)=true
  simp
theorem aF5 {k k':Value} (h:mF k k'=some true):k=k':=by
 unfold mF at h
 split at h
 ·split at h
  ·rename_i hk;subst hk;simp at h;rw[h]
  ·cases h
 ·simp at h;rw[h]
 ·simp at h;rw[h]
 ·cases h
theorem aF6: ∀{a b:List Value},iN a b=some true->a=b
 | [],[],_=>rfl
 | [],_::_,h=>by simp[iN]at h
 |_::_,[],h=>by simp[iN]at h
 |a::r,b::q,h=>by
  simp only[iN]at h
  split at h
  ·rename_i x y hx hy
   simp only[Option.some.injEq,Bool.and_eq_true]at h
   obtain⟨rfl,rfl⟩:=h
   rw[aF5 hx,aF6 hy]
  ·cases h
theorem W8 {k k':Value} (h:iF k k'=some true):k=k':=by
 unfold iF at h
 split at h
 ·have:=aF6 h
  rw[Array.toList_inj]at this
  rw[this]
 ·exact aF5 h
theorem W9 {P:Program} [Glob P] {t:TypeId} {k:Value} (hk:gF P t k=true): ∃kt et d,P.underlying t=some (.map kt et)/\P.underlying kt=some d/\
 (nL (some d) k=true\/ ∃fs cs,d= .struct fs/\k= .agg cs/\iO P fs.toList cs.toList 0=true/\P.stoodInHeld kt=false/\cs.size=P.cellsOf kt):=by
 unfold gF at hk
 split at hk
 ·rename_i kt et hu
  unfold aF4 at hk
  split at hk
  ·rename_i fs cs h1
   simp only[Bool.and_eq_true,Bool.not_eq_true',decide_eq_true_eq]at hk
   exact⟨kt,et,_,hu,h1,.inr ⟨fs,cs,rfl,rfl,hk.1,hk.2.1,hk.2.2⟩⟩
  ·cases hd:P.underlying kt with
   |none=>rw[hd]at hk;simp[nL]at hk
   |some d=>rw[hd]at hk;exact⟨kt,et,d,hu,hd,.inl hk⟩
 ·cases hk
theorem tW {d:TypeDesc} {k:Value} (h:nL (some d) k=true):(∃q,d= .int q/\ ∃j a,k= .int j a)\/(d= .string/\ ∃s,k= .string s)\/(d= .bool/\ ∃b,k= .bool b):=by
 unfold nL at h
 split at h
 ·rename_i e;injection e with e;exact .inl ⟨_,e,_,_,rfl⟩
 ·rename_i e;injection e with e;exact .inr (.inl ⟨e,_,rfl⟩)
 ·rename_i e;injection e with e;exact .inr (.inr ⟨e,_,rfl⟩)
 ·cases h
theorem aF7 {P:Program}: ∀{fs:List Field} {cs:List Value} {i:Nat},iO P fs cs i=true->(cs.all fun c=>gD c)=true
 | [],[],_,_=>rfl
 |f::r,c::cs,i,h=>by
  simp only[iO,Bool.and_eq_true]at h
  obtain⟨_,_,_,h1,h2⟩:=h
  rw[List.all_cons,aF7 h2,Bool.and_true]
  cases hd:P.underlying f.type with
  |none=>rw[hd]at h1;simp[nL]at h1
  |some d=>
   rw[hd]at h1
   rcases tW h1 with⟨_,_,_,_,rfl⟩|⟨_,_,rfl⟩|⟨_,_,rfl⟩<;>rfl
 | [],_::_,_,h=>by simp[iO]at h
 |_::_,[],_,h=>by simp[iO]at h
theorem aF8 {P:Program} [Glob P] {t:TypeId} {k:Value} (hk:gF P t k=true):vA k=true:=by
 obtain⟨kt,et,d,_,_,h|⟨fs,cs,rfl,rfl,h,_⟩⟩:=W9 hk
 ·rcases tW h with⟨_,_,_,_,rfl⟩|⟨_,_,rfl⟩|⟨_,_,rfl⟩<;>rfl
 ·exact aF7 h
theorem aF9 {d:TypeDesc} {k k':Value} (hk:nL (some d) k=true) {q:Bool} (h:iF k k'=some q):Instr.sameNow d k k'=some q:=by
 rcases tW hk with⟨z,rfl,j,a,rfl⟩|⟨rfl,s,rfl⟩|⟨rfl,b,rfl⟩
 ·cases k'<;>simp[iF,mF]at h
  simpa[Instr.sameNow]using h
 ·cases k'<;>simp[iF,mF]at h
  simp only[Instr.sameNow,W7];rw[h]
 ·cases k'<;>simp[iF,mF]at h
  simp[Instr.sameNow,h]
theorem aGa {P:Program} {d:Nat} {xs ys:List Value}: ∀{fs:List Field} {as bs:List Value} {i:Nat} {q:Bool},iO P fs as i=true->iN as bs=some q->xs.drop i=as->ys.drop i=bs->
 gW.eqFs (fun t xs ys=>gW P (d+1) t xs ys) P.cellsOf xs ys fs=some q
 | [],[],bs,i,q,_,h,_,_=>by
  cases bs with
  |nil=>simp[iN]at h;subst h;rfl
  |cons b r=>simp[iN]at h
 |f::r,a::as,bs,i,q,hf,h,hx,hy=>by
  simp only[iO,Bool.and_eq_true,Bool.not_eq_true',decide_eq_false_iff_not,decide_eq_true_eq]at hf
  obtain⟨f1,f2,f3,f4,f5⟩:=hf
  cases bs with
  |nil=>simp[iN]at h
  |cons b bs=>
   simp only[iN]at h
   split at h
   ·rename_i x y h1 h2
    obtain rfl:=Option.some.inj h
    have hx':xs.drop (i+1)=as:=by rw[<-List.drop_drop,hx];rfl
    have hy':ys.drop (i+1)=bs:=by rw[<-List.drop_drop,hy];rfl
    have ih:=aGa (d:=d) (xs:=xs) (ys:=ys) f5 h2 hx' hy'
    have e1:gW P (d+1) f.type ((xs.drop f.offset).take (P.cellsOf f.type)) ((ys.drop f.offset).take (P.cellsOf f.type))=some x:=by
     rw[f2,f3,hx,hy]
     cases hd:P.underlying f.type with
     |none=>rw[hd]at f4;simp[nL]at f4
     |some d'=>
      rw[hd]at f4
      simp only[List.take_succ_cons,List.take_zero]
      rcases tW f4 with⟨z,rfl,j,v,rfl⟩|⟨rfl,s,rfl⟩|⟨rfl,v,rfl⟩
      ·cases b<;>simp[mF]at h1
       simp[gW,hd,h1]
      ·cases b<;>simp[mF]at h1
       simp only[gW,hd,W7];rw[h1]
      ·cases b<;>simp[mF]at h1
       simp[gW,hd,h1]
    simp only[gW.eqFs,if_neg f1,e1,ih]
   ·cases h
 | [],_::_,_,_,_,hf,_,_,_=>by simp[iO]at hf
 |_::_,[],_,_,_,hf,_,_,_=>by simp[iO]at hf
theorem aGb: ∀{a b:List Value} {q:Bool},iN a b=some q->a.length=b.length
 | [],[],_,_=>rfl
 | [],_::_,_,h=>by simp[iN]at h
 |_::_,[],_,h=>by simp[iN]at h
 |a::r,b::s,q,h=>by
  simp only[iN]at h
  split at h
  ·rename_i h1 h2;simp[aGb h2]
  ·cases h
theorem aGc {P:Program} {kt:TypeId} {fs:Array Field} {cs:Array Value} (hu:P.underlying kt=some (.struct fs)) (hf:iO P fs.toList cs.toList 0=true) (hs:P.stoodInHeld kt=false) (hc:cs.size=P.cellsOf kt) {k':Value} {q:Bool} (h:iF (.agg cs) k'=some q) (w:World):
 (Op.equal kt (.agg cs) k').run P w= .ok q w:=by
 cases k' with
 |agg ds=>
  have hl:=aGb (show iN cs.toList ds.toList=some q from h)
  refine U3 9900 100 kt w (.agg cs) (.agg ds) q ?_ ⟨fun _=>⟨_,hu⟩,fun _=>⟨_,rfl⟩⟩ ⟨fun _=>⟨_,hu⟩,fun _=>⟨_,rfl⟩⟩
  show gW P 100 kt cs.toList ds.toList=some q
  have:=aGa (d:=98) (xs:=cs.toList) (ys:=ds.toList) hf h rfl rfl
  show gW P (99+1) kt cs.toList ds.toList=some q
  unfold gW
  simp only[hu]
  simp only[Array.length_toList]at hl ⊢
  rw[if_pos ⟨hc,by omega,hs⟩]
  exact this
 |_=>simp[iF,mF]at h
def EntS (R:AV->Value->Prop) (es:Array MapEntry) (ck:Nat) (xs:List AV):Prop:=
 es.size=xs.length/\ ∀(j:Nat) (e:MapEntry) (y:AV),es[j]?=some e->xs[j]?=some y-> ∃v r,y= .tup (.sc e.key::v::r)/\R v e.val/\vA e.key=true/\(r= []\/r= [.sc (.int .i64 e.born),.sc (.int .i64 ck)])
def EntL (R:AV->Value->Prop) (es:List MapEntry) (xs:List AV):Prop:=
 es.length=xs.length/\ ∀(j:Nat) (e:MapEntry) (y:AV),es[j]?=some e->xs[j]?=some y-> ∃v r,y= .tup (.sc e.key::v::r)/\R v e.val
theorem EntS.lies {R:AV->Value->Prop} {es:Array MapEntry} {ck:Nat} {xs:List AV} (h:EntS R es ck xs):EntL R es.toList xs:=
 ⟨by simpa using h.1,fun j e y he hy=>by obtain⟨v,r,g1,g2,_⟩:=h.2 j e y (by simpa using he) hy;exact⟨v,r,g1,g2⟩⟩
theorem EntL.tail {R:AV->Value->Prop} {e:MapEntry} {es:List MapEntry} {x:AV} {xs:List AV} (h:EntL R (e::es) (x::xs)):EntL R es xs:=
 ⟨by simpa using h.1,fun j e' y he hy=>h.2 (j+1) e' y (by simpa using he) (by simpa using hy)⟩
def FoundL (R:AV->Value->Prop) (k:Value) (es:List MapEntry) (i:Nat):Option (Nat×AV)->Option (Nat×Value)->Prop
 |none,none=>True
 |some (n,v),some (n',u)=>n=n'/\i<=n/\R v u/\ ∃e,es[n - i]?=some e/\e.key=k
 |_,_=>False
theorem FoundL.next {R:AV->Value->Prop} {k:Value} {e:MapEntry} {es:List MapEntry} {i:Nat} {r:Option (Nat×AV)} {z:Option (Nat×Value)} (h:FoundL R k es (i+1) r z):FoundL R k (e::es) i r z:=by
 unfold FoundL at h ⊢
 split at h
 ·trivial
 ·obtain⟨g1,g2,g3,e',g4,g5⟩:=h
  rename_i n _ _ _
  exact⟨g1,by omega,g3,e',by rw[show n - i=(n - (i+1))+1 by omega];simpa using g4,g5⟩
 ·exact h.elim
theorem aGd {d:TypeDesc} {k:Value} (hk:nL (some d) k=true) {R:AV->Value->Prop}:
 ∀{xs:List AV} {es:List MapEntry} {i:Nat} {r:Option (Nat×AV)},EntL R es xs->cI k xs i=some r-> ∃z,Instr.findNow d k es i=some z/\FoundL R k es i r z
 | [],es,i,r,hl,h=>by
  simp[cI]at h;subst h
  obtain rfl:es= []:=List.length_eq_zero_iff.1 hl.1
  exact⟨none,rfl,trivial⟩
 |x::xs,[],i,r,hl,h=>by have:=hl.1;simp at this
 |x::xs,e::es,i,r,hl,h=>by
  obtain⟨v,q,rfl,hv⟩:=hl.2 0 e x rfl rfl
  cases q with
  |cons _ _=>simp[cI]at h
  |nil=>
   simp only[cI]at h
   split at h
   ·rename_i hq
    obtain rfl:=Option.some.inj h
    refine⟨some (i,e.val),?_,rfl,Nat.le_refl _,hv,e,by simp,(W8 hq).symm⟩
    simp only[Instr.findNow,aF9 hk hq]
   ·rename_i hq
    obtain⟨z,h1,h2⟩:=aGd hk hl.tail h
    exact⟨z,by simp only[Instr.findNow,aF9 hk hq];exact h1,h2.next⟩
   ·cases h
theorem aGe {P:Program} {kt:TypeId} {fs:Array Field} {cs:Array Value} (hu:P.underlying kt=some (.struct fs)) (hf:iO P fs.toList cs.toList 0=true) (hs:P.stoodInHeld kt=false) (hc:cs.size=P.cellsOf kt) {R:AV->Value->Prop}:
 ∀{xs:List AV} {es:List MapEntry} {i:Nat} {r:Option (Nat×AV)},EntL R es xs->cI (.agg cs) xs i=some r-> ∃z,(∀w,(Instr.findAsking kt (.agg cs) es i).run P w= .ok z w)/\FoundL R (.agg cs) es i r z
 | [],es,i,r,hl,h=>by
  simp[cI]at h;subst h
  obtain rfl:es= []:=List.length_eq_zero_iff.1 hl.1
  exact⟨none,fun w=>by simp[Instr.findAsking],trivial⟩
 |x::xs,[],i,r,hl,h=>by have:=hl.1;simp at this
 |x::xs,e::es,i,r,hl,h=>by
  obtain⟨v,q,rfl,hv⟩:=hl.2 0 e x rfl rfl
  cases q with
  |cons _ _=>simp[cI]at h
  |nil=>
   simp only[cI]at h
   split at h
   ·rename_i hq
    obtain rfl:=Option.some.inj h
    refine⟨some (i,e.val),fun w=>?_,rfl,Nat.le_refl _,hv,e,by simp,(W8 hq).symm⟩
    simp[Instr.findAsking,aGc hu hf hs hc hq]
   ·rename_i hq
    obtain⟨z,h1,h2⟩:=aGe hu hf hs hc hl.tail h
    exact⟨z,fun w=>by simp[Instr.findAsking,aGc hu hf hs hc hq,h1],h2.next⟩
   ·cases h
theorem X0 {P:Program} [Glob P] {t:TypeId} {k:Value} (hk:gF P t k=true): ∃kt et,P.underlying t=some (.map kt et)/\(∀(em:Bool) (n:Nat) (w:World),(Instr.checkKey em (n+2) kt k).run P w= .ok () w)/\
 ∀{R:AV->Value->Prop} {xs:List AV} {es:List MapEntry} {r:Option (Nat×AV)},EntL R es xs->cI k xs 0=some r-> ∃z,(∀w,(Instr.findKey kt k es).run P w= .ok z w)/\FoundL R k es 0 r z:=by
 obtain⟨kt,et,d,hu,hd,hk|⟨fs,cs,rfl,rfl,h1,h2,h3⟩⟩:=W9 hk
 ·refine⟨kt,et,hu,fun em n w=>?_,fun {R xs es r} hl hg=>?_⟩
  ·rcases tW hk with⟨z,rfl,j,a,rfl⟩|⟨rfl,s,rfl⟩|⟨rfl,b,rfl⟩<;>simp[Instr.checkKey,run_underlying hd]
  ·obtain⟨z,g1,g2⟩:=aGd hk hl hg
   exact⟨z,fun w=>by simp[Instr.findKey,run_underlying hd,g1],g2⟩
 ·refine⟨kt,et,hu,fun em n w=>?_,fun {R xs es r} hl hg=>?_⟩
  ·rw[Instr.checkKey]
   simp only[Sem.run_bind,run_underlying hd,Result.andThen_ok]
   rw[<-Array.forIn_toList]
   obtain⟨ds,i,hds,hfit⟩: ∃(ds:List Value) (i:Nat),cs.toList.drop i=ds/\iO P fs.toList ds i=true:=⟨cs.toList,0,by simp,h1⟩
   clear h1 h2 h3
   generalize fs.toList=L at hfit ⊢
   induction L generalizing ds i with
   |nil=>simp
   |cons f L ih=>
    cases ds with
    |nil=>simp[iO]at hfit
    |cons c ds=>
     simp only[iO,Bool.and_eq_true,Bool.not_eq_true',decide_eq_false_iff_not,decide_eq_true_eq]at hfit
     obtain⟨f1,f2,f3,f4,f5⟩:=hfit
     have hx':cs.toList.drop (i+1)=ds:=by rw[<-List.drop_drop,hds];rfl
     cases hd':P.underlying f.type with
     |none=>rw[hd']at f4;simp[nL]at f4
     |some d=>
      rw[hd']at f4
      have hp:P.plainKey f.type=true:=by
       rcases tW f4 with⟨z,rfl,j,v,rfl⟩|⟨rfl,s,rfl⟩|⟨rfl,v,rfl⟩<;>simp[Program.plainKey,hd']
      have hc:cs[f.offset]?=some c:=by
       have:=congrArg (fun l=>l[0]?) hds
       simp only[List.getElem?_drop,Nat.add_zero,List.getElem?_cons_zero,Array.getElem?_toList]at this
       rw[f2];exact this
      have p1:=run_part_plain (P:=P) w hp hc
      have p2:(Instr.checkKey em (n+1) f.type c).run P w= .ok () w:=by
       rcases tW f4 with⟨z,rfl,j,v,rfl⟩|⟨rfl,s,rfl⟩|⟨rfl,v,rfl⟩<;>simp[Instr.checkKey,run_underlying hd']
      simp only[List.forIn_cons,Sem.run_bind,f1,ne_eq,not_false_eq_true,if_true,Result.andThen_ok,p1,p2,Sem.run_pure]
      exact ih ds (i+1) hx' f5
  ·cases es with
   |nil=>
    cases xs with
    |nil=>
     simp[cI]at hg;subst hg
     exact⟨none,fun w=>by simp[Instr.findKey,run_underlying hd,Instr.findNow],trivial⟩
    |cons x xs=>have:=hl.1;simp at this
   |cons e es=>
    obtain⟨z,g1,g2⟩:=aGe hd h1 h2 h3 hl hg
    exact⟨z,fun w=>by simp[Instr.findKey,run_underlying hd,Instr.findNow,Instr.sameNow,g1],g2⟩
def qQ (P:Program) [Glob P] (t:TypeId):Option AV:=match P.underlying t with
 |some (.map _ et)=>aL P et
 |_=>none
theorem aQz {C F μ} {s:ASt} {a:Act} {w:World} (hs:SR C F μ s a w) {v:Value} {L:Nat} {y:AObj} (hx:RV F (aE s.o μ) (.mp L) v) (hg:lk s.o L=some y) (hk1:y.kd=1) (he:y.es=0):
 ∃b cap,v= .map (some b)/\μ L=some (b,cap)/\(y.arr=true->yW F w y b)/\(y.arr=false->LoopAt F (aE s.o μ) w y b):=by
 have ho:=hs.sw.obj L y hg
 cases hx with
 | @mp _ _ _ b cap es len _ g1 g2=>
  simp only[aE,hg,Option.map_some]at g1
  obtain⟨hm,hk,hk2⟩:=T5 (Option.some.inj g1)
  rw[hm]at ho
  rw[<-hk2,he]at g2
  obtain rfl:=Option.some.inj (show some (Value.map (some b))=some v from g2)
  exact⟨b,cap,rfl,hm,fun ha=>ObjAt.map ho hk1 ha,fun ha=>ObjAt.loop ho hk1 ha⟩
def mapR (F:Bool->aZ) (loc:Nat->Option LI) (ar:Bool) (v:AV) (u:Value):Prop:=RV (oF ar F) (oL ar loc) v u
theorem mapR.up {F loc ar v u} (h:mapR F loc ar v u) (hs:Sub F):RV F loc v u:=by
 cases ar
 ·exact h
 ·exact RV.up h hs
theorem vI {C F μ} {s:ASt} {a:Act} {w:World} (hs:SR C F μ s a w) {v:Value} {L:Nat} {y:AObj} (hx:RV F (aE s.o μ) (.mp L) v) (hg:lk s.o L=some y) (hk1:y.kd=1) (he:y.es=0):
 ∃b cap es ck,v= .map (some b)/\μ L=some (b,cap)/\w.heap[b]?=some (.map es ck)/\tK es ck/\y.xs.length<=dD/\EntS (mapR F (aE s.o μ) y.arr) es ck y.xs/\
  (y.arr=false-> ∀(j:Nat) (e:MapEntry) (z:AV),es[j]?=some e->y.xs[j]?=some z-> ∃v,z= .tup [.sc e.key,v]):=by
 obtain⟨b,cap,rfl,hm,h1,h2⟩:=aQz hs hx hg hk1 he
 cases ha:y.arr with
 |true=>
  obtain⟨_,_,k4,es,ck,k5,⟨k6,k8⟩,k7⟩:=h1 ha
  exact⟨b,cap,es,ck,rfl,hm,k5,k8,k4,⟨k6,k7⟩,fun h=>by cases h⟩
 |false=>
  obtain⟨_,_,r,k5,k6⟩:=h2 ha
  rw[he]at k6
  unfold OddOf at k6
  split at k6
  ·rename_i es ck _
   obtain⟨k4,k6,k8,k7⟩:=k6
   refine⟨b,cap,es,ck,rfl,hm,k5,k8,k4,⟨k6,fun j e y he hy=>?_⟩,fun _ j e z he hz=>?_⟩
   ·obtain⟨v,g1,g2,g3⟩:=k7 j e y he hy
    exact⟨v,[],g1,g2,g3,.inl rfl⟩
   ·obtain⟨v,g1,_⟩:=k7 j e z he hz
    exact⟨v,g1⟩
  ·omega
  ·omega
  ·exact k6.elim
def xF:AObj:= {arr:=true,fz:=false,pin:=false,es:=0,xs:= [],kd:=1}
theorem aQ0 {P:Program} [Glob P] {C F μ} {s:ASt} {a:Act} {w:World} (h:SR C F μ s a w) {t:TypeId} {d:Nat} (hd:d<s.n):
 ∃v w' μ',(Instr.makeMap t none).run P w= .ok v w'/\SR C F μ' (s.renew d d d xF (.mp d)) (a.put (some d) v) w':=by
 refine⟨.map (some w.heap.size),w.alloc (.map #[] 0),bJ μ d (some (w.heap.size,0)),by simp[Instr.makeMap],?_⟩
 refine SR.renew (x:=xF) (w':=w.alloc (.map #[] 0)) (p:=some (w.heap.size,0)) h hd rfl rfl rfl ⟨rfl,rfl,rfl,by simp,fun k hk _=>pN hk,Nat.le_refl _⟩ ?_ (fun b c hbc=> .inl (h.sw.nb (by simp at hbc;omega))) (fun loc hl=>?_)
 ·exact .inr (.inl ⟨rfl,rfl,by simp[xF,dD],#[],0,tR,⟨rfl,by simp,by simp⟩,fun i e y he=>by simp at he⟩)
 ·exact .mp (cap:=0) (len:=0) (es:=0) (hl.trans rfl) rfl
def zP (P:Program) [Glob P] (t:TypeId) (k:Value) (ok:Bool) (xs:List AV):Option AV:=match qQ P t,cI k xs 0 with
 |some z,some none=>some (if ok=true then .tup [z,bl false]else z)
 |some _,some (some (_,v))=>some (if ok=true then .tup [v,bl true]else v)
 |_,_=>none
theorem aQ1 {P:Program} [Glob P] {C F μ} {s:ASt} {a:Act} {w:World} (h:SR C F μ s a w) {t:TypeId} {k:Value} (hk:gF P t k=true) {ok:Bool} {L:Nat} {x:AObj} (hg:lk s.o L=some x) (hk1:x.kd=1) (he0:x.es=0) {m:Value} (hm:RV F (aE s.o μ) (.mp L) m) {r:AV}
 (hr:zP P t k ok x.xs=some r): ∃v,(Instr.lookup t m k ok).run P w= .ok v w/\RV F (aE s.o μ) r v:=by
 obtain⟨kt,et,hu,hck,hrun⟩:=X0 hk
 obtain⟨b,cap,es,ck,rfl,e2,k5,_,_,hes',_⟩:=vI h hm hg hk1 he0
 have hes:=hes'.lies
 unfold zP at hr
 split at hr
 ·rename_i z hz hq
  obtain rfl:=Option.some.inj hr
  obtain⟨z',f1,f2⟩:=hrun hes hq
  cases z' with
  |some q=>exact f2.elim
  |none=>
   unfold qQ at hz
   rw[hu]at hz
   simp only[aL]at hz
   cases hzv:dQ P et with
   |none=>simp[hzv]at hz
   |some zv=>
    simp[hzv]at hz
    have hrv:RV F (aE s.o μ) z zv:=rS hz
    have hrun:(Instr.lookup t (.map (some b)) k ok).run P w= .ok (if ok then .tuple #[zv,.bool false]else zv) w:=by
     simp[Instr.lookup,run_underlying hu,MapKept.run_getObj_map k5,hck,f1,rQ hzv]
    refine⟨_,hrun,?_⟩
    cases ok
    ·exact hrv
    ·refine .tup rfl fun i a v ha hv=>?_
     match i with
     |0=>simp at ha hv;subst ha;subst hv;exact hrv
     |1=>simp at ha hv;subst ha;subst hv;exact .sc rfl
     |i+2=>simp at ha
 ·rename_i z n v hz hq
  obtain rfl:=Option.some.inj hr
  obtain⟨z',f1,f2⟩:=hrun hes hq
  cases z' with
  |none=>exact f2.elim
  |some q=>
   obtain⟨n',u⟩:=q
   obtain⟨rfl,_,g3,_⟩:=f2
   have hrv:RV F (aE s.o μ) v u:=mapR.up g3 h.sw.sub
   have hrun:(Instr.lookup t (.map (some b)) k ok).run P w= .ok (if ok then .tuple #[u,.bool true]else u) w:=by
    simp[Instr.lookup,run_underlying hu,MapKept.run_getObj_map k5,hck,f1]
   refine⟨_,hrun,?_⟩
   cases ok
   ·exact hrv
   ·refine .tup rfl fun i a v ha hv=>?_
    match i with
    |0=>simp at ha hv;subst ha;subst hv;exact hrv
    |1=>simp at ha hv;subst ha;subst hv;exact .sc rfl
    |i+2=>simp at ha
 ·cases hr
theorem aGf {d:Option TypeDesc} {k:Value} (hk:nL d k=true) (n:Nat):Instr.sameBits n k k=true:=by
 cases d with
 |none=>simp[nL]at hk
 |some d=>rcases tW hk with⟨_,_,_,_,rfl⟩|⟨_,_,rfl⟩|⟨_,_,rfl⟩<;>first|(simp[Instr.sameBits];done)|simp[Instr.sameBits,W7]
theorem aGg {P:Program} {n:Nat}: ∀{fs:List Field} {cs:List Value} {i:Nat},iO P fs cs i=true->(cs.zip cs).all (fun(x,y)=>Instr.sameBits n x y)=true
 | [],[],_,_=>rfl
 |f::r,c::cs,i,h=>by
  simp only[iO,Bool.and_eq_true]at h
  obtain⟨_,_,_,h1,h2⟩:=h
  rw[List.zip_cons_cons,List.all_cons,aGg h2,Bool.and_true]
  exact aGf h1 n
 | [],_::_,_,h=>by simp[iO]at h
 |_::_,[],_,h=>by simp[iO]at h
theorem aQ2 {k:Value} {P:Program} [Glob P] {t:TypeId} (hk:gF P t k=true):Instr.sameBits 10000 k k=true:=by
 obtain⟨kt,et,d,_,_,h|⟨fs,cs,rfl,rfl,h,_⟩⟩:=W9 hk
 ·exact aGf h 10000
 ·simp only[Instr.sameBits,beq_self_eq_true,Bool.true_and]
  exact aGg h
theorem aQ3 {k:Value} {P:Program} [Glob P] {t:TypeId} (hk:gF P t k=true) (w:World):(Instr.keyThatStays k k).run P w= .ok k w:=by
 simp[Instr.keyThatStays,aQ2 hk]
theorem aGh {k k':Value} (h:mF k k'=some false):k≠k':=by
 rintro rfl
 unfold mF at h
 split at h
 ·simp at h
 ·simp at h
 ·simp at h
 ·cases h
theorem aGi: ∀{a:List Value},iN a a≠some false
 | []=>by simp[iN]
 |a::r=>by
  simp only[iN]
  split
  ·rename_i x y h1 h2
   intro h
   simp only[Option.some.injEq,Bool.and_eq_false_iff]at h
   rcases h with rfl|rfl
   ·exact aGh h1 rfl
   ·exact aGi h2
  ·simp
theorem aQ4 {k k':Value} (h:iF k k'=some false):k≠k':=by
 rintro rfl
 unfold iF at h
 split at h
 ·exact aGi h
 ·exact aGh h rfl
theorem aGj {k:Value} {x:AV} {xs:List AV} {i:Nat} {r:Option (Nat×AV)} (h:cI k (x::xs) i=some r): ∃k' v,x= .tup [.sc k',v]:=by
 unfold cI at h
 split at h
 ·rename_i e;cases e
 ·rename_i e;injection e with e1 e2;exact⟨_,_,e1⟩
 ·cases h
theorem aGk {k:Value}: ∀{xs:List AV} {i:Nat},cI k xs i=some none-> ∀y∈xs,∃k' v,y= .tup [.sc k',v]/\k≠k'
 | [],_,_=>by simp
 |x::xs,i,h=>by
  obtain⟨k',v,rfl⟩:=aGj h
  simp only[cI]at h
  split at h
  ·cases h
  ·rename_i hq
   intro y hy
   rcases List.mem_cons.1 hy with rfl|hy
   ·exact⟨k',v,rfl,aQ4 hq⟩
   ·exact aGk h y hy
  ·cases h
theorem aGl {k:Value}: ∀{xs:List AV} {i n:Nat} {v:AV},cI k xs i=some (some (n,v))->i<=n/\ ∃k',xs[n - i]?=some (.tup [.sc k',v])/\iF k k'=some true
 | [],_,_,_,h=>by simp[cI]at h
 |x::xs,i,n,v,h=>by
  obtain⟨k',v',rfl⟩:=aGj h
  simp only[cI]at h
  split at h
  ·rename_i hq
   obtain⟨rfl,rfl⟩:=Prod.mk.inj (Option.some.inj (Option.some.inj h))
   exact⟨Nat.le_refl _,k',by simp,hq⟩
  ·obtain⟨h1,k'',h2,h3⟩:=aGl h
   exact⟨by omega,k'',by rw[show n - i=(n - (i+1))+1 by omega];simpa using h2,h3⟩
  ·cases h
theorem aGm {P:Program} [Glob P] {t:TypeId} {k:Value} (hk:gF P t k=true) {R:AV->Value->Prop} {es:Array MapEntry} {ck:Nat} {xs ys:List AV} {v:AV} {u:Value} (hes:EntS R es ck xs) (hst:tK es ck) (hput:fC k v xs=some ys) (hv:R v u) {w:World} {b:Nat} (hb:w.heap[b]?=some (.map es ck)):
 ∃es' ck',(Instr.mapUpdate t (.map (some b)) k u).run P w= .ok () {w with heap:=w.heap.setIfInBounds b (.map es' ck')}/\tK es' ck'/\EntS R es' ck' ys/\
  ((∀(j:Nat) (e:MapEntry) (z:AV),es[j]?=some e->xs[j]?=some z-> ∃v,z= .tup [.sc e.key,v])-> ∀(j:Nat) (e:MapEntry) (z:AV),es'[j]?=some e->ys[j]?=some z-> ∃v,z= .tup [.sc e.key,v]):=by
 obtain⟨kt,et,hu,hck,hrun⟩:=X0 hk
 unfold fC at hput
 split at hput
 ·rename_i i v0 hq
  obtain rfl:=Option.some.inj hput
  obtain⟨z',f1,f2⟩:=hrun hes.lies hq
  obtain⟨_,k',g6,g7⟩:=aGl hq
  obtain rfl:=W8 g7
  cases z' with
  |none=>exact f2.elim
  |some q=>
   obtain⟨n',u0⟩:=q
   obtain⟨rfl,_,g3,e0,g4,g5⟩:=f2
   have hj:es[i]?=some e0:=by simpa using g4
   have hkey: ∀e,es[i]?=some e->e.key=k:=fun e he=>by rw[hj]at he;obtain rfl:=Option.some.inj he;exact g5
   refine⟨es.modify i fun e=> {e with key:=k,val:=u},ck,?_,MapKept.stamped_modify hst i _ (fun _ _=>rfl) (fun e _ he=>(hkey e he).symm),⟨by simp[hes.1],?_⟩,?_⟩
   ·simp[Instr.mapUpdate,run_underlying hu,MapKept.run_getObj_map hb,hck,f1,hj,g5,aQ3 hk,MapKept.run_setObj_map _ hb,Result.andThen]
   ·intro j e y he hy
    rw[Array.getElem?_modify]at he
    rw[List.getElem?_set]at hy
    by_cases hij:i=j
    ·subst hij
     rw[if_pos rfl]at he hy
     split at hy
     ·obtain rfl:=Option.some.inj hy
      rw[hj]at he
      simp at he
      subst he
      exact⟨v,[],rfl,hv,aF8 hk,.inl rfl⟩
     ·cases hy
    ·rw[if_neg hij]at he hy
     exact hes.2 j e y he hy
   ·intro hr j e y he hy
    rw[Array.getElem?_modify]at he
    rw[List.getElem?_set]at hy
    by_cases hij:i=j
    ·subst hij
     rw[if_pos rfl]at he hy
     split at hy
     ·obtain rfl:=Option.some.inj hy
      rw[hj]at he
      simp at he
      subst he
      exact⟨v,rfl⟩
     ·cases hy
    ·rw[if_neg hij]at he hy
     exact hr j e y he hy
 ·rename_i hq
  obtain rfl:=Option.some.inj hput
  obtain⟨z',f1,f2⟩:=hrun hes.lies hq
  have hno:=aGk hq
  have hent: ∀(j:Nat) (e:MapEntry) (y:AV),es[j]?=some e->xs[j]?=some y-> ∃v,y= .tup [.sc e.key,v]/\k≠e.key:=fun j e y he hy=>by
   obtain⟨v,r,rfl,_⟩:=hes.2 j e y he hy
   obtain⟨k',v',e1,e2⟩:=hno _ (List.mem_of_getElem? hy)
   simp only[AV.tup.injEq,List.cons.injEq,AV.sc.injEq]at e1
   obtain⟨rfl,rfl,rfl⟩:=e1
   exact⟨v,rfl,e2⟩
  cases z' with
  |some q=>exact f2.elim
  |none=>
   have hsplit: ∀(j:Nat) (e:MapEntry) (y:AV),(es.push ⟨k,u,ck⟩)[j]?=some e->(xs++ [.tup [.sc k,v]])[j]?=some y->(e=⟨k,u,ck⟩/\y= .tup [.sc k,v])\/(es[j]?=some e/\xs[j]?=some y):=fun j e y he hy=>by
    rw[Array.getElem?_push]at he
    by_cases hij:j=es.size
    ·subst hij
     rw[if_pos rfl]at he
     rw[hes.1,List.getElem?_append_right (Nat.le_refl _)]at hy
     simp at hy
     exact .inl ⟨(Option.some.inj he).symm,hy.symm⟩
    ·rw[if_neg hij]at he
     have hjl:=(Array.getElem?_eq_some_iff.1 he).1
     have:=hes.1
     rw[List.getElem?_append_left (by omega)]at hy
     exact .inr ⟨he,hy⟩
   refine⟨es.push ⟨k,u,ck⟩,ck+1,?_,MapKept.stamped_push hst (fun e he=>?_),⟨by simp[hes.1],fun j e y he hy=>?_⟩,fun _ j e y he hy=>?_⟩
   ·simp[Instr.mapUpdate,run_underlying hu,MapKept.run_getObj_map hb,hck,f1,MapKept.run_setObj_map _ hb,Result.andThen]
   ·obtain⟨j,hj⟩:=List.mem_iff_getElem?.1 he
    have hj':es[j]?=some e:=by simpa using hj
    have hjl:=(Array.getElem?_eq_some_iff.1 hj').1
    have:=hes.1
    obtain⟨_,_,g⟩:=hent j e xs[j] hj' (List.getElem?_eq_getElem (by omega))
    exact fun h=>g h.symm
   ·rcases hsplit j e y he hy with⟨rfl,rfl⟩|⟨he,hy⟩
    ·exact⟨v,[],rfl,hv,aF8 hk,.inl rfl⟩
    ·obtain⟨v',rfl,_⟩:=hent j e y he hy
     obtain⟨v2,r,e1,e2,e3,_⟩:=hes.2 j e _ he hy
     simp only[AV.tup.injEq,List.cons.injEq,true_and]at e1
     obtain⟨rfl,rfl⟩:=e1
     exact⟨v',[],rfl,e2,e3,.inl rfl⟩
   ·rcases hsplit j e y he hy with⟨rfl,rfl⟩|⟨he,hy⟩
    ·exact⟨v,rfl⟩
    ·obtain⟨v',rfl,_⟩:=hent j e y he hy
     exact⟨v',rfl⟩
 ·cases hput
theorem aQ5 {P:Program} [Glob P] {t kt0 ty:TypeId} {k:Value} (hk:gF P t k=true) {R:AV->Value->Prop} {es:Array MapEntry} {ck:Nat} {xs ys:List AV} (hes:EntS R es ck xs) (hst:tK es ck) (hdel:vH k xs=some ys) {w:World} {b:Nat} (hb:w.heap[b]?=some (.map es ck)):
 ∃es',(Builtin.delete_ #[t,kt0] ty #[.map (some b),k]).run P w= .ok (.tuple #[]) {w with heap:=w.heap.setIfInBounds b (.map es' ck)}/\tK es' ck/\EntS R es' ck ys/\ys.length<=xs.length:=by
 obtain⟨kt,et,hu,hck,hrun⟩:=X0 hk
 unfold vH at hdel
 split at hdel
 ·rename_i i v0 hq
  obtain rfl:=Option.some.inj hdel
  obtain⟨z',f1,f2⟩:=hrun hes.lies hq
  cases z' with
  |none=>exact f2.elim
  |some q=>
   obtain⟨n',u0⟩:=q
   obtain⟨rfl,_,g3,e0,g4,g5⟩:=f2
   have hj:es[i]?=some e0:=by simpa using g4
   have hil:i<es.size:=(Array.getElem?_eq_some_iff.1 hj).1
   have hls:(es.eraseIdxIfInBounds i).toList=es.toList.eraseIdx i:=by
    rw[Array.eraseIdxIfInBounds,dif_pos hil]
    simp
   refine⟨es.eraseIdxIfInBounds i,?_,MapKept.stamped_erase hst i,⟨?_,fun j e y he hy=>?_⟩,List.length_eraseIdx_le ..⟩
   ·simp[Builtin.delete_,run_underlying hu,MapKept.run_getObj_map hb,hck,f1,MapKept.run_setObj_map _ hb,Result.andThen]
   ·rw[<-Array.length_toList,hls,List.length_eraseIdx,List.length_eraseIdx,Array.length_toList,hes.1]
   ·rw[<-Array.getElem?_toList,hls,List.getElem?_eraseIdx]at he
    rw[List.getElem?_eraseIdx]at hy
    split at he
    ·rename_i hc;rw[if_pos hc]at hy;exact hes.2 j e y (by simpa using he) hy
    ·rename_i hc;rw[if_neg hc]at hy;exact hes.2 (j+1) e y (by simpa using he) hy
 ·rename_i hq
  obtain rfl:=Option.some.inj hdel
  obtain⟨z',f1,f2⟩:=hrun hes.lies hq
  cases z' with
  |some q=>exact f2.elim
  |none=>
   refine⟨es,?_,hst,hes,Nat.le_refl _⟩
   simp[Builtin.delete_,run_underlying hu,MapKept.run_getObj_map hb,hck,f1,MapKept.run_setObj_map _ hb,Result.andThen]
 ·cases hdel
theorem SR.turnMap {C F μ} {s:ASt} {a:Act} {w:World} (h:SR C F μ s a w) {L:Nat} {x:AObj} (hg:lk s.o L=some x) (hk1:x.kd=1) (he0:x.es=0) (hz:x.fz=false) {b cap:Nat} (hm:μ L=some (b,cap)) {es es':Array MapEntry} {ck ck':Nat} (hb:w.heap[b]?=some (.map es ck))
 {ys:List AV} (hl:ys.length<=dD) (hst:tK es' ck') (hes:EntS (mapR F (aE s.o μ) x.arr) es' ck' ys) (hr:x.arr=false-> ∀(j:Nat) (e:MapEntry) (z:AV),es'[j]?=some e->ys[j]?=some z-> ∃v,z= .tup [.sc e.key,v]):
 SR C F μ {s with o:=bR s.o L {x with xs:=ys}} a {w with heap:=w.heap.setIfInBounds b (.map es' ck')}:=by
 have hbl:b<w.heap.size:=gJ hb
 have h1: ∀p,bV {x with xs:=ys} p=bV x p:=fun p=>by simp[bV,hk1]
 have hloc:=pO (μ:=μ) hg h1
 refine⟨?_,h.defers,h.n,fun k z hk=>by rw[hloc];exact h.slot k z hk⟩
 refine h.sw.turn hg h1 rfl rfl hm hz (by exact hz) ⟨rfl,rfl,rfl,by simp,fun k hk hkb=>by simp only[Array.getElem?_setIfInBounds];rw[if_neg (fun q=>hkb q.symm)],Nat.le_refl _⟩ (by simp) ?_
 have hnew:({w with heap:=w.heap.setIfInBounds b (.map es' ck')}:World).heap[b]?=some (.map es' ck'):=by simp[hbl]
 cases ha:x.arr with
 |true=>
  rw[ha]at hes
  exact .inr (.inl ⟨hk1,rfl,hl,es',ck',hnew,⟨hes.1,hst⟩,hes.2⟩)
 |false=>
  rw[ha]at hes
  refine .inr (.inr ⟨hk1,rfl,_,hnew,?_⟩)
  show OddOf F _ x.es _ ys
  rw[he0]
  refine⟨hl,hes.1,hst,fun j e y he hy=>?_⟩
  obtain⟨v,rfl⟩:=hr ha j e y he hy
  obtain⟨v2,r,e1,e2,e3,_⟩:=hes.2 j e _ he hy
  simp only[AV.tup.injEq,List.cons.injEq,true_and]at e1
  obtain⟨rfl,rfl⟩:=e1
  exact⟨v,rfl,e2,e3⟩
def I7 (P:Program) [Glob P] (t:TypeId) (L:Nat) (k:Value) (v:AV) (s:ASt):Option ASt:=
 match share s v with
 |some (s1,v1)=>match lk s1.o L with
  |some x=>if gF P t k=true/\x.kd=1/\x.fz=false/\v1.pure=true/\x.es=0/\x.arr=true then match fC k v1 x.xs with
   |some ys=>if ys.length<=dD then some {s1 with o:=bR s1.o L {x with xs:=ys}} else none
   |none=>none
   else none
  |none=>none
 |none=>none
def zQ (P:Program) [Glob P] (t:TypeId) (L:Nat) (k:Value) (v:AV) (s:ASt) (x:AObj):Option ASt:=
 if gF P t k=true/\x.kd=1/\x.fz=false/\x.es=0/\x.arr=false then match fC k v x.xs with
  |some ys=>if ys.length<=dD then some {s with o:=bR s.o L {x with xs:=ys}} else none
  |none=>none
 else none
def oN (P:Program) [Glob P] (t:TypeId) (L:Nat) (k:Value) (v:AV) (s:ASt):Option AObj->Option ASt
 |some x=>match x.arr with
  |true=>I7 P t L k v s
  |false=>zQ P t L k v s x
 |none=>none
theorem aQ6 {P:Program} [Glob P] {C F μ} {s:ASt} {a:Act} {w:World} (h:SR C F μ s a w) {t:TypeId} {k:Value} {L:Nat} {v:AV} {m u:Value} (hm:RV F (aE s.o μ) (.mp L) m) (hv:RV F (aE s.o μ) v u) {r:ASt}
 (he:I7 P t L k v s=some r): ∃w' F' μ',(Instr.mapUpdate t m k u).run P w= .ok () w'/\SR C F' μ' r a w':=by
 unfold I7 at he
 split at he
 ·rename_i s1 v1 hsh
  obtain⟨F',b1,b2,b3,b4,b5⟩:=zF h hsh
  split at he
  ·rename_i x hg
   split at he
   ·rename_i hc
    obtain⟨hk,c1,c2,c3,c4,c5⟩:=hc
    split at he
    ·rename_i ys hput
     split at he
     ·rename_i hlen
      obtain rfl:=Option.some.inj he
      have hm':RV F' (aE s1.o μ) (.mp L) m:=by rw[b4];exact hm.mono b1
      have hu':RV (sh F') bU v1 u:=RV.share (b5 u hv) c3
      obtain⟨b,cap,es,ck,rfl,e2,k5,k8,k4,hes,_⟩:=vI b2 hm' hg c1 c4
      have hu2:mapR F' (aE s1.o μ) x.arr v1 u:=by rw[c5];exact hu'
      obtain⟨es',ck',g1,g2,g3,_⟩:=aGm hk hes k8 hput hu2 k5
      exact⟨_,F',μ,g1,b2.turnMap hg c1 c4 c2 e2 k5 hlen g2 g3 (fun h=>by rw[c5]at h;cases h)⟩
     ·cases he
    ·cases he
   ·cases he
  ·cases he
 ·cases he
theorem aQ7 {P:Program} [Glob P] {C F μ} {s:ASt} {a:Act} {w:World} (h:SR C F μ s a w) {t:TypeId} {k:Value} {L:Nat} {x:AObj} (hg:lk s.o L=some x) {v:AV} {m u:Value} (hm:RV F (aE s.o μ) (.mp L) m) (hv:RV F (aE s.o μ) v u) {r:ASt}
 (he:zQ P t L k v s x=some r): ∃w',(Instr.mapUpdate t m k u).run P w= .ok () w'/\SR C F μ r a w':=by
 unfold zQ at he
 split at he
 ·rename_i hc
  obtain⟨hk,c1,c2,c4,c5⟩:=hc
  split at he
  ·rename_i ys hput
   split at he
   ·rename_i hlen
    obtain rfl:=Option.some.inj he
    obtain⟨b,cap,es,ck,rfl,e2,k5,k8,k4,hes,hr⟩:=vI h hm hg c1 c4
    have hu2:mapR F (aE s.o μ) x.arr v u:=by rw[c5];exact hv
    obtain⟨es',ck',g1,g2,g3,g4⟩:=aGm hk hes k8 hput hu2 k5
    exact⟨_,g1,h.turnMap hg c1 c4 c2 e2 k5 hlen g2 g3 (fun _=>g4 (hr c5))⟩
   ·cases he
  ·cases he
 ·cases he
theorem aQ8 {P:Program} [Glob P] {C F μ} {s:ASt} {a:Act} {w:World} (h:SR C F μ s a w) {t:TypeId} {k:Value} {L:Nat} {v:AV} {m u:Value} (hm:RV F (aE s.o μ) (.mp L) m) (hv:RV F (aE s.o μ) v u) {r:ASt}
 (he:oN P t L k v s (lk s.o L)=some r): ∃w' F' μ',(Instr.mapUpdate t m k u).run P w= .ok () w'/\SR C F' μ' r a w':=by
 unfold oN at he
 split at he
 ·rename_i x hg
  split at he
  ·exact aQ6 h hm hv he
  ·obtain⟨w',h1,h2⟩:=aQ7 h hg hm hv he
   exact⟨w',F,μ,h1,h2⟩
 ·cases he
def vJ (P:Program) [Glob P] (t:TypeId) (L:Nat) (k:Value) (s:ASt):Option AObj->Option ASt
 |some x=>if gF P t k=true/\x.kd=1/\x.fz=false/\x.es=0/\x.arr=true then(vH k x.xs).map fun ys=> {s with o:=bR s.o L {x with xs:=ys}} else none
 |none=>none
theorem aQ9 {P:Program} [Glob P] {C F μ} {s:ASt} {a:Act} {w:World} (h:SR C F μ s a w) {t kt0 ty:TypeId} {k:Value} {L:Nat} {m:Value} (hm:RV F (aE s.o μ) (.mp L) m) {r:ASt}
 (he:vJ P t L k s (lk s.o L)=some r): ∃w',(Builtin.delete_ #[t,kt0] ty #[m,k]).run P w= .ok (.tuple #[]) w'/\SR C F μ r a w':=by
 unfold vJ at he
 split at he
 ·rename_i x hg
  split at he
  ·rename_i hc
   obtain⟨hk,c1,c2,c4,c5⟩:=hc
   simp only[Option.map_eq_some_iff]at he
   obtain⟨ys,hdel,rfl⟩:=he
   obtain⟨b,cap,es,ck,rfl,e2,k5,k8,k4,hes,_⟩:=vI h hm hg c1 c4
   obtain⟨es',g1,g2,g3,g4⟩:=aQ5 (kt0:=kt0) (ty:=ty) hk hes k8 hdel k5
   exact⟨_,g1,h.turnMap hg c1 c4 c2 e2 k5 (Nat.le_trans g4 k4) g2 g3 (fun h=>by rw[c5]at h;cases h)⟩
  ·cases he
 ·cases he
def zR (P:Program) [Glob P] (t:TypeId) (d:Nat) (s:ASt):Option AV->Option AV->Option St
 |some (.sc (.int _ l)),some (.sc (.int _ c))=>match cE P t with
  |some (e,es,by_)=>match aL P e with
   |some z=>if z.pure=true/\z.cells.length=es then some ⟨decide (d<s.n/\0<=l/\l<=c/\(by_:Int)*c<=281474976710656/\c<=140737488355328),s.fresh d (dF es (List.replicate l.toNat z)) (.ref d 0 l.toNat)⟩else none
   |none=>none
  |none=>none
 |_,_=>none
theorem aRa {z:Array Value} {n es i j:Nat} (hz:z.size=es) (hj:j<es) (hi:i<n):(madeCells z (n*es))[i*es+j]?=z[j]?:=by
 have hlt:i*es+j<n*es:=by
  have:(i+1)*es<=n*es:=Nat.mul_le_mul_right _ hi
  rw[Nat.add_mul]at this;omega
 simp only[madeCells,Array.getElem?_map,Array.getElem?_range,hlt,hz]
 have hm:(i*es+j) % es=j:=by rw[Nat.mul_comm,Nat.mul_add_mod];exact Nat.mod_eq_of_lt hj
 simp[hm,hz,hj]
theorem aRb {P:Program} [Glob P] {C F μ} {s:ASt} {a:Act} {w:World} (h:SR C F μ s a w) {t:TypeId} {d:Nat} {x y:AV} {vx vy:Value} (hx:RV F (aE s.o μ) x vx) (hy:RV F (aE s.o μ) y vy) {r:St}
 (he:zR P t d s (some x) (some y)=some r) (hn:r.need): ∃v w' μ',(Instr.makeSlice t vx vy).run P w= .ok v w'/\SR C F μ' r.st (a.put (some d) v) w':=by
 unfold zR at he
 split at he
 ·rename_i kl l kc c e1 e2
  obtain rfl:=Option.some.inj e1
  obtain rfl:=Option.some.inj e2
  cases hx
  cases hy
  split at he
  ·rename_i e es by_ ht
   split at he
   ·rename_i z hz
    split at he
    ·rename_i hc
     obtain⟨c1,c2⟩:=hc
     obtain rfl:=Option.some.inj he
     obtain⟨n1,n2,n3,n4,n5⟩:=of_decide_eq_true hn
     obtain⟨hu,hs,i,hi,rfl,rfl⟩:=gV ht w
     have hu':P.underlying t=some (.slice e):=by
      unfold cE at ht
      split at ht
      ·rename_i e' hu'
       cases hi':P.info? e' with
       |none=>simp[hi']at ht
       |some i'=>simp[hi']at ht;rw[hu',ht.1]
      ·cases ht
     unfold aL dQ at hz
     rw[hi]at hz
     simp only[Option.bind_some]at hz
     cases hzv:i.zero with
     |none=>simp[hzv]at hz
     |some zv=>
      simp only[hzv,Option.bind_some]at hz
      have hrz:RV (sh F) bU z zv:=rS hz
      have hcv:=hrz.cv (H8 c1)
      have hzs:zv.cells.size=i.size:=by rw[<-hcv.len];exact c2
      have hrun:=run_make (P:=P) w t e i zv hu' hi hzv kl kc l c n2 n3 n4 (by omega)
      refine⟨_,_,bJ μ d (some (w.heap.size,c.toNat)),hrun,?_⟩
      refine h.fresh (x:=dF i.size (List.replicate l.toNat z)) (c:=madeCells zv.cells (c.toNat*i.size)) (cap:=c.toNat) n1 ⟨size_madeCells _ _,by simp[dF];omega,by simp[dF,dD];omega,fun y hy=>by rw[(List.mem_replicate.1 hy).2];exact c2,fun i' y j a' hy hj=>?_,rfl,rfl,.inl rfl⟩ ?_ fun loc hl=>?_
      ·obtain⟨hi',rfl⟩:=List.getElem?_eq_some_iff.1 hy
       simp[dF]at hi'
       have hyz:(dF i.size (List.replicate l.toNat z)).xs[i']=z:=by simp[dF]
       rw[hyz]at hj
       have hjl:j<i.size:=by rw[<-c2];exact(List.getElem?_eq_some_iff.1 hj).1
       have hjs:j<zv.cells.size:=by omega
       refine⟨zv.cells[j],?_,hcv.one j _ (by simp[hjs]),hcv.rv j a' _ hj (by simp[hjs])⟩
       show(madeCells zv.cells (c.toNat*i.size))[i'*i.size+j]?=_
       rw[aRa hzs hjl (by omega)]
       simp[hjs]
      ·rw[Bool.eq_false_iff]
       intro hh
       obtain⟨i',y,hy,hL⟩:=kP hh
       rw[(List.mem_replicate.1 (List.mem_of_getElem? hy)).2]at hL
       exact hrz.noloc_has (fun _=>rfl) d hL
      ·exact @RV.ref F loc d 0 l.toNat w.heap.size c.toNat i.size _ 0 c.toNat (by rw[hl];rfl) (by simp[dF]) (by omega) (fun _=>by simp) (fun _=>rfl)
    ·cases he
   ·cases he
  ·cases he
 ·cases he
end Go.Ab
namespace Go.Ab
open Go.RowKit
theorem SR.layRow {C F μ} {s:ASt} {a:Act} {w:World} (h:SR C F μ s a w) {L:Nat} {x:AObj} (hg:lk s.o L=some x) {b cap:Nat} (hm:μ L=some (b,cap)) (hk:x.kd≠1) (hz:x.fz=false) (har:x.arr=true)
 {ys:List AV} {cs:List Value} (he:ERow F ys x.es cs) {lo:Nat} (ho:lo+ys.length<=x.xs.length) {P:Program} [Glob P]:
 ∃w',(storeCells ⟨b,lo*x.es,none⟩ cs).run P w= .ok () w'/\SR C F μ {s with o:=bR s.o L {x with xs:=splice x.xs ys lo}} a w':=by
 have hob:=h.sw.obj L x hg
 rw[hm]at hob
 obtain⟨c,ty,q1,q2,q3,q4,q5,q6,q7⟩:=hob.std hk
 obtain⟨r1,r2,r3,r4⟩:=he
 have hmul:(lo+ys.length)*x.es<=cap*x.es:=Nat.mul_le_mul_right _ (by omega)
 rw[Nat.add_mul]at hmul
 have hfit:lo*x.es+0+cs.length<=c.size:=by omega
 have hrun:=run_storeCells_at (P:=P) b (lo*x.es) ty cs 0 c w q1 hfit r3
 let c':=(c.toList.take (lo*x.es+0)++cs++c.toList.drop (lo*x.es+0+cs.length)).toArray
 have hc'size:c'.size=c.size:=by
  simp only[c',List.size_toArray,List.length_append,List.length_take,List.length_drop,Array.length_toList]
  omega
 have hc'lk: ∀k,c'[k]?=if lo*x.es<=k/\k<lo*x.es+cs.length then cs[k - lo*x.es]? else c[k]?:=by
  intro k
  have:=xA (cs:=c.toList) (ds:=cs) (off:=lo*x.es) (by simp;omega) k
  simp only[splice]at this
  simp only[c',Nat.add_zero,List.getElem?_toArray]
  rw[this]
  simp
 have hheap:(w.setRow b c').heap[b]?=some (.cells c' ty (0,0)):=setRow_heap w b c c' ty (0,0) q1
 have hlen:(splice x.xs ys lo).length=x.xs.length:=H3 ho
 have hloc:=pO (μ:=μ) (x':= {x with xs:=splice x.xs ys lo}) hg (fun p=>nE (x:= {x with xs:=splice x.xs ys lo}) (y:=x) rfl hlen rfl p)
 refine⟨w.setRow b c',hrun,?_⟩
 refine⟨?_,h.defers,h.n,fun k z hk=>by rw[hloc];exact h.slot k z hk⟩
 refine h.sw.turn hg (fun p=>nE (x:= {x with xs:=splice x.xs ys lo}) (y:=x) rfl hlen rfl p) rfl rfl hm hz (by exact hz) ⟨rfl,rfl,rfl,by simp,fun k hk hkb=>setRow_other w b k c' hkb,Nat.le_refl _⟩ (by simp) ?_
 have hel: ∀(i:Nat) (y:AV),(splice x.xs ys lo)[i]?=some y->(lo<=i/\i<lo+ys.length/\ys[i - lo]?=some y)\/(¬(lo<=i/\i<lo+ys.length)/\x.xs[i]?=some y):=by
  intro i y hy
  rw[xA ho]at hy
  split at hy
  ·rename_i hc;exact .inl ⟨hc.1,hc.2,hy⟩
  ·rename_i hc;exact .inr ⟨hc,hy⟩
 refine .inl ⟨c',ty,hheap,by rw[hc'size];exact q2,by show(splice x.xs ys lo).length<=cap;omega,by show(splice x.xs ys lo).length<=dD;omega,?_,?_,q7⟩
 ·intro y hy
  obtain⟨i,hi⟩:=List.getElem?_of_mem hy
  rcases hel i y hi with⟨_,_,g⟩|⟨_,g⟩
  ·exact r2 y (List.mem_of_getElem? g)
  ·exact q5 y (List.mem_of_getElem? g)
 ·intro i y j a' hy hj
  change ∃v,c'[i*x.es+j]?=some v/\one v=true/\RV (oF x.arr F) (oL x.arr (aE s.o μ)) a' v/\(x.fz=true->F false b (i*x.es+j)=some v)
  rcases hel i y hy with⟨g1,g2,g⟩|⟨g1,g⟩
  ·have hjl:j<x.es:=by rw[<-r2 y (List.mem_of_getElem? g)];exact(List.getElem?_eq_some_iff.1 hj).1
   obtain⟨v,e1,e2⟩:=r4 (i - lo) y j a' g hj
   have m1:lo*x.es<=i*x.es:=Nat.mul_le_mul_right _ g1
   have m2:i*x.es - lo*x.es=(i - lo)*x.es:=(Nat.sub_mul _ _ _).symm
   have hlt:(i - lo)*x.es+j<cs.length:=(List.getElem?_eq_some_iff.1 e1).1
   refine⟨v,?_,r3 v (List.mem_of_getElem? e1),by simpa[oF,oL,har]using e2,fun hf=>by rw[hz]at hf;cases hf⟩
   rw[hc'lk,if_pos ⟨by omega,by omega⟩,show i*x.es+j - lo*x.es=(i - lo)*x.es+j by omega]
   exact e1
  ·obtain⟨v,e1,e2,e3,e4⟩:=q6 i y j a' g hj
   refine⟨v,?_,e2,e3,e4⟩
   have hjl:j<x.es:=by rw[<-q5 y (List.mem_of_getElem? g)];exact(List.getElem?_eq_some_iff.1 hj).1
   rw[hc'lk,if_neg ?_]
   ·exact e1
   ·rw[r1]
    rcases Nat.lt_or_ge i lo with hl|hl
    ·have:(i+1)*x.es<=lo*x.es:=Nat.mul_le_mul_right _ hl
     rw[Nat.add_mul]at this;omega
    ·have:(lo+ys.length)*x.es<=i*x.es:=Nat.mul_le_mul_right _ (by omega)
     rw[Nat.add_mul]at this;omega
theorem SW.same {C F μ} {o o':aF} {w:World} (h:SW C F μ o w) (e: ∀L,lk o' L=lk o L):SW C F μ o' w:=by
 have hl:aE o' μ=aE o μ:=funext fun L=>by simp[aE,e]
 refine⟨h.facts,h.sub,h.lentc,h.grow,h.newf,h.fr,fun L x hx=>?_,fun L x L' x' b c c' h1 h2=>?_,fun L x b c h1=>?_,fun L x b c h1=>?_,fun L x x0 h0 h1=>?_⟩
 ·rw[hl];exact h.obj L x (by rw[<-e];exact hx)
 ·exact h.dist L x L' x' b c c' (by rw[<-e];exact h1) (by rw[<-e];exact h2)
 ·exact h.excl L x b c (by rw[<-e];exact h1)
 ·exact h.mine L x b c (by rw[<-e];exact h1)
 ·exact h.keep L x x0 h0 (by rw[<-e];exact h1)
def vL (L:Nat):AV->AV
 | .rc L' lo n c=> .rc L' lo n c
 |a=>kill1 L a
def ASt.renewR (s:ASt) (L:Nat) (x:AObj):ASt:= {n:=s.n,t:=s.t.map (fun p=>(p.1,vL L p.2)),o:=(L,x)::killO L (killO L (cK s.o L))}
def tX (k:Nat):AV->AV
 | .rc L lo n c=> .rc L lo (min n k) c
 |a=>a
def X1 (P:Program) [Glob P] (st:TypeId) (L lo n c:Nat) (b:AV) (d:Nat) (s:ASt):Option St:=
 match cE P st,mC s.o (tX n b),lk s.o L with
 |some (_,es,_),some ys,some x=>if x.arr=true/\x.fz=false/\x.pin=false/\x.kd≠1 then
  some ⟨decide (d<s.n/\(∀y∈ys,y.cells.length=es)/\x.es=es/\ys.length<=n/\ys≠ []/\lo<=x.xs.length/\lo+ys.length<=c/\lo+ys.length<=dD),(s.renewR L {x with xs:=splice x.xs ys lo}).put d (nt .i64 ys.length)⟩
  else none
 |_,_,_=>none
theorem aRc {α:Type} {cs ds:List α} {off:Nat} (h:off<=cs.length) (i:Nat):(splice cs ds off)[i]?=if off<=i/\i<off+ds.length then ds[i - off]? else cs[i]?:=by
 unfold splice
 have ht:(cs.take off).length=off:=by simp;omega
 by_cases h1:i<off
 ·rw[if_neg (by omega),List.append_assoc,List.getElem?_append_left (by omega),List.getElem?_take,if_pos h1]
 ·rw[List.append_assoc,List.getElem?_append_right (by omega),ht]
  by_cases h2:i<off+ds.length
  ·rw[if_pos ⟨by omega,h2⟩,List.getElem?_append_left (by omega)]
  ·rw[if_neg (by omega),List.getElem?_append_right (by omega),List.getElem?_drop]
   congr 1;omega
theorem aRd {α:Type} {cs ds:List α} {off:Nat} (h:off<=cs.length):(splice cs ds off).length=max cs.length (off+ds.length):=by
 simp[splice];omega
theorem aRe (L:Nat) (a:AV):kill1 L (kill1 L a)=kill1 L a:=by
 have hk: ∀a,kl L (kl L a)=kl L a:=fun a=>by
  have hkt: ∀a:AV,a.has L=false->kt L a=a:=fun a ha=>by unfold kt;rw[if_neg (by rw[ha];simp)]
  have hkm: ∀cs:List AV,AV.hasL L cs=false->cs.map (kt L)=cs:=fun cs=>by
   induction cs with
   |nil=>intro _;rfl
   |cons c cs ih=>
    intro h
    simp only[AV.hasL,Bool.or_eq_false_iff]at h
    rw[List.map_cons,hkt c h.1,ih h.2]
  have e: ∀b:AV,b.has L=false->kl L b=b:=fun b hb=>by
   cases b with
   |tup cs=>simp only[kl];rw[hkm cs (by simpa[AV.has]using hb)]
   |_=>exact hkt _ hb
  exact e _ (U7 L a)
 cases ha:a.isAgg with
 |true=>
  cases a with
  |agg cs=>simp only[kill1,List.map_map];congr 1;exact List.map_congr_left fun x _=>hk x
  |_=>simp[AV.isAgg]at ha
 |false=>
  have h1:kill1 L a=kl L a:=by cases a<;>first|rfl|(simp[AV.isAgg]at ha)
  rw[h1]
  have h2:kill1 L (kl L a)=kl L (kl L a):=by
   have:=aFa (L:=L) ha
   generalize kl L a=b at this
   cases b<;>first|rfl|(simp[AV.isAgg]at this)
  rw[h2,hk]
theorem SR.layR {C F μ} {s:ASt} {a:Act} {w:World} (h:SR C F μ s a w) {L:Nat} {x:AObj} (hg:lk s.o L=some x) {b cap:Nat} (hm:μ L=some (b,cap)) (hk:x.kd≠1) (hz:x.fz=false) (hp:x.pin=false) (har:x.arr=true)
 {ys:List AV} {cs:List Value} (he:ERow F ys x.es cs) {lo:Nat} (ho:lo<=x.xs.length) (hc:lo+ys.length<=cap) (hrow:lo+ys.length<=dD) {P:Program} [Glob P]:
 ∃w',(storeCells ⟨b,lo*x.es,none⟩ cs).run P w= .ok () w'/\SR C F μ (s.renewR L {x with xs:=splice x.xs ys lo}) a w':=by
 have hob:=h.sw.obj L x hg
 rw[hm]at hob
 obtain⟨c,ty,q1,q2,q3,q4,q5,q6,q7⟩:=hob.std hk
 obtain⟨r1,r2,r3,r4⟩:=he
 have hmul:(lo+ys.length)*x.es<=cap*x.es:=Nat.mul_le_mul_right _ hc
 rw[Nat.add_mul]at hmul
 have hfit:lo*x.es+0+cs.length<=c.size:=by omega
 have hrun:=run_storeCells_at (P:=P) b (lo*x.es) ty cs 0 c w q1 hfit r3
 let c':=(c.toList.take (lo*x.es+0)++cs++c.toList.drop (lo*x.es+0+cs.length)).toArray
 have hc'size:c'.size=c.size:=by
  simp only[c',List.size_toArray,List.length_append,List.length_take,List.length_drop,Array.length_toList]
  omega
 have hc'lk: ∀k,c'[k]?=if lo*x.es<=k/\k<lo*x.es+cs.length then cs[k - lo*x.es]? else c[k]?:=by
  intro k
  have:=xA (cs:=c.toList) (ds:=cs) (off:=lo*x.es) (by simp;omega) k
  simp only[splice]at this
  simp only[c',Nat.add_zero,List.getElem?_toArray]
  rw[this]
  simp
 have hheap:(w.setRow b c').heap[b]?=some (.cells c' ty (0,0)):=setRow_heap w b c c' ty (0,0) q1
 have hlen:(splice x.xs ys lo).length=max x.xs.length (lo+ys.length):=aRd ho
 have hel: ∀(i:Nat) (y:AV),(splice x.xs ys lo)[i]?=some y->(lo<=i/\i<lo+ys.length/\ys[i - lo]?=some y)\/(¬(lo<=i/\i<lo+ys.length)/\x.xs[i]?=some y):=by
  intro i y hy
  rw[aRc ho]at hy
  split at hy
  ·rename_i hc;exact .inl ⟨hc.1,hc.2,hy⟩
  ·rename_i hc;exact .inr ⟨hc,hy⟩
 have hobj:lF F bU (w.setRow b c') {x with xs:=splice x.xs ys lo} (some (b,cap)):=by
  refine .inl ⟨c',ty,hheap,by rw[hc'size];exact q2,by show(splice x.xs ys lo).length<=cap;omega,by show(splice x.xs ys lo).length<=dD;omega,?_,?_,q7⟩
  ·intro y hy
   obtain⟨i,hi⟩:=List.getElem?_of_mem hy
   rcases hel i y hi with⟨_,_,g⟩|⟨_,g⟩
   ·exact r2 y (List.mem_of_getElem? g)
   ·exact q5 y (List.mem_of_getElem? g)
  ·intro i y j a' hy hj
   change ∃v,c'[i*x.es+j]?=some v/\one v=true/\RV (oF x.arr F) (oL x.arr bU) a' v/\(x.fz=true->F false b (i*x.es+j)=some v)
   rcases hel i y hy with⟨g1,g2,g⟩|⟨g1,g⟩
   ·have hjl:j<x.es:=by rw[<-r2 y (List.mem_of_getElem? g)];exact(List.getElem?_eq_some_iff.1 hj).1
    obtain⟨v,e1,e2⟩:=r4 (i - lo) y j a' g hj
    have m1:lo*x.es<=i*x.es:=Nat.mul_le_mul_right _ g1
    have m2:i*x.es - lo*x.es=(i - lo)*x.es:=(Nat.sub_mul _ _ _).symm
    have hlt:(i - lo)*x.es+j<cs.length:=(List.getElem?_eq_some_iff.1 e1).1
    refine⟨v,?_,r3 v (List.mem_of_getElem? e1),by simpa[oF,oL,har]using e2,fun hf=>by rw[hz]at hf;cases hf⟩
    rw[hc'lk,if_pos ⟨by omega,by omega⟩,show i*x.es+j - lo*x.es=(i - lo)*x.es+j by omega]
    exact e1
   ·obtain⟨v,e1,e2,e3,e4⟩:=q6 i y j a' g hj
    refine⟨v,?_,e2,by simpa[oF,oL,har]using e3,e4⟩
    have hjl:j<x.es:=by rw[<-q5 y (List.mem_of_getElem? g)];exact(List.getElem?_eq_some_iff.1 hj).1
    rw[hc'lk,if_neg ?_]
    ·exact e1
    ·rw[r1]
     rcases Nat.lt_or_ge i lo with hl|hl
     ·have:(i+1)*x.es<=lo*x.es:=Nat.mul_le_mul_right _ hl
      rw[Nat.add_mul]at this;omega
     ·have:(lo+ys.length)*x.es<=i*x.es:=Nat.mul_le_mul_right _ (by omega)
      rw[Nat.add_mul]at this;omega
 have h0:=h.renew0x (w':=w.setRow b c') (L:=L) (T:=L) (x:= {x with xs:=splice x.xs ys lo}) (p:=some (b,cap)) hz hp ⟨rfl,rfl,rfl,by simp,fun k hk hkb=>setRow_other w b k c' (fun e=>hkb ⟨x,cap,hg,hz,by rw[hm,e]⟩),Nat.le_refl _⟩ hobj
  (fun b' c'' hbc=>by simp at hbc;obtain⟨rfl,rfl⟩:=hbc;exact .inr ⟨x,cap,hg,hz,hm⟩)
 have hμ:bJ μ L (some (b,cap))=μ:=by
  funext i;unfold bJ;split
  ·rename_i e;rw[e,hm]
  ·rfl
 rw[hμ]at h0
 refine⟨w.setRow b c',hrun,h0.sw,h0.defers,h0.n,fun k y hy=>?_⟩
 have hy':lk (s.t.map (fun p=>(p.1,vL L p.2))) k=some y:=hy
 rw[vE]at hy'
 simp only[Option.map_eq_some_iff]at hy'
 obtain⟨z,hz',rfl⟩:=hy'
 have hold:=h.slot k z hz'
 have hnew:RV F (aE (s.renewR L {x with xs:=splice x.xs ys lo}).o μ) (kill1 L z) (a.tmps.getD k undef):=by
  refine h0.slot k (kill1 L z) ?_
  show lk (gE L (gE L s.t)) k=some (kill1 L z)
  rw[zC,zC,hz']
  simp[aRe]
 cases z with
 |rc L' lo' n' c''=>
  by_cases hL:L'=L
  ·subst hL
   show RV _ _ (.rc L' lo' n' c'') _
   generalize hv:a.tmps.getD k undef=v at hold
   cases hold with
   | @rc _ _ _ _ _ b2 cap2 es2 len2 o2 g1 g2 g3=>
    simp only[aE,hg,Option.map_some]at g1
    obtain⟨hm2,rfl,rfl,hk1⟩:=fB (Option.some.inj g1)
    refine .rc (len:=(splice x.xs ys lo).length) ?_ g2 g3
    show aE ((L',{x with xs:=splice x.xs ys lo})::_) μ L'=_
    simp only[aE,lk,if_true,Option.map_some]
    rw[lE (x:= {x with xs:=splice x.xs ys lo}) hk1,hm2]
  ·have:kill1 L (.rc L' lo' n' c'')= .rc L' lo' n' c'':=by
    simp only[kill1,kl,kt]
    rw[if_neg (by simp[AV.has];exact fun e=>hL e.symm)]
   rw[this]at hnew
   exact hnew
 |_=>exact hnew
theorem aRf {P:Program} [Glob P] {C F μ} {s:ASt} {a:Act} {w:World} (h:SR C F μ s a w) {st xt ty:TypeId} {d L lo n c:Nat} {y:AV} {vx vy:Value} (hx:RV F (aE s.o μ) (.rc L lo n c) vx) (hy:RV F (aE s.o μ) y vy) {r:St}
 (he:X1 P st L lo n c y d s=some r) (hn:r.need): ∃v w',(Builtin.copy_ #[st,xt] ty #[vx,vy]).run P w= .ok v w'/\SR C F μ r.st (a.put (some d) v) w':=by
 unfold X1 at he
 split at he
 ·rename_i e es by_ ys xo ht hs hg
  split at he
  ·rename_i hcnd
   obtain⟨c1,c2,c3,c4⟩:=hcnd
   obtain rfl:=Option.some.inj he
   obtain⟨n1,n2,rfl,n4,n5,n6,n7,n8⟩:=of_decide_eq_true hn
   obtain⟨hu,hsz,_⟩:=gV ht w
   have hsrc: ∃cs m,ERow F ys xo.es cs/\(Builtin.lenOf vy).run P w= .ok m w/\Nat.min m n=ys.length/\(Builtin.firstCells xo.es ys.length vy).run P w= .ok cs.toArray w:=by
    cases hyy:tX n y with
    |rc L2 lo2 nn c2'=>
     obtain⟨n3,hye,hn2⟩: ∃n2',y= .rc L2 lo2 n2' c2'/\nn=min n2' n:=by
      cases y<;>simp[tX]at hyy
      obtain⟨rfl,rfl,rfl,rfl⟩:=hyy
      exact⟨_,rfl,rfl⟩
     subst hye
     rw[hyy]at hs
     cases hy with
     | @rc _ _ _ _ _ b2 cap2 es2 len2 o2 g1 g2 g3=>
      have ht':RV F (aE s.o μ) (.rc L2 lo2 nn c2') (.slice (some ⟨b2,o2,none⟩) nn (c2' - lo2)):= .rc g1 (by omega) g3
      obtain⟨hsrc,cs,hrow,hload⟩:=tT (P:=P) h.sw hs ht' n2
      have hl:=hsrc.len (P:=P) w
      have hyl:ys.length=nn:=by
       simp[Builtin.lenOf]at hl;exact hl.symm
      refine⟨cs,n3,hrow,by simp[Builtin.lenOf],by rw[hyl,hn2],?_⟩
      simpa[Builtin.firstCells]using hload
    |_=>
     have hyt:tX n y=y:=by cases y<;>first|rfl|(simp[tX]at hyy)
     rw[hyt]at hs
     obtain⟨hsrc,cs,hrow,hload⟩:=tT (P:=P) h.sw hs hy n2
     exact⟨cs,ys.length,hrow,hsrc.len (P:=P) w,Nat.min_eq_left n4,hload⟩
   obtain⟨cs,m,hrow,hl,hmin,hload⟩:=hsrc
   cases hx with
   | @rc _ _ _ _ _ b cap es' len' o g g1 g2=>
    simp only[aE,hg,Option.map_some]at g
    obtain⟨hm,rfl,rfl,hk1⟩:=fB (Option.some.inj g)
    have hpos:0<ys.length:=List.length_pos_iff.2 n5
    have ho:o=lo*xo.es:=g2 (.inr (by omega))
    subst ho
    obtain⟨w',k1,k2⟩:=h.layR hg hm c4 c2 c3 c1 hrow n6 n7 n8 (P:=P)
    refine⟨_,w',?_,k2.put n1 (.sc rfl)⟩
    simp[Builtin.copy_,hu,hsz,hl,hmin,hload,k1,goInt]
  ·cases he
 ·cases he
def X2 (P:Program) [Glob P] (st:TypeId) (a b:AV) (d:Nat) (s:ASt):Option St:=
 match a with
 | .rc L lo n c=>X1 P st L lo n c b d s
 |_=>
 match cE P st,mC s.o b,a with
 |some (e,es,_),some ys,.ref L lo n=>match lk s.o L with
  |some x=>if x.arr=true/\x.fz=false/\x.kd≠1 then
   some ⟨decide (d<s.n/\(∀y∈ys,y.cells.length=es)/\x.es=es/\ys.length<=n/\(ys≠ []\/lo=0)/\lo+n<=x.xs.length),{s with o:=bR s.o L {x with xs:=splice x.xs ys lo}}.put d (nt .i64 ys.length)⟩
   else none
  |none=>none
 |_,_,_=>none
theorem aRg {P:Program} [Glob P] {C F μ} {s:ASt} {a:Act} {w:World} (h:SR C F μ s a w) {st xt ty:TypeId} {d:Nat} {x y:AV} {vx vy:Value} (hx:RV F (aE s.o μ) x vx) (hy:RV F (aE s.o μ) y vy) {r:St}
 (he:X2 P st x y d s=some r) (hn:r.need): ∃v w',(Builtin.copy_ #[st,xt] ty #[vx,vy]).run P w= .ok v w'/\SR C F μ r.st (a.put (some d) v) w':=by
 unfold X2 at he
 split at he
 ·exact aRf h hx hy he hn
 split at he
 ·rename_i e es by_ ys L lo n ht hs hxx
  split at he
  ·rename_i xo hg
   split at he
   ·rename_i hc
    obtain⟨c1,c2,c3⟩:=hc
    obtain rfl:=Option.some.inj he
    obtain⟨n1,n2,rfl,n4,n5,n6⟩:=of_decide_eq_true hn
    obtain⟨hsrc,cs,hrow,hload⟩:=tT (P:=P) h.sw hs hy n2
    obtain⟨hu,hsz,_⟩:=gV ht w
    have hl:=hsrc.len (P:=P) w
    have hmin:Nat.min ys.length n=ys.length:=Nat.min_eq_left n4
    generalize hloc:aE s.o μ=loc at hx
    cases hx with
    | @refNil _ _ _ es' len' base g=>
     rw[<-hloc]at g
     simp only[aE,hg,Option.map_some]at g
     obtain⟨hm,rfl,rfl,hk1⟩:=fB (Option.some.inj g)
     have ho:=h.sw.obj L xo hg
     rw[hm]at ho
     have hx0:xo.xs= []:=ho
     obtain rfl:ys= []:=List.length_eq_zero_iff.1 (by omega)
     obtain rfl:cs= []:=List.length_eq_zero_iff.1 (by rw[hrow.1];simp)
     have hxx: {xo with xs:=splice xo.xs [] 0}=xo:=by obtain⟨ar,fz,pin,es,xs,kd⟩:=xo;simp at hx0;subst hx0;simp[splice]
     have hsr:SR C F μ {s with o:=bR s.o L {xo with xs:=splice xo.xs [] 0}} a w:=by
      rw[hxx]
      have e: ∀L',lk (bR s.o L xo) L'=lk s.o L':=fun L'=>by
       rw[nJ]
       split
       ·rename_i q;subst q;exact hg.symm
       ·rfl
      have hl':aE (bR s.o L xo) μ=aE s.o μ:=funext fun L=>by simp[aE,e]
      exact⟨h.sw.same e,h.defers,h.n,fun k z hk=>by rw[hl'];exact h.slot k z hk⟩
     refine⟨_,w,?_,hsr.put n1 (.sc rfl)⟩
     have hl0:(Builtin.lenOf vy).run P w= .ok 0 w:=hl
     have hload0:(Builtin.firstCells xo.es 0 vy).run P w= .ok #[] w:=hload
     cases base<;>simp[Builtin.copy_,hu,hsz,hl0,hload0,goInt,storeCells]
    | @ref _ _ _ _ _ b cap es' len' o c g g1 g2 g3 g4=>
     rw[<-hloc]at g
     simp only[aE,hg,Option.map_some]at g
     obtain⟨hm,rfl,rfl,hk1⟩:=fB (Option.some.inj g)
     have ho:o=lo*xo.es:=g3 (n5.elim (fun q=> .inl (by have:=List.length_pos_iff.2 q;omega)) .inr)
     subst ho
     obtain⟨w',k1,k2⟩:=h.layRow hg hm c3 c2 c1 hrow (lo:=lo) (by omega) (P:=P)
     refine⟨_,w',?_,k2.put n1 (.sc rfl)⟩
     simp[Builtin.copy_,hu,hsz,hl,hmin,hload,k1,goInt]
   ·cases he
  ·cases he
 ·cases he
def qR (P:Program) [Glob P] (t:TypeId) (s:ASt):Option AV->Option St
 |some (.ref L lo n)=>match cE P t with
  |some (e,es,_)=>match aL P e,lk s.o L with
   |some z,some x=>if x.arr=true/\x.fz=false/\x.kd≠1/\z.pure=true/\z.cells.length=es then
    some ⟨decide (x.es=es/\lo+n<=x.xs.length),{s with o:=bR s.o L {x with xs:=splice x.xs (List.replicate n z) lo}}⟩else none
   |_,_=>none
  |none=>none
 |_=>none
theorem zeroCells_get {z:Array Value} {n es i j:Nat} (hz:z.size=es) (hj:j<es) (hi:i<n):(Builtin.zeroCells z n)[i*es+j]?=z[j]?:=by
 have hlt:i*es+j<n*es:=by
  have:(i+1)*es<=n*es:=Nat.mul_le_mul_right _ hi
  rw[Nat.add_mul]at this;omega
 simp only[Builtin.zeroCells,Array.getElem?_map,Array.getElem?_range,hz,hlt]
 have hm:(i*es+j) % es=j:=by rw[Nat.mul_comm,Nat.mul_add_mod];exact Nat.mod_eq_of_lt hj
 simp[hm,hz,hj]
theorem aRh {P:Program} [Glob P] {C F μ} {s:ASt} {a:Act} {w:World} (h:SR C F μ s a w) {t ty:TypeId} {x:AV} {vx:Value} (hx:RV F (aE s.o μ) x vx) {r:St}
 (he:qR P t s (some x)=some r) (hn:r.need): ∃w',(Builtin.clear_ #[t] ty #[vx]).run P w= .ok (.tuple #[]) w'/\SR C F μ r.st a w':=by
 unfold qR at he
 split at he
 ·rename_i L lo n hxe
  obtain rfl:=Option.some.inj hxe
  split at he
  ·rename_i e es by_ ht
   have hu':P.underlying t=some (.slice e):=by
    unfold cE at ht
    split at ht
    ·rename_i e' hu'
     cases hi':P.info? e' with
     |none=>simp[hi']at ht
     |some i'=>simp[hi']at ht;rw[hu',ht.1]
    ·cases ht
   split at he
   ·rename_i z xo hz hg
    split at he
    ·rename_i hc
     obtain⟨c1,c2,c3,c4,c5⟩:=hc
     obtain rfl:=Option.some.inj he
     obtain⟨rfl,n2⟩:=of_decide_eq_true hn
     unfold aL at hz
     cases hzv:dQ P e with
     |none=>simp[hzv]at hz
     |some zv=>
      simp only[hzv,Option.bind_some]at hz
      have hrz:RV (sh F) bU z zv:=rS hz
      have hcv:=hrz.cv (H8 c4)
      have hzs:zv.cells.size=xo.es:=by rw[<-hcv.len];exact c5
      by_cases hn0:n=0
      ·subst hn0
       have hxx: {xo with xs:=splice xo.xs (List.replicate 0 z) lo}=xo:=by obtain⟨ar,fz,pin,es,xs,kd⟩:=xo;simp[splice]
       have hsr:SR C F μ {s with o:=bR s.o L {xo with xs:=splice xo.xs (List.replicate 0 z) lo}} a w:=by
        rw[hxx]
        have e: ∀L',lk (bR s.o L xo) L'=lk s.o L':=fun L'=>by
         rw[nJ]
         split
         ·rename_i q;subst q;exact hg.symm
         ·rfl
        have hl':aE (bR s.o L xo) μ=aE s.o μ:=funext fun L=>by simp[aE,e]
        exact⟨h.sw.same e,h.defers,h.n,fun k z hk=>by rw[hl'];exact h.slot k z hk⟩
       refine⟨w,?_,hsr⟩
       generalize aE s.o μ=loc at hx
       cases hx with
       | @refNil _ _ _ _ _ base _=>cases base<;>simp[Builtin.clear_,jW hu']
       |ref=>simp[Builtin.clear_,jW hu']
      ·have hrow:ERow F (List.replicate n z) xo.es (Builtin.zeroCells zv.cells n).toList:=by
        refine⟨by simp[zeroCells_size,hzs],fun y hy=>by rw[(List.mem_replicate.1 hy).2];exact c5,fun v hv=>?_,fun i y j a' hy hj=>?_⟩
        ·simp only[Builtin.zeroCells,Array.toList_map,List.mem_map]at hv
         obtain⟨k,hk,rfl⟩:=hv
         have hk':k<n*zv.cells.size:=by simpa using hk
         have hpos:0<zv.cells.size:=by
          rcases Nat.eq_zero_or_pos zv.cells.size with h0|h0
          ·rw[h0]at hk';simp at hk'
          ·exact h0
         have hlt:k % zv.cells.size<zv.cells.size:=Nat.mod_lt _ hpos
         exact hcv.one (k % zv.cells.size) _ (by rw[Array.getElem?_eq_getElem hlt,getElem!_pos zv.cells _ hlt])
        ·obtain⟨hi,rfl⟩:=List.getElem?_eq_some_iff.1 hy
         simp only[List.length_replicate]at hi
         simp only[List.getElem_replicate]at hj
         have hjl:j<xo.es:=by rw[<-c5];exact(List.getElem?_eq_some_iff.1 hj).1
         have hjs:j<zv.cells.size:=by omega
         refine⟨zv.cells[j],?_,hcv.rv j a' _ hj (by simp[hjs])⟩
         rw[Array.getElem?_toList,zeroCells_get hzs hjl hi]
         simp[hjs]
       generalize hloc:aE s.o μ=loc at hx
       cases hx with
       |refNil=>exact absurd rfl hn0
       | @ref _ _ _ _ _ b cap es' len' o c g g1 g2 g3 g4=>
        rw[<-hloc]at g
        simp only[aE,hg,Option.map_some]at g
        obtain⟨hm,rfl,rfl,hk1⟩:=fB (Option.some.inj g)
        have ho:o=lo*xo.es:=g3 (.inl hn0)
        subst ho
        obtain⟨w',k1,k2⟩:=h.layRow hg hm c3 c2 c1 hrow (lo:=lo) (by simp;omega) (P:=P)
        refine⟨w',?_,k2⟩
        cases n with
        |zero=>exact absurd rfl hn0
        |succ n=>simp[Builtin.clear_,jW hu',rQ hzv,k1]
    ·cases he
   ·cases he
  ·cases he
 ·cases he
end Go.Ab
namespace Go.Ab
open Go.RowKit
mutual
theorem aGn {σ:Nat->Nat} {M:Nat}: ∀{a:AV},(a.ren σ).has M=true-> ∃L,a.has L=true/\σ L=M
 | .agg cs,h=>by simp only[AV.ren,AV.has]at*;exact I8 h
 | .tup cs,h=>by simp only[AV.ren,AV.has]at*;exact I8 h
 | .clo g cs,h=>by simp only[AV.ren,AV.has]at*;exact I8 h
 | .ref L _ _,h=>by simp[AV.ren,AV.has]at h;exact⟨L,by simp[AV.has],h.symm⟩
 | .ptr L _ _,h=>by simp[AV.ren,AV.has]at h;exact⟨L,by simp[AV.has],h.symm⟩
 | .aref L _ _ _ _,h=>by simp[AV.ren,AV.has]at h;exact⟨L,by simp[AV.has],h.symm⟩
 | .mp L,h=>by simp[AV.ren,AV.has]at h;exact⟨L,by simp[AV.has],h.symm⟩
 | .yl L,h=>by simp[AV.ren,AV.has]at h;exact⟨L,by simp[AV.has],h.symm⟩
 | .rc L _ _ _,h=>by simp[AV.ren,AV.has]at h;exact⟨L,by simp[AV.has],h.symm⟩
 | .lh _,h=>by simp[AV.ren,AV.has]at h
 | .sc _,h=>by simp[AV.ren,AV.has]at h
 | .list _ _ _,h=>by simp[AV.ren,AV.has]at h
 | .iptr _ _ _ _,h=>by simp[AV.ren,AV.has]at h
 | .own _ _,h=>by simp[AV.ren,AV.has]at h
 | .dead,h=>by simp[AV.ren,AV.has]at h
theorem I8 {σ:Nat->Nat} {M:Nat}: ∀{cs:List AV},AV.hasL M (AV.renL σ cs)=true-> ∃L,AV.hasL L cs=true/\σ L=M
 | [],h=>by simp[AV.renL,AV.hasL]at h
 |c::cs,h=>by
  simp only[AV.renL,AV.hasL,Bool.or_eq_true]at h
  rcases h with h|h
  ·obtain⟨L,h1,h2⟩:=aGn h;exact⟨L,by simp[AV.hasL,h1],h2⟩
  ·obtain⟨L,h1,h2⟩:=I8 h;exact⟨L,by simp[AV.hasL,h1],h2⟩
end
mutual
theorem aGo {σ τ:Nat->Nat}: ∀{a:AV},(∀L,a.has L=true->τ (σ L)=L)->(a.ren σ).ren τ=a
 | .agg cs,h=>by simp only[AV.ren];rw[I9 (fun L hL=>h L (by simpa[AV.has]using hL))]
 | .tup cs,h=>by simp only[AV.ren];rw[I9 (fun L hL=>h L (by simpa[AV.has]using hL))]
 | .clo g cs,h=>by simp only[AV.ren];rw[I9 (fun L hL=>h L (by simpa[AV.has]using hL))]
 | .ref L _ _,h=>by simp only[AV.ren];rw[h L (by simp[AV.has])]
 | .ptr L _ _,h=>by simp only[AV.ren];rw[h L (by simp[AV.has])]
 | .aref L _ _ _ _,h=>by simp only[AV.ren];rw[h L (by simp[AV.has])]
 | .mp L,h=>by simp only[AV.ren];rw[h L (by simp[AV.has])]
 | .yl L,h=>by simp only[AV.ren];rw[h L (by simp[AV.has])]
 | .rc L _ _ _,h=>by simp only[AV.ren];rw[h L (by simp[AV.has])]
 | .lh _,h=>rfl
 | .sc _,h=>rfl
 | .list _ _ _,h=>rfl
 | .iptr _ _ _ _,h=>rfl
 | .own _ _,h=>rfl
 | .dead,h=>rfl
theorem I9 {σ τ:Nat->Nat}: ∀{cs:List AV},(∀L,AV.hasL L cs=true->τ (σ L)=L)->AV.renL τ (AV.renL σ cs)=cs
 | [],_=>rfl
 |c::cs,h=>by
  simp only[AV.renL]
  rw[aGo (fun L hL=>h L (by simp[AV.hasL,hL])),I9 (fun L hL=>h L (by simp[AV.hasL,hL]))]
end
theorem RV.unren {F:Bool->aZ} {loc loc':Nat->Option LI} {σ τ:Nat->Nat} {a:AV} {v:Value} (h:RV F loc (a.ren σ) v) (hτ: ∀L,a.has L=true->τ (σ L)=L) (hl: ∀L,a.has L=true->loc' L=loc (σ L)):RV F loc' a v:=by
 have:=h.ren (loc':=loc') (σ:=τ) (fun M hM=>by
  obtain⟨L,h1,rfl⟩:=aGn hM
  rw[hτ L h1];exact hl L h1)
 rwa [aGo hτ]at this
def dS (o:aF) (L:Nat):Bool:=(lk o L).isSome
def kR (σ:Nat->Nat) (oc:aF) (M:Nat):Bool:=oc.any fun p=>σ p.1==M
def lM (oc o':aF) (L:Nat):Bool:=dS oc L&&jM o' L
def fN (σ:Nat->Nat) (B:Nat) (oc o':aF) (L:Nat):Nat:=if lM oc o' L=true then σ L else L+B
def fT (τ:Nat->Nat) (B M:Nat):Nat:=if M<B then τ M else M - B
def jN (σ:Nat->Nat) (oc s:aF):aF:=s.filter fun p=> !kR σ oc p.1
def rZ (σ τ:Nat->Nat) (oc o':aF) (M:Nat):Bool:= !kR σ oc M||lM oc o' (τ M)
def sA (σ:Nat->Nat) (B:Nat) (oc o' s:aF):aF:=iM (fN σ B oc o') (fun L _=>lM oc o' L&&jM s (σ L)) o'++jN σ oc s
def mG (σ τ:Nat->Nat) (B:Nat) (oc:aF) (s:ASt) (d:Nat) (r:AV) (o':aF):ASt:=
 {n:=s.n,t:=(d,r.ren (fN σ B oc o'))::s.t.map fun p=>(p.1,if p.2.labs (rZ σ τ oc o')=true then p.2 else .dead),o:=sA σ B oc o' s.o}
def oO (σ τ:Nat->Nat) (oc o' s:aF):Bool:=(jN σ oc s).all fun p=>p.2.arr||AV.labsL (rZ σ τ oc o') p.2.xs
def X3 (σ:Nat->Nat) (x:AObj):Option AObj->Prop
 |some y=>y.kd=x.kd/\y.arr=x.arr/\y.fz=x.fz/\y.es=x.es/\y.xs=(dI σ x).xs
 |none=>False
structure Fits (σ τ:Nat->Nat) (B:Nat) (oc s:aF):Prop where
 lt:pP B s=true
 each: ∀p∈oc,τ (σ p.1)=p.1/\p.2.pin=true/\X3 σ p.2 (lk s (σ p.1))/\(p.2.arr||AV.labsL (dS oc) p.2.xs)=true
theorem xG {α:Type}: ∀{l:List (Nat×α)} {i:Nat} {a:α},lk l i=some a->(i,a)∈l
 | [],i,a,h=>by simp[lk]at h
 |(k,b)::l,i,a,h=>by
  simp only[lk]at h
  by_cases hk:k=i
  ·subst hk;rw[if_pos rfl]at h;obtain rfl:=Option.some.inj h;simp
  ·rw[if_neg hk]at h;simp[xG h]
theorem aGp {α:Type}: ∀{l:List (Nat×α)} {p:Nat×α},p∈l->(lk l p.1).isSome=true
 |(k,b)::l,p,h=>by
  simp only[lk]
  by_cases hk:k=p.1
  ·rw[if_pos hk];rfl
  ·rw[if_neg hk]
   rcases List.mem_cons.1 h with rfl|h
   ·exact absurd rfl hk
   ·exact aGp h
theorem zS {α:Type}: ∀{l l':List (Nat×α)} {i:Nat},lk (l++l') i=(lk l i).or (lk l' i)
 | [],l',i=>by simp[lk]
 |(k,b)::l,l',i=>by
  simp only[List.cons_append,lk]
  split
  ·rfl
  ·exact zS
theorem J0 {α:Type} {q:Nat->Bool}: ∀{l:List (Nat×α)} {i:Nat},lk (l.filter fun p=>q p.1) i=if q i=true then lk l i else none
 | [],i=>by simp[lk]
 |(k,b)::l,i=>by
  simp only[List.filter_cons]
  by_cases hk:k=i
  ·subst hk
   by_cases hq:q k=true
   ·simp[hq,lk]
   ·simp only[Bool.not_eq_true]at hq;simp[hq,J0,lk]
  ·split
   ·simp only[lk,if_neg hk];exact J0
   ·simp only[lk,if_neg hk];exact J0
section
variable {σ τ : Nat -> Nat} {B : Nat} {oc s : aF}
theorem Fits.get (h:Fits σ τ B oc s) {L:Nat} {x:AObj} (hx:lk oc L=some x):
 τ (σ L)=L/\x.pin=true/\(∃y,lk s (σ L)=some y/\y.kd=x.kd/\y.arr=x.arr/\y.fz=x.fz/\y.es=x.es/\y.xs=(dI σ x).xs)/\(x.arr=false-> ∀M,AV.hasL M x.xs=true->dS oc M=true):=by
 obtain⟨h1,h2,h3,h4⟩:=h.each _ (xG hx)
 refine⟨h1,h2,?_,fun ha M hM=>?_⟩
 ·cases hy:lk s (σ L)with
  |none=>rw[hy]at h3;exact h3.elim
  |some y=>rw[hy]at h3;exact⟨y,rfl,h3⟩
 ·simp only[ha,Bool.false_or]at h4
  exact rY h4 hM
theorem Fits.tau (h:Fits σ τ B oc s) {L:Nat} (hx:dS oc L=true):τ (σ L)=L:=by
 obtain⟨x,hx⟩:=Option.isSome_iff_exists.1 hx
 exact(h.get hx).1
theorem X4 {M:Nat}:kR σ oc M=true↔ ∃L,dS oc L=true/\σ L=M:=by
 unfold kR
 rw[List.any_eq_true]
 constructor
 ·rintro⟨p,hp,he⟩;exact⟨p.1,aGp hp,eq_of_beq he⟩
 ·rintro⟨L,hL,rfl⟩
  obtain⟨x,hx⟩:=Option.isSome_iff_exists.1 hL
  exact⟨(L,x),xG hx,by simp⟩
theorem X5 {o':aF} {L:Nat} (h:lM oc o' L=true):dS oc L=true/\ ∃x,lk o' L=some x/\x.pin=true:=by
 unfold lM at h
 rw[Bool.and_eq_true]at h
 refine⟨h.1,?_⟩
 have h2:=h.2
 unfold jM at h2
 cases hx:lk o' L with
 |none=>simp[hx]at h2
 |some x=>simp[hx]at h2;exact⟨x,rfl,h2⟩
theorem Fits.slt (h:Fits σ τ B oc s) {L:Nat} (hx:dS oc L=true):σ L<B:=by
 obtain⟨x,hx⟩:=Option.isSome_iff_exists.1 hx
 obtain⟨_,_,⟨y,hy,_⟩,_⟩:=h.get hx
 exact I6 h.lt hy
theorem Fits.key (h:Fits σ τ B oc s) (o':aF) (L:Nat):fT τ B (fN σ B oc o' L)=L:=by
 unfold fN
 split
 ·rename_i hk
  obtain⟨h1,_⟩:=X5 hk
  unfold fT
  rw[if_pos (h.slt h1)];exact h.tau h1
 ·unfold fT
  rw[if_neg (by omega)];omega
def jO (σ:Nat->Nat) (oc:aF) (μ:Pl):Pl:=fun L=>if dS oc L=true then μ (σ L)else none
def tY (F:Bool->aZ) (μ:Pl) (σ:Nat->Nat) (oc:aF) (w:World):Cx:= {w0:=w,F0:=F,o0:=oc,μ0:=jO σ oc μ,M:=wX oc (jO σ oc μ),df:= []}
theorem Fits.loc (h:Fits σ τ B oc s) {μ:Pl} {L:Nat} (hL:dS oc L=true):aE oc (jO σ oc μ) L=aE s μ (σ L):=by
 obtain⟨x,hx⟩:=Option.isSome_iff_exists.1 hL
 obtain⟨_,_,⟨y,hy,k1,k2,k3,k4,k5⟩,_⟩:=h.get hx
 simp only[aE,hx,hy,Option.map_some,jO,if_pos hL]
 congr 1
 refine nE k4.symm ?_ k1.symm _
 rw[k5,W4]
theorem SW.enterF {C F μ} {w:World} (h:SW C F μ s w) (hf:Fits σ τ B oc s):SW (tY F μ σ oc w) F (jO σ oc μ) oc w:=by
 refine⟨h.facts,h.sub,fun b k v hv=> .inl hv,FLe.refl _,fun b k v hv=> .inl hv,Fr.refl _ _,fun L x hx=>?_,fun L x L' x' b c c' hx hx' hm hm'=>?_,fun L x b c hx hm hz=>?_,fun L x b c hx hm=>?_,fun L x x0 h0 hx hp=>?_⟩
 ·have hL:dS oc L=true:=by simp[dS,hx]
  obtain⟨t1,t2,⟨y,hy,k1,k2,k3,k4,k5⟩,t4⟩:=hf.get hx
  have ho:=h.obj _ y hy
  simp only[jO,if_pos hL]
  cases hm:μ (σ L)with
  |none=>
   rw[hm]at ho
   have ho:y.xs= []:=ho
   show x.xs= []
   have:=congrArg List.length k5
   rw[ho,W4]at this
   exact List.eq_nil_of_length_eq_zero this.symm
  |some p=>
   obtain⟨b,cap⟩:=p
   rw[hm]at ho
   rcases ho with⟨c,e,q1,q2,q3,q4,q5,q6,q7⟩|⟨q1,q2,q3,es,ck,q4,q5,q6⟩|⟨q1,q2,r,q4,q5⟩
   ·cases ha:x.arr with
    |true=>
     have hxs:y.xs=x.xs:=by rw[k5];simp[dI,ha]
     refine .inl ⟨c,e,q1,by rw[<-k4];exact q2,by rw[<-hxs];exact q3,by rw[<-hxs];exact q4,by rw[<-hxs,<-k4];exact q5,fun i z j a hz hj=>?_,?_⟩
     ·obtain⟨v,r1,r2,r3,r4⟩:=q6 i z j a (by rw[hxs];exact hz) hj
      rw[k2,ha]at r3
      rw[k4]at r1 r4
      rw[k3]at r4
      exact⟨v,r1,r2,by rw[ha];exact r3,r4⟩
     ·rw[k1,k2]at q7;exact q7
    |false=>
     have hxs:y.xs=x.xs.map (AV.ren σ):=by rw[k5];simp[dI,ha]
     refine .inl ⟨c,e,q1,by rw[<-k4];exact q2,by rw[hxs,List.length_map]at q3;exact q3,by rw[hxs,List.length_map]at q4;exact q4,fun z hz=>?_,fun i z j a hz hj=>?_,?_⟩
     ·have:=q5 (z.ren σ) (by rw[hxs];exact List.mem_map_of_mem hz)
      rw[H9,List.length_map,k4]at this;exact this
     ·have hzi:y.xs[i]?=some (z.ren σ):=by rw[hxs,List.getElem?_map,hz];rfl
      have hji:(z.ren σ).cells[j]?=some (a.ren σ):=by rw[H9,List.getElem?_map,hj];rfl
      obtain⟨v,r1,r2,r3,r4⟩:=q6 i (z.ren σ) j (a.ren σ) hzi hji
      rw[k4]at r1 r4
      rw[k3]at r4
      have hlab: ∀M,a.has M=true->dS oc M=true:=fun M hM=>by
       refine t4 ha M (gI hz ?_)
       cases z with
       |agg cs=>simp only[AV.has];exact gI hj hM
       |_=>cases j with
        |zero=>simp[AV.cells]at hj;subst hj;exact hM
        |succ j=>simp[AV.cells]at hj
      refine⟨v,r1,r2,?_,r4⟩
      rw[k2,ha]at r3
      rw[ha]
      exact RV.unren (τ:=τ) r3 (fun M hM=>hf.tau (hlab M hM)) (fun M hM=>hf.loc (hlab M hM))
     ·rw[k1,k2]at q7;exact q7
   ·have ha:x.arr=true:=by rw[<-k2];exact q2
    have hxs:y.xs=x.xs:=by rw[k5];simp[dI,ha]
    exact .inr (.inl ⟨by rw[<-k1];exact q1,ha,by rw[<-hxs];exact q3,es,ck,q4,by rw[<-hxs];exact q5,fun i e z he hz=>q6 i e z he (by rw[hxs];exact hz)⟩)
   ·have ha:x.arr=false:=by rw[<-k2];exact q2
    have hxs:y.xs=x.xs.map (AV.ren σ):=by rw[k5];simp[dI,ha]
    refine .inr (.inr ⟨by rw[<-k1];exact q1,ha,r,q4,?_⟩)
    rw[k4,hxs]at q5
    refine q5.unren fun a v hav hv=>?_
    have hlab: ∀M,a.has M=true->dS oc M=true:=fun M hM=>t4 ha M (hav M hM)
    exact RV.unren (τ:=τ) hv (fun M hM=>hf.tau (hlab M hM)) (fun M hM=>hf.loc (hlab M hM))
 ·have hL:dS oc L=true:=by simp[dS,hx]
  have hL':dS oc L'=true:=by simp[dS,hx']
  obtain⟨t1,_,⟨y,hy,_⟩,_⟩:=hf.get hx
  obtain⟨t1',_,⟨y',hy',_⟩,_⟩:=hf.get hx'
  simp only[jO,if_pos hL]at hm
  simp only[jO,if_pos hL']at hm'
  have:=h.dist _ y _ y' b c c' hy hy' hm hm'
  rw[<-t1,this,t1']
 ·have hL:dS oc L=true:=by simp[dS,hx]
  obtain⟨_,_,⟨y,hy,_,_,k3,_⟩,_⟩:=hf.get hx
  simp only[jO,if_pos hL]at hm
  exact h.excl _ y b c hy hm (by rw[k3];exact hz)
 ·exact .inr ⟨L,x,c,hx,hm⟩
 ·have:x=x0:=(Option.some.inj (h0.symm.trans hx)).symm
  subst this
  exact⟨rfl,rfl,rfl⟩
theorem SR.leaveF {C F μ} {s:ASt} {a:Act} {w:World} (h:SR C F μ s a w) (hf:Fits σ τ B oc s.o) {F':Bool->aZ} {μ':Pl} {o':aF} {w':World} (h':SW (tY F μ σ oc w) F' μ' o' w')
 (hrest:oO σ τ oc o' s.o=true) {d:Nat} (hd:d<s.n) {r:AV} {v:Value} (hr:RV F' (aE o' μ') r v):
 SR C F' (fun M=>if(lk (jN σ oc s.o) M).isSome=true then μ M else μ' (fT τ B M)) (mG σ τ B oc s d r o') (a.put (some d) v) w':=by
 have hsw:=h.sw
 generalize hμ:(fun M=>if(lk (jN σ oc s.o) M).isSome=true then μ M else μ' (fT τ B M))=μ2
 have hrs: ∀{M y},lk (jN σ oc s.o) M=some y↔kR σ oc M=false/\lk s.o M=some y:=fun {M y}=>by
  unfold jN
  rw[J0 (q:=fun M=> !kR σ oc M)]
  cases kR σ oc M<;>simp
 have hkey: ∀p∈o',fT τ B (fN σ B oc o' p.1)=p.1:=fun p _=>hf.key o' p.1
 have hnr: ∀L,(lk (jN σ oc s.o) (fN σ B oc o' L)).isSome=false:=fun L=>by
  cases hq:lk (jN σ oc s.o) (fN σ B oc o' L)with
  |none=>rfl
  |some y=>
   obtain⟨g1,g2⟩:=hrs.1 hq
   exfalso
   unfold fN at g1 g2
   split at g1
   ·rename_i hk
    have:kR σ oc (σ L)=true:=X4.2 ⟨L,(X5 hk).1,rfl⟩
    rw[g1]at this;cases this
   ·rename_i hk
    rw[if_neg hk]at g2
    have:=I6 hf.lt g2
    omega
 have hmuN: ∀L,μ2 (fN σ B oc o' L)=μ' L:=fun L=>by
  rw[<-hμ]
  simp only[hnr L,Bool.false_eq_true,if_false,hf.key]
 have hmuR: ∀{M y},lk (jN σ oc s.o) M=some y->μ2 M=μ M:=fun {M y} hy=>by
  rw[<-hμ];simp[hy]
 have hlk: ∀{M y},lk (sA σ B oc o' s.o) M=some y->(∃x,M=fN σ B oc o' (fT τ B M)/\lk o' (fT τ B M)=some x/\y= {dI (fN σ B oc o') x with pin:=lM oc o' (fT τ B M)&&jM s.o (σ (fT τ B M))})\/(lk (jN σ oc s.o) M=some y):=fun {M y} hy=>by
  unfold sA at hy
  rw[zS]at hy
  cases hq:lk (iM (fN σ B oc o') (fun L _=>lM oc o' L&&jM s.o (σ L)) o') M with
  |none=>rw[hq]at hy;exact .inr (by simpa using hy)
  |some z=>
   rw[hq]at hy
   obtain rfl:z=y:=by simpa using hy
   obtain⟨x,g1,g2,g3⟩:=vF (σ:=fN σ B oc o') (τ:=fT τ B) hkey hq
   exact .inl ⟨x,g1,g2,g3⟩
 have hlocN: ∀L,aE o' μ' L≠none->aE (sA σ B oc o' s.o) μ2 (fN σ B oc o' L)=aE o' μ' L:=fun L hL=>by
  have hx: ∃x,lk o' L=some x:=by
   unfold aE at hL
   cases hx:lk o' L with
   |none=>simp[hx]at hL
   |some x=>exact⟨x,rfl⟩
  obtain⟨x,hx⟩:=hx
  obtain⟨k1,k2⟩:=I2 (σ:=fN σ B oc o') (τ:=fT τ B) (q:=fun L _=>lM oc o' L&&jM s.o (σ L)) hkey hx
  simp only[aE,sA,zS,k1,Option.some_or,Option.map_some,hx,hmuN]
  congr 1
  exact xE _ _ _ _
 have hM: ∀b,(tY F μ σ oc w).M b-> ∃L y c,dS oc L=true/\lk s.o (σ L)=some y/\μ (σ L)=some (b,c):=by
  rintro b ⟨L,x,c,hx,hm⟩
  have hx:lk oc L=some x:=hx
  have hL:dS oc L=true:=by simp[dS,hx]
  have hm:jO σ oc μ L=some (b,c):=hm
  obtain⟨_,_,⟨y,hy,_⟩,_⟩:=hf.get hx
  simp only[jO,if_pos hL]at hm
  exact⟨L,y,c,hL,hy,hm⟩
 have hM2: ∀b,(tY F μ σ oc w).M b->C.w0.heap.size<=b\/C.M b:=fun b hb=>by
  obtain⟨L,y,c,hL,hy,hm⟩:=hM b hb
  exact hsw.mine _ y b c hy hm
 have hRb: ∀{M y b c},lk (jN σ oc s.o) M=some y->μ M=some (b,c)->b<w.heap.size/\ ¬(tY F μ σ oc w).M b:=fun {M y b c} hy hm=>by
  obtain⟨g1,g2⟩:=hrs.1 hy
  have ho:=hsw.obj M y g2
  rw[hm]at ho
  obtain⟨_,hh⟩:=ObjAt.lt ho
  refine⟨gJ hh,fun hb=>?_⟩
  obtain⟨L,z,c',hL,hz,hm'⟩:=hM b hb
  have:=hsw.dist _ z _ y b c' c hz g2 hm' hm
  have h2:=X4.2 ⟨L,hL,this⟩
  rw[g1]at h2;cases h2
 have hkeep: ∀L,lM oc o' L=true-> ∃y x,lk s.o (σ L)=some y/\lk o' L=some x/\μ' L=μ (σ L)/\(∀p,bV x p=bV y p)/\x.arr=y.arr:=fun L hL=>by
  obtain⟨g1,x,g2,g3⟩:=X5 hL
  obtain⟨x0,hx0⟩:=Option.isSome_iff_exists.1 g1
  obtain⟨_,_,⟨y,hy,k1,k2,k3,k4,k5⟩,_⟩:=hf.get hx0
  obtain⟨e1,e2,e3⟩:=h'.keep L x x0 hx0 g2 g3
  refine⟨y,x,hy,g2,?_,fun p=>(aF1 e2 p).trans (nE k4.symm (by rw[k5,W4]) k1.symm p),by rw[e3,k2]⟩
  rw[e1]
  show jO σ oc μ L=μ (σ L)
  simp only[jO,if_pos g1]
 have hlocR: ∀M,rZ σ τ oc o' M=true->(aE s.o μ M≠none)->aE (sA σ B oc o' s.o) μ2 M=aE s.o μ M:=fun M hok hne=>by
  unfold rZ at hok
  cases hi:kR σ oc M with
  |false=>
   obtain⟨y,hy⟩: ∃y,lk s.o M=some y:=by
    unfold aE at hne
    cases hy:lk s.o M with
    |none=>simp[hy]at hne
    |some y=>exact⟨y,rfl⟩
   have hr2:=hrs.2 ⟨hi,hy⟩
   have hn:lk (iM (fN σ B oc o') (fun L _=>lM oc o' L&&jM s.o (σ L)) o') M=none:=by
    cases hq:lk (iM (fN σ B oc o') (fun L _=>lM oc o' L&&jM s.o (σ L)) o') M with
    |none=>rfl
    |some z=>
     obtain⟨x,g1,_⟩:=vF (σ:=fN σ B oc o') (τ:=fT τ B) hkey hq
     have:=hnr (fT τ B M)
     rw[<-g1,hr2]at this
     cases this
   simp only[aE,sA,zS,hn,Option.none_or,hr2,hy,Option.map_some,hmuR hr2]
  |true=>
   rw[hi]at hok
   simp only[Bool.not_true,Bool.false_or]at hok
   obtain⟨L,hL,rfl⟩:=X4.1 hi
   rw[hf.tau hL]at hok
   obtain⟨y,x,k1,k2,k3,k4,k5⟩:=hkeep L hok
   have e:=hlocN L (by simp[aE,k2])
   have hN:fN σ B oc o' L=σ L:=by unfold fN;rw[if_pos hok]
   rw[hN]at e
   rw[e]
   simp only[aE,k1,k2,Option.map_some,k3,k4]
 refine⟨⟨h'.facts,h'.sub,?_,hsw.grow.trans h'.grow,?_,?_,?_,?_,?_,?_,?_⟩,h.defers,?_,?_⟩
 ·intro b k u hu
  rcases h'.lentc b k u hu with hh|hh
  ·rcases hsw.lentc b k u hh with hh|hh
   ·exact .inl hh
   ·exact .inr (h'.grow _ _ _ _ hh)
  ·exact .inr hh
 ·intro b k u hu
  rcases h'.newf b k u hu with hh|hh|hh
  ·exact hsw.newf b k u hh
  ·exact .inr (.inl (Nat.le_trans hsw.fr.size hh))
  ·exact .inr (hM2 b hh)
 ·refine hsw.fr.trans h'.fr fun k hk hkm=>?_
  rcases hM2 k hkm with hh|hh
  ·omega
  ·exact hh
 ·intro M y hy
  rcases hlk hy with⟨x,g1,g2,rfl⟩|hy
  ·rw[g1,hmuN]
   exact I3 (h'.obj _ x g2) fun L hL=>hlocN L hL
  ·rw[hmuR hy]
   obtain⟨g1,g2⟩:=hrs.1 hy
   have ho:=hsw.obj M y g2
   cases hm:μ M with
   |none=>rw[hm]at ho;exact ho
   |some p=>
    obtain⟨b,c⟩:=p
    rw[hm]at ho
    obtain⟨hb1,hb2⟩:=hRb hy hm
    have hal:=List.all_eq_true.1 hrest (M,y) (xG hy)
    simp only[Bool.or_eq_true]at hal
    have hLp:LoopAt F (aE s.o μ) w y b->AV.labsL (rZ σ τ oc o') y.xs=true->LoopAt F' (aE (sA σ B oc o' s.o) μ2) w' y b:=by
     rintro⟨k1,k2,r,k4,k5⟩ hlab
     exact⟨k1,k2,r,by rw[h'.fr.block b hb1 hb2];exact k4,k5.same fun a v ha hv=>hv.congr h'.grow fun L hL=>hlocR L (rY hlab (ha L hL)) (hv.has_loc L hL)⟩
    rcases hal with har|hlab
    ·rcases ho with⟨c',e,q1,q2,q3,q4,q5,q6,q7⟩|q|q
     ·refine .inl ⟨c',e,by rw[h'.fr.block b hb1 hb2];exact q1,q2,q3,q4,q5,fun i z j a hz hj=>?_,q7⟩
      obtain⟨v,r1,r2,r3,r4⟩:=q6 i z j a hz hj
      rw[har]at r3
      exact⟨v,r1,r2,by rw[har];exact r3.mono h'.grow.sh,fun hz=>h'.grow _ _ _ _ (r4 hz)⟩
     ·obtain⟨k1,k2,k4,es,ck,k5,k6,k7⟩:=q
      exact .inr (.inl ⟨k1,k2,k4,es,ck,by rw[h'.fr.block b hb1 hb2];exact k5,k6,fun i e y he hy=>by obtain⟨v,q,e1,e2,e3⟩:=k7 i e y he hy;exact⟨v,q,e1,e2.mono h'.grow.sh,e3⟩⟩)
     ·obtain⟨_,k2,_⟩:=q
      have har:y.arr=true:=har
      rw[har]at k2;cases k2
    ·cases har:y.arr with
     |true=>
      rcases ho with⟨c',e,q1,q2,q3,q4,q5,q6,q7⟩|q|q
      ·refine .inl ⟨c',e,by rw[h'.fr.block b hb1 hb2];exact q1,q2,q3,q4,q5,fun i z j a hz hj=>?_,q7⟩
       obtain⟨v,r1,r2,r3,r4⟩:=q6 i z j a hz hj
       rw[har]at r3
       exact⟨v,r1,r2,by rw[har];exact r3.mono h'.grow.sh,fun hz=>h'.grow _ _ _ _ (r4 hz)⟩
      ·obtain⟨k1,k2,k4,es,ck,k5,k6,k7⟩:=q
       exact .inr (.inl ⟨k1,k2,k4,es,ck,by rw[h'.fr.block b hb1 hb2];exact k5,k6,fun i e y he hy=>by obtain⟨v,q,e1,e2,e3⟩:=k7 i e y he hy;exact⟨v,q,e1,e2.mono h'.grow.sh,e3⟩⟩)
      ·obtain⟨_,k2,_⟩:=q
       rw[har]at k2;cases k2
     |false=>
      rcases ho with⟨c',e,q1,q2,q3,q4,q5,q6,q7⟩|⟨_,k2,_⟩|q
      rotate_left
      ·rw[har]at k2;cases k2
      ·exact .inr (.inr (hLp q hlab))
      ·refine .inl ⟨c',e,by rw[h'.fr.block b hb1 hb2];exact q1,q2,q3,q4,q5,fun i z j a hz hj=>?_,q7⟩
       obtain⟨v,r1,r2,r3,r4⟩:=q6 i z j a hz hj
       rw[har]at r3
       refine⟨v,r1,r2,?_,fun hz=>h'.grow _ _ _ _ (r4 hz)⟩
       rw[har]
       refine r3.congr h'.grow fun L hL=>hlocR L (rY hlab (gI hz ?_)) (r3.has_loc L hL)
       cases z with
       |agg cs=>simp only[AV.has];exact gI hj hL
       |_=>cases j with
        |zero=>simp[AV.cells]at hj;subst hj;exact hL
        |succ j=>simp[AV.cells]at hj
 ·intro M y M' y' b c c' hy hy' hm hm'
  rcases hlk hy with⟨x,g1,g2,rfl⟩|hy
  ·rw[g1,hmuN]at hm
   rcases hlk hy' with⟨x',g1',g2',rfl⟩|hy'
   ·rw[g1',hmuN]at hm'
    have:=h'.dist _ x _ x' b c c' g2 g2' hm hm'
    rw[g1,g1',this]
   ·rw[hmuR hy']at hm'
    obtain⟨hb1,hb2⟩:=hRb hy' hm'
    rcases h'.mine _ x b c g2 hm with hh|hh
    ·have hh:w.heap.size<=b:=hh
     omega
    ·exact absurd hh hb2
  ·rw[hmuR hy]at hm
   rcases hlk hy' with⟨x',g1',g2',rfl⟩|hy'
   ·rw[g1',hmuN]at hm'
    obtain⟨hb1,hb2⟩:=hRb hy hm
    rcases h'.mine _ x' b c' g2' hm' with hh|hh
    ·have hh:w.heap.size<=b:=hh
     omega
    ·exact absurd hh hb2
   ·rw[hmuR hy']at hm'
    exact hsw.dist _ y _ y' b c c' (hrs.1 hy).2 (hrs.1 hy').2 hm hm'
 ·intro M y b c hy hm hz
  rcases hlk hy with⟨x,g1,g2,rfl⟩|hy
  ·rw[g1,hmuN]at hm
   exact h'.excl _ x b c g2 hm (by simpa[I1]using hz)
  ·rw[hmuR hy]at hm
   obtain⟨hb1,hb2⟩:=hRb hy hm
   have hF:=hsw.excl M y b c (hrs.1 hy).2 hm hz
   have hff: ∀k,F' false b k=none:=fun k=>by
    cases hq:F' false b k with
    |none=>rfl
    |some u=>
     rcases h'.newf b k u hq with hh|hh|hh
     ·have hh:F false b k=some u:=hh
      rw[hF]at hh;cases hh
     ·have hh:w.heap.size<=b:=hh
      omega
     ·exact absurd hh hb2
   intro l k
   cases l
   ·exact hff k
   ·cases hq:F' true b k with
    |none=>rfl
    |some u=>
     rcases h'.lentc b k u hq with hh|hh
     ·have hh:F true b k=some u:=hh
      rw[hF]at hh;cases hh
     ·rw[hff]at hh;cases hh
 ·intro M y b c hy hm
  rcases hlk hy with⟨x,g1,g2,rfl⟩|hy
  ·rw[g1,hmuN]at hm
   rcases h'.mine _ x b c g2 hm with hh|hh
   ·exact .inl (Nat.le_trans hsw.fr.size hh)
   ·exact hM2 b hh
  ·rw[hmuR hy]at hm
   exact hsw.mine M y b c (hrs.1 hy).2 hm
 ·intro M y y0 h0 hy hp
  rcases hlk hy with⟨x,g1,g2,rfl⟩|hy
  ·simp only[Bool.and_eq_true]at hp
   obtain⟨hp1,hp2⟩:=hp
   obtain⟨z,x1,k1,k2,k3,k4,k5⟩:=hkeep _ hp1
   obtain rfl:x1=x:=Option.some.inj (k2.symm.trans g2)
   have hN:fN σ B oc o' (fT τ B M)=σ (fT τ B M):=by unfold fN;rw[if_pos hp1]
   rw[hN]at g1
   have hpin:z.pin=true:=by simpa[jM,k1]using hp2
   rw[<-g1]at k1 k3
   obtain⟨e1,e2,e4⟩:=hsw.keep M z y0 h0 k1 hpin
   refine⟨?_,?_,?_⟩
   ·rw[<-hμ]
    have:=hnr (fT τ B M)
    rw[hN,<-g1]at this
    simp only[this,Bool.false_eq_true,if_false]
    rw[k3];exact e1
   ·rw[xE,k4];exact e2
   ·show(dI _ x1).arr=_
    rw[I0,k5];exact e4
  ·rw[hmuR hy]
   exact hsw.keep M y y0 h0 (hrs.1 hy).2 hp
 ·show(a.put (some d) v).tmps.size=s.n
  simp[Act.put,h.n]
 ·intro i x hx
  rw[zD (by rw[h.n];exact hd)]
  simp only[mG,lk]at hx
  by_cases hi:d=i
  ·subst hi
   rw[if_pos rfl]at hx ⊢
   obtain rfl:=Option.some.inj hx
   exact hr.ren fun L hL=>hlocN L (hr.has_loc L hL)
  ·rw[if_neg hi]at hx
   rw[if_neg (fun e=>hi e.symm)]
   rw[vE (fun y:AV=>if y.labs (rZ σ τ oc o')=true then y else .dead)]at hx
   cases hy:lk s.t i with
   |none=>simp[hy]at hx
   |some y=>
    simp[hy]at hx
    have hv:=h.slot i y hy
    split at hx
    ·rename_i hlab
     subst hx
     exact hv.congr h'.grow fun L hL=>hlocR L (W2 hlab hL) (hv.has_loc L hL)
    ·subst hx;exact .dead
def GCall (Kc:Cx->Prop) (G:Array Value->World->(Ending->World->Prop)->Prop) (args:List AV) (o:aF) (R:AV->aF->Prop):Prop:=
 ∀(C:Cx) (F:Bool->aZ) (μ:Pl) (w:World) (cargs:Array Value),Kc C->C.w0=w->C.F0=F->C.o0=o->C.μ0=μ->SW C F μ o w->args.length=cargs.size->
  (∀(i:Nat) (a:AV) (v:Value),args[i]?=some a->cargs[i]?=some v->RV F (aE o μ) a v)->
  G cargs w fun e w'=> ∃v r o' F' μ',e= .returned v/\R r o'/\SW C F' μ' o' w'/\RV F' (aE o' μ') r v
theorem GCall.useF {Kc:Cx->Prop} {G:Array Value->World->(Ending->World->Prop)->Prop} (hG: ∀c w (R R':Ending->World->Prop),G c w R->(∀e w',R e w'->R' e w')->G c w R') {ac:List AV} {R:AV->aF->Prop} {C F μ} {s:ASt} {a:Act} {w:World} (hc:GCall Kc G ac oc R) (hkc:Kc (tY F μ σ oc w)) (h:SR C F μ s a w) (hf:Fits σ τ B oc s.o) (hac:AV.labsL (dS oc) ac=true)
 {d:Nat} (hd:d<s.n) (hrest: ∀r o',R r o'->oO σ τ oc o' s.o=true) {cargs:Array Value} (hl:ac.length=cargs.size)
 (hv: ∀(i:Nat) (x:AV) (v:Value),ac[i]?=some x->cargs[i]?=some v->RV F (aE s.o μ) (x.ren σ) v):
 G cargs w fun e w'=> ∃v r o' F' μ',e= .returned v/\R r o'/\SR C F' μ' (mG σ τ B oc s d r o') (a.put (some d) v) w':=by
 refine hG _ _ _ _ (hc (tY F μ σ oc w) F (jO σ oc μ) w cargs hkc rfl rfl rfl rfl (h.sw.enterF hf) hl (fun i x v hx hxv=>?_)) ?_
 ·have hlab: ∀M,x.has M=true->dS oc M=true:=fun M hM=>rY hac (gI hx hM)
  exact RV.unren (τ:=τ) (hv i x v hx hxv) (fun M hM=>hf.tau (hlab M hM)) (fun M hM=>hf.loc (hlab M hM))
 ·rintro e w' ⟨v,r,o',F',μ',rfl,hR,hsw,hr⟩
  exact⟨v,r,o',F',_,rfl,hR,h.leaveF hf hsw (hrest r o' hR) hd hr⟩
theorem MCall.useF {P:Program} [Glob P] {f:FuncId} {ac:List AV} {R:AV->aF->Prop} {C F μ} {s:ASt} {a:Act} {w:World} (hc:MCall P f ac oc R) (hgk:GOk P C) (h:SR C F μ s a w) (hf:Fits σ τ B oc s.o) (hac:AV.labsL (dS oc) ac=true)
 {d:Nat} (hd:d<s.n) (hrest: ∀r o',R r o'->oO σ τ oc o' s.o=true) {cargs:Array Value} (hl:ac.length=cargs.size)
 (hv: ∀(i:Nat) (x:AV) (v:Value),ac[i]?=some x->cargs[i]?=some v->RV F (aE s.o μ) (x.ren σ) v):
 Calls P f cargs w fun e w'=> ∃v r o' F' μ',e= .returned v/\R r o'/\SR C F' μ' (mG σ τ B oc s d r o') (a.put (some d) v) w':=
 GCall.useF (G:=fun c w R=>Calls P f c w R) (fun c w R R' h hr=>Calls.mono h hr) hc.2 ⟨hgk.at h.sw.grow⟩ h hf hac hd hrest hl hv
def fW (ro:Option Nat):Fence:= {Fence.wide with round:=ro}
theorem RoundIn.fW {ro ro':Option Nat} {n:Nat} {P:Program} [Glob P] {l:Nat} {f:FuncId} {tmps:Array Value} {assign body:Code} {w:World} {R:Ending->World->Prop} (h:RoundIn (fW ro) n P l f tmps assign body w R):RoundIn (Ab.fW ro') n P l f tmps assign body w R:=h
def YG (P:Program) [Glob P] (cargs:Array Value) (w:World) (R:Ending->World->Prop):Prop:=
 ∃(l:Nat) (rest:Array Value) (fn:FuncId) (tmps:Array Value) (assign body:Code),cargs= #[.func (.yield l) #[] #[]]++rest/\(Instr.yield l rest).run P w= .ok (.round l fn tmps assign body) w/\RoundIn (fW none) 0 P l fn tmps assign body w R
def zU (P:Program) [Glob P] (args:List AV) (o:aF) (R:AV->aF->Prop):Prop:=GCall (GOk P) (YG P) args o R
theorem YG.mono {P:Program} [Glob P] (c:Array Value) (w:World) (R R':Ending->World->Prop) (h:YG P c w R) (hr: ∀e w',R e w'->R' e w'):YG P c w R':=by
 obtain⟨l,rest,fn,tmps,as,bd,h1,h2,h3⟩:=h
 exact⟨l,rest,fn,tmps,as,bd,h1,h2,h3.mono hr⟩
end
end Go.Ab
namespace Go.Ab
open Go.RowKit
inductive Res where
 |v (r:Sv)
 |h (r:St)
 |c (f:FuncId) (args:List AV)
 |y (args:List AV)
 |no
def eJ:Option Sv->Res
 |some r=> .v r
 |none=> .no
def iP:Option St->Res
 |some r=> .h r
 |none=> .no
def dA (P:Program) [Glob P] (t:List (Nat×AV)):Operand->Option AV
 | .tmp i=>lk t i
 | .const v=>iZ v
 | .func f=>some (.clo f [])
 | .global g=>Glob.tab P g
theorem kT {P:Program} [Glob P] {C F μ} [GOk P C] {s:ASt} {a:Act} {w:World} (h:SR C F μ s a w): ∀x b,dA P s.t x=some b->RV F (aE s.o μ) b (a.eval x):=fun x b hb=>by
 cases x with
 |tmp i=>exact h.slot i b hb
 |const v=>exact rS hb
 |global g=>
  have:=(GOk.at (P:=P) h.sw.grow) g b hb
  exact(this.mono (h.sw.sub.sh)).congr (FLe.refl _) fun L hL=>(this.noloc_has (fun _=>rfl) L hL).elim
 |func f=>simp[dA]at hb;subst hb;exact .clo (by rfl) (by intro i a v ha;simp at ha)
theorem J1 {P:Program} [Glob P] {t t':List (Nat×AV)} {x:Operand} (h:ev t x=ev t' x):dA P t x=dA P t' x:=by
 cases x<;>first|exact h|rfl
def bA (P:Program) [Glob P] (o:Oper) (s:ASt):Res:=
 match o.op,o.dst with
 | .alloc t,some d=>iP (zG P t d s)
 | .box t x,some d=>match ev s.t x with
  |some a=>iP (zH a d s)
  |none=> .no
 | .store t p x,none=>match ev s.t p,ev s.t x with
  |some a,some b=>iP (xC P t a b s)
  |_,_=> .no
 | .buildSlice t len parts,some d=>iP (zK P t len (oI (ev s.t) parts.toList) d s)
 | .call {callee:= .builtin .append,args:=xs,argTypes:=ts},some d=>match xs.toList,ts.toList with
  | [x,y],[st,xt]=>match ev s.t x,ev s.t y with
   |some a,some b=>iP (xD P st xt a b d s)
   |_,_=> .no
  |_,_=> .no
 | .call {callee:= .value f,args:=xs,..},some _=>match ev s.t f,nI (ev s.t) xs.toList with
  |some (.clo g caps),some as=> .c g (as++caps)
  |some (.yl L),some as=> .y (.yl L::as)
  |_,_=> .no
 |_,some _=>eJ (eD P o (dA P s.t) s.o)
 |_,none=> .no
def lN:List Nat->ASt->Option ASt
 | [],s=>some s
 |L::r,s=>match lk s.o L with
  |some x=>if x.arr=true then lN r (s.frz L x)else none
  |none=>none
def aRi (P:Program) [Glob P] (g:FuncId) (as:List AV) (s:ASt) (r:AV):Prop:=
 ∀(C:Cx) F μ (a:Act) (w:World),SR C F μ s a w-> ∀cargs:Array Value,as.length=cargs.size->(∀(i:Nat) (x:AV) (v:Value),as[i]?=some x->cargs[i]?=some v->RV F (aE s.o μ) x v)->
  ∃v,(callFunc g cargs).run P w= .ok (.value v) w/\RV F (aE s.o μ) r v
def killOs:List Nat->aF->aF
 | [],o=>o
 |T::r,o=>killOs r (killO T o)
theorem SR.killO {C F μ} {s:ASt} {a:Act} {w:World} (T:Nat) (h:SR C F μ s a w):SR C F μ {s with o:=Ab.killO T s.o} a w:=by
 have hsw:=h.sw
 have hloc:aE (Ab.killO T s.o) μ=aE s.o μ:=by
  funext L
  simp only[aE,rX,Option.map_map]
  congr 1
  funext y
  exact rW T y _
 have hlk: ∀{L x},lk (Ab.killO T s.o) L=some x-> ∃y,lk s.o L=some y/\x=dO T y:=fun {L x} hx=>by
  rw[rX,Option.map_eq_some_iff]at hx
  obtain⟨y,h1,h2⟩:=hx
  exact⟨y,h1,h2.symm⟩
 refine⟨⟨hsw.facts,hsw.sub,hsw.lentc,hsw.grow,hsw.newf,hsw.fr,fun L x hx=>?_,fun L x L' x' b c c' hx hx' hm hm'=>?_,fun L x b c hx hm hz=>?_,fun L x b c hx hm=>?_,fun L x x0 h0 hx hp=>?_⟩,h.defers,h.n,fun k y hy=>by rw[hloc];exact h.slot k y hy⟩
 ·obtain⟨y,hy,rfl⟩:=hlk hx
  have ho:=hsw.obj L y hy
  rw[hloc]
  cases hm:μ L with
  |none=>
   rw[hm]at ho
   have h0:y.xs= []:=ho
   show(dO T y).xs= []
   have:=(pM T y).2.1
   rw[h0]at this
   exact List.length_eq_zero_iff.1 this
  |some p=>
   obtain⟨b,c⟩:=p
   rw[hm]at ho
   exact(ObjAt.kill ho T).1
 ·obtain⟨y,hy,rfl⟩:=hlk hx
  obtain⟨y',hy',rfl⟩:=hlk hx'
  exact hsw.dist L y L' y' b c c' hy hy' hm hm'
 ·obtain⟨y,hy,rfl⟩:=hlk hx
  exact hsw.excl L y b c hy hm (by rw[<-(pM T y).2.2.2.1];exact hz)
 ·obtain⟨y,hy,rfl⟩:=hlk hx
  exact hsw.mine L y b c hy hm
 ·obtain⟨y,hy,rfl⟩:=hlk hx
  obtain⟨e1,e2,e3,e4,e5⟩:=pM T y
  have:=hsw.keep L y x0 h0 hy (by rw[<-e3];exact hp)
  simp only[rW,e5]
  exact this
theorem SR.killOs {C F μ} {a:Act} {w:World}: ∀(ks:List Nat) {s:ASt},SR C F μ s a w->SR C F μ {s with o:=Ab.killOs ks s.o} a w
 | [],_,h=>h
 |T::r,_,h=>SR.killOs r (h.killO T)
theorem aGq {μ:Pl}: ∀(ks:List Nat) {o:aF},aE (killOs ks o) μ=aE o μ
 | [],_=>rfl
 |T::r,o=>by
  show aE (killOs r (killO T o)) μ=_
  rw[aGq r]
  funext L
  simp only[aE,rX,Option.map_map]
  congr 1
  funext y
  exact rW T y _
def cL (P:Program) [Glob P] (r:Res) (d:Option Nat) (k:ASt->Prop) (s:ASt):Prop:=
 match r,d with
 | .v r,some d=>r.need/\d<s.n/\k (s.put d r.val)
 | .h r,_=>r.need/\k r.st
 | .c g as,some d=>d<s.n/\((∃(fs:List Nat) (s1:ASt) (bs:List AV) (R:AV->Prop),lN fs s=some s1/\lK s1.o as=some bs/\ACall P g bs R/\ ∀r,R r->k (qP s1 d r))\/
  (∃(K B:Nat) (R:AV->aF->Prop),pP B s.o=true/\MCall P g (as.map (AV.ren (· +K))) (vG K s.o) R/\ ∀r o',R r o'->k (zO K B s d r o'))\/
  (∃r,aRi P g as s r/\k (s.put d r))\/
  (∃(ks:List Nat) (σ τ:Nat->Nat) (B:Nat) (oc:aF) (ac:List AV) (R:AV->aF->Prop),Fits σ τ B oc (killOs ks s.o)/\AV.labsL (dS oc) ac=true/\as=ac.map (AV.ren σ)/\MCall P g ac oc R/\ ∀r o',R r o'->oO σ τ oc o' (killOs ks s.o)=true/\k (mG σ τ B oc {s with o:=killOs ks s.o} d r o')))
 | .y as,some d=>d<s.n/\ ∃(σ τ:Nat->Nat) (B:Nat) (oc:aF) (ac:List AV) (R:AV->aF->Prop),Fits σ τ B oc s.o/\AV.labsL (dS oc) ac=true/\as=ac.map (AV.ren σ)/\zU P ac oc R/\ ∀r o',R r o'->oO σ τ oc o' s.o=true/\k (mG σ τ B oc s d r o')
 |_,_=>False
def X6 (P:Program) [Glob P] (t:TypeId):Bool:=(match P.underlying t with
 |some (.pointer te)=>(P.info? te).isSome
 |_=>false)&& !P.eqGuardType P.depth t
def oP (P:Program) [Glob P] (t:TypeId):Option AV->Option AV->Bool
 |some (.ptr L i k),some (.ptr L' i' k')=>decide (L=L'/\i=i'/\k=k')&&X6 P t
 |_,_=>false
def bytesOf:List AV->Option (List UInt8)
 | []=>some []
 | .sc (.int .u8 n)::r=>if 0<=n/\n<256 then(bytesOf r).map (UInt8.ofNat n.toNat:: ·)else none
 |_::_=>none
def aRj (P:Program) [Glob P] (src dst:TypeId):Bool:=match P.underlying src,P.underlying dst with
 |some (.slice e),some .string=>(match P.underlying e with
  |some (.int .u8)=>true
  |_=>false)
 |_,_=>false
def xH (P:Program) [Glob P] (t:TypeId) (ok:Bool) (d:Nat) (k:Value) (s:ASt):Option AObj->Option St
 |some x=>if gF P t k=true/\x.kd=1/\x.es=0 then(zP P t k ok x.xs).map fun r=>⟨decide (d<s.n),s.put d r⟩else none
 |none=>none
def J2 (P:Program) [Glob P] (t:TypeId) (ok:Bool) (d L:Nat) (s:ASt):Option Value->Option St
 |some k=>xH P t ok d k s (lk s.o L)
 |none=>none
def zV (P:Program) [Glob P] (t:TypeId) (ok:Bool) (d:Nat) (s:ASt):Option AV->Option AV->Option St
 |some (.mp L),some k=>J2 P t ok d L s (fJ k)
 |_,_=>none
def xI (P:Program) [Glob P] (t:TypeId) (s:ASt) (L:Nat) (v:AV):Option Value->Option St
 |some k=>(oN P t L k v s (lk s.o L)).map fun r=>⟨true,r⟩
 |none=>none
def xJ (P:Program) [Glob P] (t:TypeId) (s:ASt):Option AV->Option AV->Option AV->Option St
 |some (.mp L),some k,some v=>xI P t s L v (fJ k)
 |_,_,_=>none
def X7 (P:Program) [Glob P] (t:TypeId) (s:ASt) (L:Nat):Option Value->Option St
 |some k=>(vJ P t L k s (lk s.o L)).map fun r=>⟨true,r⟩
 |none=>none
def zW (P:Program) [Glob P] (t:TypeId) (s:ASt):Option AV->Option AV->Option St
 |some (.mp L),some k=>X7 P t s L (fJ k)
 |_,_=>none
def aGr (P:Program) [Glob P] (t:TypeId) (d:Nat) (s:ASt):Option AV->Option AV->Option St
 |some a,some b=>X2 P t a b d s
 |_,_=>none
theorem aRk {F:Bool->aZ} {o:aF} {μ:Pl} {w:World} {L lo n c:Nat} {v:Value} {x:AObj} (hg:lk o L=some x) (ho:lF F (aE o μ) w x (μ L)) (h:RV F (aE o μ) (.rc L lo n c) v) (hl:lo+n<=x.xs.length):RV F (aE o μ) (.ref L lo n) v:=by
 have hloc:aE o μ L=some (bV x (μ L)):=by simp[aE,hg]
 cases h with
 | @rc _ _ _ _ _ b cap es len p g1 g2 g3=>
  have g1':=g1
  rw[hloc]at g1
  obtain⟨hm,rfl,rfl,hk1⟩:=fB (Option.some.inj g1)
  rw[hm]at ho
  obtain⟨cc,ty,q1,q2,q3,q4,q5,q6,q7⟩:=ho.std hk1
  exact .ref g1' hl (by omega) (fun hne=>g3 (by rcases hne with hne|hne<;>omega)) (fun h0=>by omega)
def X8 (P:Program) (st xt:TypeId) (L lo n c:Nat) (b:AV) (d:Nat) (s:ASt):Option St:=
 match cE P st,fU P xt,mC s.o b,lk s.o L with
 |some (_,es,_),true,some ys,some x=>if x.arr=true/\x.fz=false/\x.kd≠1 then
  some ⟨decide (d<s.n/\(∀y∈ys,y.cells.length=es)/\x.es=es/\n+ys.length<=x.xs.length/\lo=0/\n+ys.length<=c),{s with o:=bR s.o L {x with xs:=splice x.xs ys n}}.put d (.rc L 0 (n+ys.length) c)⟩else none
 |_,_,_,_=>none
theorem aRl {P:Program} [Glob P] {C F μ} {s:ASt} {a:Act} {w:World} (h:SR C F μ s a w) {st xt ty:TypeId} {L lo n c:Nat} {b:AV} {vx vb:Value} (hx:RV F (aE s.o μ) (.rc L lo n c) vx) (hb:RV F (aE s.o μ) b vb) {d:Nat} {r:St}
 (he:X8 P st xt L lo n c b d s=some r) (hn:r.need):
 ∃v w',(Builtin.append_ #[st,xt] ty #[vx,vb]).run P w= .ok v w'/\SR C F μ r.st (a.put (some d) v) w':=by
 unfold X8 at he
 split at he
 ·rename_i e es by_ ys x h1 h2 hys hg
  split at he
  ·rename_i hc
   obtain⟨c1,c2,c3⟩:=hc
   obtain rfl:=Option.some.inj he
   obtain⟨n1,n2,rfl,n4,rfl,n5⟩:=of_decide_eq_true hn
   obtain⟨hvx,new,hnew,hnr⟩:=tT (P:=P) h.sw hys hb n2
   have hloc:aE s.o μ L=some (bV x (μ L)):=by simp[aE,hg]
   cases hx with
   | @rc _ _ _ _ _ blk cap es' len p g1 g2 g3=>
    have g1':=g1
    rw[hloc]at g1
    obtain⟨hm,rfl,rfl,hk1⟩:=fB (Option.some.inj g1)
    have hp:=g3 (.inl rfl)
    rw[Nat.zero_mul]at hp
    subst hp
    obtain⟨w',k1,k2⟩:=h.layRow hg hm c3 c2 c1 hnew (lo:=n) n4 (P:=P)
    refine⟨_,w',zJ (P:=P) (ty:=ty) (w':=w') h1 h2 hvx hnr (by omega) (fun q hq=>?_) (fun hq=>by cases hq),k2.put n1 ?_⟩
    ·obtain rfl:=Option.some.inj hq
     rw[nH,Nat.zero_add]
     exact k1
    ·have hlen:(splice x.xs ys n).length=x.xs.length:=H3 n4
     have hloc2:=pO (μ:=μ) (x':= {x with xs:=splice x.xs ys n}) hg (fun p=>nE (x:= {x with xs:=splice x.xs ys n}) (y:=x) rfl hlen rfl p)
     rw[show(({s with o:=bR s.o L {x with xs:=splice x.xs ys n}}:ASt)).o=bR s.o L {x with xs:=splice x.xs ys n} from rfl,hloc2]
     exact .rc g1' (by omega) (fun _=>by simp)
  ·cases he
 ·cases he
def tZ (P:Program) (st xt:TypeId) (d:Nat) (s:ASt):Option AV->Option AV->Option St
 |some (.rc L lo n c),some (.rc L' lo' n' c')=>X8 P st xt L lo n c (.rc L' lo' n' c') d s
 |_,_=>none
def xK (P:Program) [Glob P] (t:TypeId) (s:ASt):Option AV->Option St
 |some (.rc L lo n _)=>match lk s.o L with
  |some x=>if lo+n<=x.xs.length then qR P t s (some (.ref L lo n))else none
  |none=>none
 |a=>qR P t s a
def J3 (P:Program) (t:TypeId) (d:Nat) (s:ASt):Option AV->Option AV->Option AV->Option AV->Option St
 |some (.rc _ b _ c),some (.sc (.int _ l)),some (.sc (.int _ h)),some (.sc (.int _ m))=>match cE P t with
  |some _=>some ⟨decide (d<s.n/\0<=l/\l<=h/\h<=m/\(b:Int)+m<=c),s.put d .dead⟩
  |none=>none
 |_,_,_,_=>none
def aGs (P:Program) (t:TypeId) (d:Nat) (s:ASt):Option AV->Option AV->Option AV->Option St
 |some (.list lent _ xs),some (.sc (.int _ h)),some (.sc (.int _ m))=>match cE P t with
  |some (_,es,_)=>some ⟨decide (d<s.n/\h=xs.length/\m=xs.length/\ ∀y∈xs,y.cells.length=es),s.put d (.list lent true xs)⟩
  |none=>none
 |_,_,_=>none
def pQ (P:Program) [Glob P] (o:Oper) (s:ASt):Option St:=match o.op,o.dst with
 | .binOp .neq t x y _,some d=>if oP P t (ev s.t x) (ev s.t y)=true then some ⟨decide (d<s.n),s.put d (bl false)⟩else none
 | .makeMap _ none,some d=>some ⟨decide (d<s.n),s.renew d d d xF (.mp d)⟩
 | .lookup t m k ok,some d=>zV P t ok d s (ev s.t m) (ev s.t k)
 | .mapUpdate t m k x,none=>xJ P t s (ev s.t m) (ev s.t k) (ev s.t x)
 | .makeSlice t x y,some d=>zR P t d s (ev s.t x) (ev s.t y)
 | .call {callee:= .builtin .copy,args:=xs,argTypes:=ts},some d=>match xs.toList,ts.toList with
  | [x,y],[t,_]=>aGr P t d s (ev s.t x) (ev s.t y)
  |_,_=>none
 | .call {callee:= .builtin .clear,args:=xs,argTypes:=ts},none=>match xs.toList,ts.toList with
  | [x],[t]=>xK P t s (ev s.t x)
  |_,_=>none
 | .call {callee:= .builtin .append,args:=xs,argTypes:=ts},some d=>match xs.toList,ts.toList with
  | [x,y],[st,xt]=>tZ P st xt d s (ev s.t x) (ev s.t y)
  |_,_=>none
 | .slice t x (some lo) (some hi) (some mx),some d=>J3 P t d s (ev s.t x) (ev s.t lo) (ev s.t hi) (ev s.t mx)
 | .slice t x none (some hi) (some mx),some d=>aGs P t d s (ev s.t x) (ev s.t hi) (ev s.t mx)
 | .call {callee:= .builtin .delete,args:=xs,argTypes:=ts},none=>match xs.toList,ts.toList with
  | [x,y],[t,_]=>zW P t s (ev s.t x) (ev s.t y)
  |_,_=>none
 |_,_=>none
abbrev cG (b:Nat):AV:= .sc (.int .i64 b)
def X9 (y:AV) (b c:Nat):AV:=match y with
 | .tup (k::v::_)=> .tup [k,v,cG b,cG c]
 |y=>y
def lO (xs:List AV) (bs:List Nat) (c:Nat):List AV:=List.zipWith (fun y b=>X9 y b c) xs bs
abbrev zX (L c:Nat) (js:List Nat):AObj:=⟨false,false,false,2,.mp L::cG c::js.map cG,1⟩
def Y0 (P:Program) (t:TypeId):Bool:=match P.underlying t with
 |some (.map _ _)=>true
 |_=>false
def J4 (P:Program) (t:TypeId) (d L:Nat) (s:ASt):Option AObj->Option ((ASt->Prop)->Prop)
 |some x=>if Y0 P t=true/\x.kd=1/\x.es=0/\x.arr=true/\x.fz=false/\L≠d/\d<s.n then
  some fun k=> ∀(bs:List Nat) (c:Nat),bs.length=x.xs.length->bs.Nodup->(∀b∈bs,b<c)->k (({s with o:=bR s.o L {x with xs:=lO x.xs bs c}}:ASt).renew d d d (zX L c []) (.mp d))
  else none
 |none=>none
def J5 (P:Program) (t:TypeId) (d:Nat) (s:ASt):Option AV->Option ((ASt->Prop)->Prop)
 |some (.mp L)=>J4 P t d L s (lk s.o L)
 |_=>none
def Y1 (s:ASt) (d I L c:Nat) (pn:Bool) (seen xs:List AV) (k:ASt->Prop):Prop:=
 ∃js:List Nat,seen=js.map cG/\(∀y∈xs,∃kk v b,y= .tup [.sc kk,v,cG b,cG c]/\b<c)/\
  ((∀y∈xs,∃kk v b,y= .tup [.sc kk,v,cG b,cG c]/\b∈js)->k (s.put d (.tup [bl false])))/\
  ∀(i:Nat) (kk:Value) (v:AV) (b:Nat),xs[i]?=some (.tup [.sc kk,v,cG b,cG c])->b∉js->k (({s with o:=bR s.o I ⟨false,false,pn,2,.mp L::cG c::(js++ [b]).map cG,1⟩}:ASt).put d (.tup [bl true,oG kk,v]))
def Y2 (s:ASt) (d c:Nat) (seen xs:List AV) (k:ASt->Prop):Prop:=
 ∃(js:List Nat) (b i:Nat) (kk:Value) (v:AV),seen=(js++ [b]).map cG/\xs[i]?=some (.tup [.sc kk,v,cG b,cG c])/\k (s.put d (.tup [oG kk,v]))
def xL (s:ASt) (d I:Nat) (nx:Bool):Option AObj->Option ((ASt->Prop)->Prop)
 |some ⟨false,false,pn,2,.mp L:: .sc (.int .i64 c)::seen,1⟩=>match lk s.o L with
  |some x=>if x.kd=1/\x.es=0/\x.arr=true/\d<s.n/\0<=c then some (if nx=true then Y1 s d I L c.toNat pn seen x.xs else Y2 s d c.toNat seen x.xs)else none
  |none=>none
 |_=>none
def uA (s:ASt) (d:Nat) (nx:Bool):Option AV->Option ((ASt->Prop)->Prop)
 |some (.mp I)=>xL s d I nx (lk s.o I)
 |_=>none
def mH (P:Program) [Glob P] (o:Oper) (s:ASt):Option ((ASt->Prop)->Prop):=match o.op,o.dst with
 | .range t x,some d=>J5 P t d s (ev s.t x)
 | .next x false,some d=>uA s d true (ev s.t x)
 | .entry x,some d=>uA s d false (ev s.t x)
 |_,_=>none
def mI (P:Program) [Glob P] (t:TypeId) (y:Operand):Option AV->Bool
 |some (.list _ _ [])=>decide (tQ y=1/\aP P t=1)
 |_=>false
def Y3 (P:Program) [Glob P] (o:Oper) (s:ASt):Bool:=match o.op with
 | .binOp .eql t x y _=>mI P t y (ev s.t x)
 |_=>false
def Y4 (k:Bool->Prop):Prop:= ∀b,k b
def zY (q:Bool) (P:Program) [Glob P] (r:Res) (d:Option Nat) (k:ASt->Prop) (s:ASt):Prop:=match q with
 |false=>cL P r d k s
 |true=>match d with
  |some d=>d<s.n/\Y4 fun b=>k (s.put d (bl b))
  |none=>False
def bS (P:Program) [Glob P] (o:Oper) (k:ASt->Prop) (s:ASt):Prop:=match mH P o s with
 |some Q=>Q k
 |none=>match pQ P o s with
  |some r=>r.need/\k r.st
  |none=>zY (Y3 P o s) P (bA P o s) o.dst k s
def nM (ops:Array Oper) (j:Nat):Option Nat:=(ops[j]?).bind (·.dst)
inductive GV where
 |run
 |test (b want:Bool)
 |skip
 |bad
def gX (ops:Array Oper) (g:Option (Nat×Bool)) (s:ASt):GV:=
 match g with
 |none=> .run
 |some (j,want)=>match(nM ops j).bind (lk s.t)with
  |some (.sc (.bool b))=> .test b want
  |some (.tup [])=> .skip
  |_=> .bad
def uB (d:Option Nat) (k:ASt->Prop) (s:ASt):Prop:=
 match d with
 |some d=>d<s.n/\k (s.put d (.tup []))
 |none=>k s
theorem RV.und {F loc}:RV F loc (.tup []) undef:= .tup rfl (by intro i a v h;simp at h)
def gK (P:Program) [Glob P] (g:GV) (o:Oper) (k:ASt->Prop) (s:ASt):Prop:=
 match g with
 | .run=>bS P o k s
 | .test b want=>(b=want->bS P o k s)/\(b≠want->uB o.dst k s)
 | .skip=>uB o.dst k s
 | .bad=>False
theorem aGt {F loc} {a:Act} {ops:Array Oper} {j d:Nat} (hj:(ops[j]?).bind (·.dst)=some d) (hrv:RV F loc (.tup []) (a.tmps.getD d undef)):yielded ops a.tmps j=none:=by
 unfold yielded
 generalize hv:a.tmps.getD d undef=v at hrv
 cases hrv with
 |tup hl hr=>
  simp only[hj,Option.bind_some]
  rw[Array.getD_eq_getD_getElem?]at hv
  cases ht:a.tmps[d]? with
  |none=>rfl
  |some u=>simp[ht]at hv;subst hv;rfl
def nN (P:Program) [Glob P] (ops:Array Oper):List Oper->(ASt->Prop)->ASt->Prop
 | [],k,s=>k s
 |o::r,k,s=>gK P (gX ops o.guard s) o (nN P ops r k) s
def Le (s0 s:ASt):Prop:= ∀C F μ a w,SR C F μ s a w-> ∃F' μ',SR C F' μ' s0 a w
theorem Le.refl (s:ASt):Le s s:=fun _ F μ _ _ h=>⟨F,μ,h⟩
theorem Le.trans {a b c:ASt} (h:Le a b) (k:Le b c):Le a c:=fun C F μ x w hs=>by
 obtain⟨F1,μ1,h1⟩:=k C F μ x w hs
 exact h C F1 μ1 x w h1
def mJ (ro:Option Nat) (P:Program) [Glob P] (o:Oper) (a:Act) (next:Act->World->Prop) (Q:Exit->Act->World->Prop):Result Next->Prop
 | .ok (.value v) w'=>next (a.put o.dst v) w'
 | .ok .skip w'=>next (a.put o.dst undef) w'
 | .ok (.enter f args) w'=>Calls P f args w' fun
  | .returned v,w''=>next (a.put o.dst v) w''
  | .panicked chain,w''=>Q (.panic chain) a w''
  | .outgrown,_=>LetsOut Q
 | .ok (.round l f tmps assign body) w'=>RoundIn (fW none) 0 P l f tmps assign body w' fun
  | .returned v,w''=>next (a.put o.dst v) w''
  | .panicked chain,w''=>Q (.panic chain) a w''
  | .outgrown,_=>LetsOut Q
 | .halt (.panic v) w'=>Q (.panic [{v,recovered:=false}]) a w'
 |_=>False
def oW (ro:Option Nat) (P:Program) [Glob P] (o:Oper) (a:Act) (w:World) (next:Act->World->Prop) (Q:Exit->Act->World->Prop):Prop:=mJ ro P o a next Q ((execOp a.eval o).run P w)
def wOp (ro:Option Nat) (P:Program) [Glob P] (ops:Array Oper) (Q:Exit->Act->World->Prop) (i:Nat) (K:Act->World->Prop) (a:Act) (w:World):Prop:=
 match ops[i]? with
 |none=>K a w
 |some o=>if Region.wanted o (yielded ops a.tmps)then oW ro P o a w K Q else K (a.put o.dst undef) w
def Y5 (ro:Option Nat) (P:Program) [Glob P] (ops:Array Oper) (Q:Exit->Act->World->Prop):List Nat->Act->World->Prop
 | [],a,w=>Q .normal a w
 |i::rest,a,w=>wOp ro P ops Q i (Y5 ro P ops Q rest) a w
def iG (ro:Option Nat) (P:Program) [Glob P] (md:Region.Mode) (ops:Array Oper) (Q:Exit->Act->World->Prop):Nat->Array Bool->Act->World->Prop
 |0,listed,a,w=>Region.ready md ops listed= []/\Q .normal a w
 |fuel+1,listed,a,w=>
  (Region.ready md ops listed= []->Q .normal a w)/\
  ∀i∈Region.ready md ops listed,wOp ro P ops Q i (iG ro P md ops Q fuel (listed.setIfInBounds i true)) a w
section
variable {ro : Option Nat} {P : Program} [Glob P] {ops : Array Oper} {Q : Exit -> Act -> World -> Prop}
theorem nO {o:Oper} {a:Act} {next:Act->World->Prop} (v:Value) (w:World):mJ ro P o a next Q (.ok (.value v) w)=next (a.put o.dst v) w:=rfl
theorem aGu {o:Oper} {a:Act} {next:Act->World->Prop} (w:World):mJ ro P o a next Q (.ok .skip w)=next (a.put o.dst undef) w:=rfl
theorem J6 {o:Oper} {a:Act} {next:Act->World->Prop} (f:FuncId) (args:Array Value) (w:World):mJ ro P o a next Q (.ok (.enter f args) w)=Calls P f args w fun
 | .returned v,w''=>next (a.put o.dst v) w''
 | .panicked chain,w''=>Q (.panic chain) a w''
 | .outgrown,_=>LetsOut Q:=rfl
theorem aRm {o:Oper} {a:Act} {next:Act->World->Prop} (l:Nat) (f:FuncId) (tmps:Array Value) (assign body:Code) (w:World):mJ ro P o a next Q (.ok (.round l f tmps assign body) w)=RoundIn (fW none) 0 P l f tmps assign body w fun
 | .returned v,w''=>next (a.put o.dst v) w''
 | .panicked chain,w''=>Q (.panic chain) a w''
 | .outgrown,_=>LetsOut Q:=rfl
theorem aGv {n:Nat} {f:FuncId} {args:Array Value} {w:World} {R:Ending->World->Prop} (h:Calls P f args w R):CallsIn (fW ro) n P f args w R:=(callsIn_wide (n:=n)).2 h
theorem aRn {o:Oper} {a:Act} {w:World} {next next':Act->World->Prop} (hn: ∀a w,next a w->next' a w) (h:oW ro P o a w next Q):o.wpIn (fW ro) 0 P a w next' Q:=by
 refine⟨fun _ _=>trivial,?_⟩
 unfold oW at h
 have hd: ∀c,o.op= .defer c-> ∀v w',(execOp a.eval o).run P w= .halt (.panic v) w'->(o.semAt ro a.eval).run P w= .halt (.panic v) w':=by
  intro c hc v w' hr
  unfold Oper.semAt
  cases ro with
  |none=>exact hr
  |some l=>
   simp only[hc]
   simp only[execOp,hc,Sem.run_bind]at hr ⊢
   cases hq:(resolve a.eval c o.type).run P w with
   |ok d w2=>rw[hq]at hr;simp[Result.andThen,Sem.run_pure]at hr
   |halt x w2=>rw[hq]at hr;simpa[Result.andThen]using hr
 by_cases hdef: ∃c,o.op= .defer c
 ·obtain⟨c,hc⟩:=hdef
  cases hr:(execOp a.eval o).run P w with
  |ok x w'=>
   rw[hr]at h
   simp only[execOp,hc,Sem.run_bind]at hr
   cases hq:(resolve a.eval c o.type).run P w with
   |ok d w2=>
    rw[hq]at hr
    simp[Result.andThen,Sem.run_pure]at hr
    obtain⟨rfl,rfl⟩:=hr
    exact h.elim
   |halt y w2=>rw[hq]at hr;simp[Result.andThen]at hr
  |halt x w'=>
   rw[hr]at h
   cases x<;>first|exact h.elim|skip
   rename_i v
   have:=hd c hc v w' hr
   show o.uponIn (fW ro) 0 P a next' Q ((o.semAt ro a.eval).run P w)
   rw[this]
   exact h
 ·have he:o.semAt ro a.eval=execOp a.eval o:=Oper.semAt_eq ro a.eval o fun c hc=>hdef ⟨c,hc⟩
  show o.uponIn (fW ro) 0 P a next' Q ((o.semAt ro a.eval).run P w)
  rw[he]
  generalize(execOp a.eval o).run P w=r at h ⊢
  cases r with
  |ok x w'=>
   cases x<;>first|exact h.elim|skip
   ·exact hn _ _ h
   ·exact hn _ _ h
   ·exact⟨(fun hx=>by cases hx),CallsIn.mono (aGv h) fun e w'' he=>by cases e<;>first|exact hn _ _ he|exact he⟩
   ·exact⟨(fun hx=>by cases hx),RoundIn.mono (RoundIn.fW h) fun e w'' he=>by cases e<;>first|exact hn _ _ he|exact he⟩
  |halt x w'=>cases x<;>first|exact h.elim|exact h
theorem aGw {i:Nat} {K K':Act->World->Prop} (hK: ∀a w,K a w->K' a w) {a:Act} {w:World} (h:wOp ro P ops Q i K a w):wpOpIn (fW ro) 0 P ops Q i K' a w:=by
 unfold wOp at h
 unfold wpOpIn
 cases ho:ops[i]? with
 |none=>simp only[ho]at h ⊢;exact hK _ _ h
 |some o=>
  simp only[ho]at h ⊢
  by_cases hw:Region.wanted o (yielded ops a.tmps)=true
  ·rw[if_pos hw]at h ⊢;exact aRn hK h
  ·rw[if_neg hw]at h ⊢;exact⟨fun _ _=>trivial,hK _ _ h⟩
theorem aGx: ∀{l:List Nat} {a:Act} {w:World},Y5 ro P ops Q l a w->wpOpsIn (fW ro) 0 P ops Q l a w
 | [],a,w,h=>h
 |i::rest,a,w,h=>by
  rw[wpOpsIn_cons]
  exact aGw (fun a w h=>aGx h) h
theorem Y6 {md:Region.Mode}: ∀{fuel:Nat} {X:Array Bool} {a:Act} {w:World},iG ro P md ops Q fuel X a w->wpAnyIn (fW ro) 0 P md ops Q fuel X a w
 |0,X,a,w,h=>h
 |fuel+1,X,a,w,h=>⟨h.1,fun i hi=>aGw (fun a w h=>Y6 h) (h.2 i hi)⟩
end
def mark (D:Nat):Deferred:= {target:= .collected D,args:= #[]}
structure Mk (C:Cx) (w:World) (ds:List Deferred):Prop where
 nodup:ds.Pairwise (fun d d'=> ∀D,d=mark D->d'≠mark D)
 each: ∀d∈ds,∃D,d=mark D/\w.heap[D]?=some (.deferred (some []))/\C.w0.heap.size<=D
def Cx.at (C:Cx) (ds:List Deferred):Cx:= {C with df:=ds}
instance {P:Program} [Glob P] {C:Cx} [h:GOk P C] {ds:List Deferred}:GOk P (C.at ds):=⟨h.it⟩
def AWp (ro:Option Nat) (P:Program) [Glob P] (c:Code) (Q:Exit->ASt->Prop) (s:ASt):Prop:=
 ∀C [GOk P C] F μ a w,Mk C w a.defers->SR (C.at a.defers) F μ s a w->c.wpIn (fW ro) 0 P (fun e a' w'=> ∃F' μ' s',Q e s'/\Mk C w' a'.defers/\SR (C.at a'.defers) F' μ' s' a' w') a w
theorem AWp.le {ro P c Q} [Glob P] {s0 s:ASt} (h:AWp ro P c Q s0) (hl:Le s0 s):AWp ro P c Q s:=fun C _ F μ a w hm hs=>by
 obtain⟨F',μ',h'⟩:=hl _ F μ a w hs
 exact h C F' μ' a w hm h'
theorem Y7 {C μ} {a:Act} {w:World}: ∀{fs:List Nat} {F} {s s1:ASt},SR C F μ s a w->lN fs s=some s1-> ∃F',FLe F F'/\SR C F' μ s1 a w/\s1.n=s.n/\aE s1.o μ=aE s.o μ
 | [],F,s,s1,h,he=>by simp[lN]at he;subst he;exact⟨F,FLe.refl _,h,rfl,rfl⟩
 |L::fs,F,s,s1,h,he=>by
  simp only[lN]at he
  split at he
  ·rename_i x hg
   split at he
   ·rename_i ha
    obtain⟨F',h1,h2⟩:=h.freeze hg (.inl ha)
    obtain⟨F2,k1,k2,k3,k4⟩:=Y7 h2 he
    exact⟨F2,h1.trans k1,k2,k3,k4.trans (pO (x':=x.frz) hg (fun _=>rfl))⟩
   ·cases he
  ·cases he
def aRo (P:Program) [Glob P] (o:Oper) (k:ASt->Prop) (s:ASt):Prop:=
 ∀ro C [GOk P C] F μ a w (next:Act->World->Prop) (Q:Exit->Act->World->Prop),SR C F μ s a w->(∀a' w' s' F' μ',k s'->SR C F' μ' s' a' w'->next a' w')->oW ro P o a w next Q
theorem dU {C F μ} {s:ASt} {a:Act} {w:World} (h:SR C F μ s a w): ∀x b,ev s.t x=some b->RV F (aE s.o μ) b (a.eval x):=fun x b hb=>aPy h hb
theorem aRp {x:Option Sv} {r:Sv} (h:eJ x= .v r):x=some r:=by cases x<;>simp_all [eJ]
theorem aRq {x:Option Sv} {r:St} (h:eJ x= .h r):False:=by cases x<;>simp_all [eJ]
theorem zZ {x:Option Sv} {g as} (h:eJ x= .c g as):False:=by cases x<;>simp_all [eJ]
theorem A0 {x:Option St} {r:St} (h:iP x= .h r):x=some r:=by cases x<;>simp_all [iP]
theorem A1 {x:Option St} {r:Sv} (h:iP x= .v r):False:=by cases x<;>simp_all [iP]
theorem pR {x:Option St} {g as} (h:iP x= .c g as):False:=by cases x<;>simp_all [iP]
theorem aRr {x:Option Sv} {as} (h:eJ x= .y as):False:=by cases x<;>simp_all [eJ]
theorem A2 {x:Option St} {as} (h:iP x= .y as):False:=by cases x<;>simp_all [iP]
theorem vM {P:Program} [Glob P] {o:Oper} {s:ASt} {r:Sv} (h:bA P o s= .v r):eD P o (dA P s.t) s.o=some r:=by
 unfold bA at h
 split at h
 ·exact(A1 h).elim
 ·split at h
  ·exact(A1 h).elim
  ·cases h
 ·split at h
  ·exact(A1 h).elim
  ·cases h
 ·exact(A1 h).elim
 ·split at h
  ·split at h
   ·exact(A1 h).elim
   ·cases h
  ·cases h
 ·split at h
  ·cases h
  ·cases h
  ·cases h
 ·exact aRp h
 ·cases h
theorem aRs {P:Program} [Glob P] {o:Oper} {s:ASt} {r:St} (h:bA P o s= .h r) (hn:r.need) {C F μ} {a:Act} {w:World} (hs:SR C F μ s a w):
 (∃d v w' F' μ',o.dst=some d/\(execOp a.eval o).run P w= .ok (.value v) w'/\SR C F' μ' r.st (a.put (some d) v) w')\/
 (∃w' F' μ',o.dst=none/\(execOp a.eval o).run P w= .ok .skip w'/\SR C F' μ' r.st a w'):=by
 unfold bA at h
 split at h
 ·rename_i t d ho hd
  obtain⟨v,w',μ',h1,h2⟩:=aQl hs (A0 h) hn
  exact .inl ⟨d,v,w',F,μ',hd,by simp[execOp,ho,h1],h2⟩
 ·rename_i t x d ho hd
  split at h
  ·rename_i b hb
   obtain⟨v,w',μ',h1,h2⟩:=aQm (P:=P) (t:=t) hs (dU hs x b hb) (A0 h) hn
   exact .inl ⟨d,v,w',F,μ',hd,by simp[execOp,ho,h1],h2⟩
  ·cases h
 ·rename_i t p x ho hd
  split at h
  ·rename_i b c hb hc
   obtain⟨w',F',μ',h1,h2⟩:=aQn (P:=P) hs (dU hs p b hb) (dU hs x c hc) (A0 h)
   exact .inr ⟨w',F',μ',hd,by simp[execOp,ho,h1],h2⟩
  ·cases h
 ·rename_i t len parts d ho hd
  obtain⟨v,w',F',μ',h1,h2⟩:=aQs (P:=P) hs (dU hs) (A0 h) hn
  exact .inl ⟨d,v,w',F',μ',hd,by simp[execOp,ho,h1],h2⟩
 ·rename_i xs ts d ho hd
  split at h
  ·rename_i x y st xt hxs hts
   split at h
   ·rename_i b c hb hc
    obtain⟨v,w',μ',h1,h2⟩:=aQr (P:=P) (ty:=o.type) hs (dU hs x b hb) (dU hs y c hc) (A0 h) hn
    have hx:xs= #[x,y]:=by cases xs;simp_all
    have ht:ts= #[st,xt]:=by cases ts;simp_all
    subst hx;subst ht
    exact .inl ⟨d,v,w',F,μ',hd,by simp[execOp,ho,resolve,invoke,builtin,h1],h2⟩
   ·cases h
  ·cases h
 ·split at h
  ·cases h
  ·cases h
  ·cases h
 ·exact(aRq h).elim
 ·cases h
theorem aGy {P:Program} [Glob P] {o:Oper} {s:ASt} {g:FuncId} {as:List AV} (h:bA P o s= .c g as) {C F μ} {a:Act} {w:World} (hs:SR C F μ s a w):
 ∃cargs:Array Value,(execOp a.eval o).run P w=(callFunc g cargs).run P w/\as.length=cargs.size/\ ∀(i:Nat) (x:AV) (v:Value),as[i]?=some x->cargs[i]?=some v->RV F (aE s.o μ) x v:=by
 unfold bA at h
 split at h
 ·exact(pR h).elim
 ·split at h
  ·exact(pR h).elim
  ·cases h
 ·split at h
  ·exact(pR h).elim
  ·cases h
 ·exact(pR h).elim
 ·split at h
  ·split at h
   ·exact(pR h).elim
   ·cases h
  ·cases h
 ·rename_i f xs ts d ho hd
  split at h
  ·rename_i g' caps as' hf hcs
   obtain⟨rfl,rfl⟩:g'=g/\as'++caps=as:=by simpa using h
   have hfv:=dU hs f _ hf
   generalize hfe:a.eval f=fv at hfv
   cases hfv with
   | @clo _ _ _ _ vs h1 h2=>
    obtain⟨m1,m2⟩:=rR hcs
    refine⟨xs.map a.eval++vs,?_,by simp[m1,h1],fun i x v hx hv=>?_⟩
    ·simp[execOp,ho,resolve,Deferred.ofValue,hfe,invoke]
    ·by_cases hi:i<as'.length
     ·rw[List.getElem?_append_left hi]at hx
      rw[Array.getElem?_append_left (by simp;rw[m1]at hi;simpa using hi)]at hv
      simp only[Array.getElem?_map]at hv
      cases hxi:xs[i]? with
      |none=>simp[hxi]at hv
      |some y=>
       simp[hxi]at hv
       subst hv
       exact dU hs y x (m2 i y x (by simpa using hxi) hx)
     ·rw[List.getElem?_append_right (by omega)]at hx
      have hxl:xs.size=as'.length:=by rw[m1];simp
      rw[Array.getElem?_append_right (by simp;omega)]at hv
      simp only[Array.size_map,hxl]at hv
      exact h2 _ x v hx hv
  ·cases h
  ·cases h
 ·exact(zZ h).elim
 ·cases h
theorem aRt {P:Program} [Glob P] {o:Oper} {s:ASt} {as:List AV} (h:bA P o s= .y as) {C F μ} {a:Act} {w:World} (hs:SR C F μ s a w):
 ∃(l:Nat) (rest:Array Value),(execOp a.eval o).run P w=(Instr.yield l rest).run P w/\as.length=(#[Value.func (.yield l) #[] #[]]++rest).size/\ ∀(i:Nat) (x:AV) (v:Value),as[i]?=some x->(#[Value.func (.yield l) #[] #[]]++rest)[i]?=some v->RV F (aE s.o μ) x v:=by
 unfold bA at h
 split at h
 ·exact(A2 h).elim
 ·split at h
  ·exact(A2 h).elim
  ·cases h
 ·split at h
  ·exact(A2 h).elim
  ·cases h
 ·exact(A2 h).elim
 ·split at h
  ·split at h
   ·exact(A2 h).elim
   ·cases h
  ·cases h
 ·rename_i f xs ts d ho hd
  split at h
  ·cases h
  ·rename_i L as' hf hcs
   obtain rfl: .yl L::as'=as:=by simpa using h
   have hfv:=dU hs f _ hf
   generalize hfe:a.eval f=fv at hfv
   cases hfv with
   | @yl _ _ _ b cap len h1=>
    obtain⟨m1,m2⟩:=rR hcs
    refine⟨b,xs.map a.eval,?_,by simp[m1];omega,fun i x v hx hv=>?_⟩
    ·simp[execOp,ho,resolve,Deferred.ofValue,hfe,invoke]
    ·cases i with
     |zero=>
      rw[Array.getElem?_append_left (by simp)]at hv
      simp at hx hv;subst hx;subst hv;exact .yl h1
     |succ i=>
      rw[Array.getElem?_append_right (by simp)]at hv
      simp only[List.getElem?_cons_succ]at hx
      simp only[List.size_toArray,List.length_cons,List.length_nil,Nat.zero_add,Nat.add_sub_cancel,Array.getElem?_map]at hv
      cases hxi:xs[i]? with
      |none=>simp[hxi]at hv
      |some y=>
       simp[hxi]at hv
       subst hv
       exact dU hs y x (m2 i y x (by simpa using hxi) hx)
  ·cases h
 ·exact(aRr h).elim
 ·cases h
theorem J7 {P:Program} [Glob P] {o:Oper} {s:ASt} {g:FuncId} {as:List AV} (h:bA P o s= .c g as) {C F μ} {a:Act} {w:World} (hs:SR C F μ s a w) (hcall: ∀cargs w,(callFunc g cargs).run P w= .ok (.enter g cargs) w):
 ∃cargs:Array Value,(execOp a.eval o).run P w= .ok (.enter g cargs) w/\as.length=cargs.size/\ ∀(i:Nat) (x:AV) (v:Value),as[i]?=some x->cargs[i]?=some v->RV F (aE s.o μ) x v:=by
 obtain⟨cargs,h1,h2,h3⟩:=aGy h hs
 exact⟨cargs,by rw[h1,hcall],h2,h3⟩
theorem aRu {P:Program} [Glob P] {o:Oper} {s:ASt} {r:St} (h:pQ P o s=some r) (hn:r.need) {C F μ} {a:Act} {w:World} (hs:SR C F μ s a w):
 (∃d v w' F' μ',o.dst=some d/\(execOp a.eval o).run P w= .ok (.value v) w'/\SR C F' μ' r.st (a.put (some d) v) w')\/
 (∃w' F' μ',o.dst=none/\(execOp a.eval o).run P w= .ok .skip w'/\SR C F' μ' r.st a w')\/
 (∃v w' F' μ',o.dst=none/\(execOp a.eval o).run P w= .ok (.value v) w'/\SR C F' μ' r.st a w'):=by
 unfold pQ at h
 split at h
 ·rename_i t x y yt d ho hd
  split at h
  ·rename_i hc
   obtain rfl:=Option.some.inj h
   unfold oP at hc
   split at hc
   ·rename_i L i k L' i' k' hx hy
    simp only[Bool.and_eq_true,decide_eq_true_eq]at hc
    obtain⟨⟨rfl,rfl,rfl⟩,hpt⟩:=hc
    have hvx:=dU hs x _ hx
    have hvy:=dU hs y _ hy
    refine .inl ⟨d,.bool false,w,F,μ,hd,?_,hs.put (of_decide_eq_true hn) (.sc rfl)⟩
    generalize hex:a.eval x=vx at hvx
    generalize hey:a.eval y=vy at hvy
    cases hvx with
    | @ptr _ _ _ _ _ b cap es len g1 g2=>
     cases hvy with
     | @ptr _ _ _ _ _ b' cap' es' len' g1' g2'=>
      rw[g1]at g1'
      simp at g1'
      obtain⟨⟨rfl,_⟩,rfl,_⟩:=g1'
      unfold X6 at hpt
      simp only[Bool.and_eq_true,Bool.not_eq_true']at hpt
      obtain⟨hp1,hp2⟩:=hpt
      split at hp1
      ·rename_i te hte
       obtain⟨j,hj⟩:=Option.isSome_iff_exists.1 hp1
       have h1:=Lib.run_neq_ptr_same (P:=P) w ⟨b,i*es+k,none⟩ hte hj
       have hg:(eqGuard .neq t x y (.pointer (some ⟨b,i*es+k,none⟩)) (.pointer (some ⟨b,i*es+k,none⟩))).run P w= .ok () w:=by
        unfold eqGuard
        simp[hp2]
       simp[execOp,ho,hex,hey,hg,h1]
      ·cases hp1
   ·cases hc
  ·cases h
 ·rename_i t d ho hd
  obtain rfl:=Option.some.inj h
  obtain⟨v,w',μ',h1,h2⟩:=aQ0 (P:=P) hs (t:=t) (of_decide_eq_true hn)
  exact .inl ⟨d,v,w',F,μ',hd,by simp[execOp,ho,h1],h2⟩
 ·rename_i t m k ok d ho hd
  unfold zV at h
  split at h
  ·rename_i L ka hm hk
   unfold J2 at h
   split at h
   ·rename_i kv hkv
    unfold xH at h
    split at h
    ·rename_i x hg
     split at h
     ·rename_i hc
      obtain⟨hc,hc1,hc2⟩:=hc
      simp only[Option.map_eq_some_iff]at h
      obtain⟨y,hy,rfl⟩:=h
      obtain⟨v,h1,h2⟩:=aQ1 hs hc hg hc1 hc2 (dU hs m _ hm) hy
      have hek:a.eval k=kv:=(vB (dU hs k _ hk) hkv).symm
      exact .inl ⟨d,v,w,F,μ,hd,by simp[execOp,ho,hek,h1],hs.put (of_decide_eq_true hn) h2⟩
     ·cases h
    ·cases h
   ·cases h
  ·cases h
 ·rename_i t m k x ho hd
  unfold xJ at h
  split at h
  ·rename_i L ka v hm hk hx
   unfold xI at h
   split at h
   ·rename_i kv hkv
    simp only[Option.map_eq_some_iff]at h
    obtain⟨s1,hy,rfl⟩:=h
    obtain⟨w',F',μ',h1,h2⟩:=aQ8 hs (dU hs m _ hm) (dU hs x _ hx) hy
    have hek:a.eval k=kv:=(vB (dU hs k _ hk) hkv).symm
    exact .inr (.inl ⟨w',F',μ',hd,by simp[execOp,ho,hek,h1],h2⟩)
   ·cases h
  ·cases h
 ·rename_i t x y d ho hd
  cases hx:ev s.t x with
  |none=>rw[hx]at h;simp[zR]at h
  |some xa=>cases hy:ev s.t y with
   |none=>rw[hx,hy]at h;unfold zR at h;split at h<;>simp_all
   |some ya=>
    rw[hx,hy]at h
    obtain⟨v,w',μ',h1,h2⟩:=aRb hs (dU hs x _ hx) (dU hs y _ hy) h hn
    exact .inl ⟨d,v,w',F,μ',hd,by simp[execOp,ho,h1],h2⟩
 ·rename_i xs ts d ho hd
  split at h
  ·rename_i x y pt it hxs hts
   have hx1:xs= #[x,y]:=by cases xs;simp_all
   have ht1:ts= #[pt,it]:=by cases ts;simp_all
   subst hx1;subst ht1
   unfold aGr at h
   split at h
   ·rename_i xa ya hx hy
    obtain⟨v,w',h1,h2⟩:=aRg (xt:=it) (ty:=o.type) hs (dU hs x _ hx) (dU hs y _ hy) h hn
    exact .inl ⟨d,v,w',F,μ,hd,by simp[execOp,ho,resolve,invoke,builtin,h1],h2⟩
   ·cases h
  ·cases h
 ·rename_i xs ts ho hd
  split at h
  ·rename_i x t hxs hts
   have hx1:xs= #[x]:=by cases xs;simp_all
   have ht1:ts= #[t]:=by cases ts;simp_all
   subst hx1;subst ht1
   cases hx:ev s.t x with
   |none=>rw[hx]at h;simp[xK,qR]at h
   |some xa=>
    rw[hx]at h
    have key: ∃xb,RV F (aE s.o μ) xb (a.eval x)/\qR P t s (some xb)=some r:=by
     unfold xK at h
     split at h
     ·rename_i L lo n c hq
      obtain rfl:=Option.some.inj hq
      split at h
      ·rename_i y hg
       split at h
       ·rename_i hle
        exact⟨_,aRk hg (hs.sw.obj L y hg) (dU hs x _ hx) hle,h⟩
       ·cases h
      ·cases h
     ·exact⟨xa,dU hs x _ hx,h⟩
    obtain⟨xb,hxb,h⟩:=key
    obtain⟨w',h1,h2⟩:=aRh (ty:=o.type) hs hxb h hn
    exact .inr (.inr ⟨.tuple #[],w',F,μ,hd,by simp[execOp,ho,resolve,invoke,builtin,h1],h2⟩)
  ·cases h
 ·rename_i xs ts d ho hd
  split at h
  ·rename_i x y st xt hxs hts
   have hx1:xs= #[x,y]:=by cases xs;simp_all
   have ht1:ts= #[st,xt]:=by cases ts;simp_all
   subst hx1;subst ht1
   unfold tZ at h
   split at h
   ·rename_i L lo n c L' lo' n' c' hx hy
    obtain⟨v,w',h1,h2⟩:=aRl (P:=P) (ty:=o.type) hs (dU hs x _ hx) (dU hs y _ hy) h hn
    exact .inl ⟨d,v,w',F,μ,hd,by simp[execOp,ho,resolve,invoke,builtin,h1],h2⟩
   ·cases h
  ·cases h
 ·rename_i t x lo hi mx d ho hd
  unfold J3 at h
  split at h
  ·rename_i L b n c k1 l k2 hh k3 m hx hl hhi hm
   split at h
   ·rename_i q ht
    obtain⟨e,es,by_⟩:=q
    obtain rfl:=Option.some.inj h
    obtain⟨n1,n2,n3,n4,n5⟩:=of_decide_eq_true hn
    obtain⟨hu,hsz,_⟩:=gV ht w
    have hvx:=dU hs x _ hx
    have hel:a.eval lo= .int k1 l:=by
     have:=dU hs lo _ hl
     generalize a.eval lo=z at this
     cases this;rfl
    have heh:a.eval hi= .int k2 hh:=by
     have:=dU hs hi _ hhi
     generalize a.eval hi=z at this
     cases this;rfl
    have hem:a.eval mx= .int k3 m:=by
     have:=dU hs mx _ hm
     generalize a.eval mx=z at this
     cases this;rfl
    generalize hex:a.eval x=vx at hvx
    cases hvx with
    | @rc _ _ _ _ _ blk cap es' len p g1 g2 g3=>
     have e1:(Instr.sliceBound (.int k3 m) (c - b) .slice3Acap).run P w= .ok m.toNat w:=run_sliceBound _ _ _ _ _ (by omega) (by omega)
     have e2:(Instr.sliceBound (.int k2 hh) m.toNat .slice3B).run P w= .ok hh.toNat w:=run_sliceBound _ _ _ _ _ (by omega) (by omega)
     have e3:(Instr.sliceBound (.int k1 l) hh.toNat .slice3C).run P w= .ok l.toNat w:=run_sliceBound _ _ _ _ _ (by omega) (by omega)
     obtain⟨z,hz⟩: ∃z,(Instr.sliceAt t (.slice (some ⟨blk,p,none⟩) n (c - b)) (some (.int k1 l)) (some (.int k2 hh)) (some (.int k3 m))).run P w= .ok z w:=by
      simp only[Instr.sliceAt,Sem.run_bind,hu,Result.andThen_ok,Instr.slice,Instr.sliceBounds,if_true,Option.isSome_some,e1,e2,e3,hsz,Sem.run_pure]
      exact⟨_,rfl⟩
     exact .inl ⟨d,z,w,F,μ,hd,by simp[execOp,ho,hex,hel,heh,hem,hz],hs.put n1 .dead⟩
   ·cases h
  ·cases h
 ·rename_i t x hi mx d ho hd
  unfold aGs at h
  split at h
  ·rename_i lent kH xs k2 hh k3 m hx hhi hm
   split at h
   ·rename_i e es by_ ht
    obtain rfl:=Option.some.inj h
    obtain⟨n1,n2,n3,n4⟩:=of_decide_eq_true hn
    obtain⟨hu,hsz,_⟩:=gV ht w
    have hvx:=dU hs x _ hx
    have heh:a.eval hi= .int k2 hh:=by
     have:=dU hs hi _ hhi
     generalize a.eval hi=z at this
     cases this;rfl
    have hem:a.eval mx= .int k3 m:=by
     have:=dU hs mx _ hm
     generalize a.eval mx=z at this
     cases this;rfl
    generalize hex:a.eval x=vx at hvx
    cases hvx with
    | @nil _ _ _ _ base=>
     have n2:hh=0:=n2
     have n3:m=0:=n3
     subst n2;subst n3
     have e1:(Instr.sliceBound (.int k3 0) 0 .slice3Acap).run P w= .ok 0 w:=run_sliceBound _ _ _ _ _ (by omega) (by omega)
     have e2:(Instr.sliceBound (.int k2 0) 0 .slice3B).run P w= .ok 0 w:=run_sliceBound _ _ _ _ _ (by omega) (by omega)
     have hz:(Instr.sliceAt t (.slice base 0 0) none (some (.int k2 0)) (some (.int k3 0))).run P w= .ok (.slice base 0 0) w:=by
      simp[Instr.sliceAt,hu,Instr.slice,Instr.sliceBounds,e1,e2,hsz]
     exact .inl ⟨d,.slice base 0 0,w,F,μ,hd,by simp[execOp,ho,hex,heh,hem,hz],hs.put n1 .nil⟩
    | @list _ _ _ _ _ b p p' cap es' f g1 g2 g3 g4 g5 g6 g7 g8=>
     have e1:(Instr.sliceBound (.int k3 m) cap .slice3Acap).run P w= .ok m.toNat w:=run_sliceBound _ _ _ _ _ (by omega) (by omega)
     have e2:(Instr.sliceBound (.int k2 hh) m.toNat .slice3B).run P w= .ok hh.toNat w:=run_sliceBound _ _ _ _ _ (by omega) (by omega)
     have hml:m.toNat=xs.length:=by omega
     have hhl:hh.toNat=xs.length:=by omega
     have hz:(Instr.sliceAt t (.slice (some ⟨b,p',none⟩) xs.length cap) none (some (.int k2 hh)) (some (.int k3 m))).run P w= .ok (.slice (some ⟨b,p',none⟩) xs.length xs.length) w:=by
      rw[hml]at e1 e2
      rw[hhl]at e2
      simp[Instr.sliceAt,hu,Instr.slice,Instr.sliceBounds,e1,e2,hsz,nH]
     exact .inl ⟨d,.slice (some ⟨b,p',none⟩) xs.length xs.length,w,F,μ,hd,by simp[execOp,ho,hex,heh,hem,hz],hs.put n1 (.list g1 (Nat.le_refl _) g3 (fun _=>rfl) g5 g6 g7 g8)⟩
   ·cases h
  ·cases h
 ·rename_i xs ts ho hd
  split at h
  ·rename_i x y mt kt0 hxs hts
   have hx1:xs= #[x,y]:=by cases xs;simp_all
   have ht1:ts= #[mt,kt0]:=by cases ts;simp_all
   subst hx1;subst ht1
   unfold zW at h
   split at h
   ·rename_i L ka hm hk
    unfold X7 at h
    split at h
    ·rename_i kv hkv
     simp only[Option.map_eq_some_iff]at h
     obtain⟨s1,hy,rfl⟩:=h
     obtain⟨w',h1,h2⟩:=aQ9 (kt0:=kt0) (ty:=o.type) hs (dU hs x _ hm) hy
     have hek:a.eval y=kv:=(vB (dU hs y _ hk) hkv).symm
     exact .inr (.inr ⟨.tuple #[],w',F,μ,hd,by simp[execOp,ho,resolve,invoke,builtin,hek,h1],h2⟩)
    ·cases h
   ·cases h
  ·cases h
 ·cases h
theorem aRv {P:Program} [Glob P] {t:TypeId} {e} (hu:P.underlying t=some (.slice e)) (w:World) (d:Nat):(Op.equalIn (d+1) t (.slice none 0 0) (.slice none 0 0)).run P w= .ok true w:=by
 simp only[Op.equalIn,Sem.run_bind,jW hu,Result.andThen_ok]
 rfl
theorem aRw {P:Program} [Glob P] {o:Oper} {s:ASt} (h:Y3 P o s=true) {C F μ} {a:Act} {w:World} (hs:SR C F μ s a w): ∃b,(execOp a.eval o).run P w= .ok (.value (.bool b)) w:=by
 unfold Y3 at h
 split at h
 ·rename_i t x y yt ho
  unfold mI at h
  split at h
  ·rename_i l f hx
   obtain⟨h1,h2⟩:=of_decide_eq_true h
   have hrv:=dU hs x _ hx
   have hy:a.eval y= .slice none 0 0:=by
    unfold tQ at h1
    split at h1<;>first|rfl|omega
   unfold aP at h2
   split at h2<;>first|cases h2|skip
   rename_i e hu
   have hcases:(∃b,(Op.equal t (a.eval x) (.slice none 0 0)).run P w= .ok b w)/\ ∃base n c,a.eval x= .slice base n c:=by
    generalize hxs:([]:List AV)=xs at hrv
    generalize a.eval x=u at hrv
    cases hrv with
    | @nil _ _ _ _ base=>
     refine⟨?_,_,_,_,rfl⟩
     cases base with
     |none=>exact⟨true,aRv hu w 9999⟩
     |some p=>exact⟨false,U4 hu p 0 0 w 9999⟩
    |list=>exact⟨⟨false,U4 hu _ _ _ w 9999⟩,_,_,_,rfl⟩
   obtain⟨⟨b,hb⟩,base,n,c,hv⟩:=hcases
   rw[hv]at hb
   have hg:(eqGuard .eql t x y (.slice base n c) (.slice none 0 0)).run P w= .ok () w:=by
    unfold eqGuard;rfl
   refine⟨b,?_⟩
   have e1:binOp .eql t (.slice base n c) (.slice none 0 0)=(do pure (.bool (<-Op.equal t (.slice base n c) (.slice none 0 0)))):=rfl
   simp only[execOp,ho,hy,hv,Sem.run_bind,Result.andThen_ok,hg,e1,hb]
   rfl
  ·cases h
 ·cases h
theorem aRx {P:Program} (w:World) (ty:TypeId) {r bm since:Nat} {seen:Array Nat} {es:Array MapEntry} {clock:Nat} (hr:w.heap[r]?=some (.mapIter (some bm) since seen since)) (hb:w.heap[bm]?=some (.map es clock)) (hold: ∀x∈es.toList,x.born<since):
 ((∀x∈es.toList,seen.contains x.born=true)/\(Instr.next (.pointer (some ⟨r,0,none⟩)) false ty).run P w= .ok (.tuple #[.bool false]) w)\/
 ∃e∈es.toList,seen.contains e.born=false/\ ∃n,(Instr.next (.pointer (some ⟨r,0,none⟩)) false ty).run P w= .ok (.tuple #[.bool true,e.key,e.val]) {w with drawn:=w.drawn+n,heap:=w.heap.setIfInBounds r (.mapIter (some bm) since (seen.push e.born) clock)}:=by
 simp only[Instr.next,getObj,Sem.run_bind,Sem.run,hr,hb,Result.andThen,next_test_false seen es since since hold (Nat.le_refl _),Bool.false_eq_true,if_false]
 have hmem: ∀x∈(Array.filter (fun e=> !seen.contains e.born) es).toList,x.born<since:=fun x hx=>hold x (by simp at hx ⊢;exact hx.1)
 have hin: ∀x∈(Array.filter (fun e=> !seen.contains e.born) es).toList,x∈es.toList/\seen.contains x.born=false:=fun x hx=>mem_left hx
 have hall:(Array.filter (fun e=> !seen.contains e.born) es).size=0-> ∀x∈es.toList,seen.contains x.born=true:=fun h0 x hx=>by
  cases hc:seen.contains x.born with
  |true=>rfl
  |false=>
   have:x∈Array.filter (fun e=> !seen.contains e.born) es:=Array.mem_filter.2 ⟨Array.mem_toList_iff.1 hx,by rw[hc];rfl⟩
   rw[Array.eq_empty_of_size_eq_zero h0]at this
   simp at this
 generalize Array.filter (fun e=> !seen.contains e.born) es=L at hmem hin hall ⊢
 have e1:L.filter (fun x=>decide (x.born<since))=L:=Array.filter_eq_self.2 (fun x hx=>by simpa using hmem x (by simpa using hx))
 have e2:L.filter (fun x=>decide (x.born≥since))= #[]:=by
  rw[Array.filter_eq_empty_iff]
  intro x hx
  have:=hmem x (by simpa using hx)
  simp
  omega
 simp only[e1,e2,Array.append_empty]
 by_cases h0:L.size=0
 ·left
  refine⟨hall h0,?_⟩
  have:L= #[]:=Array.eq_empty_of_size_eq_zero h0
  subst this
  simp[choose,Sem.run,Question.forced]
 ·right
  have hne:L.isEmpty=false:=by simp[Array.isEmpty,h0]
  simp only[hne,Bool.false_eq_true,if_false,Array.empty_append,Array.size_map]
  have hch: ∃(j n:Nat),j<L.size/\(choose (Question.mapNext L.size)).run P w= .ok j {w with drawn:=w.drawn+n}:=by
   by_cases hf:L.size<=1
   ·exact⟨0,0,by omega,by simp[choose,Sem.run,Question.forced,hf]⟩
   ·exact⟨_,1,Nat.mod_lt _ (by omega),by
     simp only[choose,Sem.run,Question.forced,decide_eq_true_eq,hf,if_false,Question.cut]
     rfl⟩
  obtain⟨j,n,hj,hrun⟩:=hch
  obtain⟨g1,g2⟩:=hin L[j] (by simp)
  refine⟨L[j],g1,g2,n,?_⟩
  simp only[hrun,Array.getElem?_map,Array.getElem?_eq_getElem hj,Option.map_some,Sem.run_bind,Result.andThen,setObj,Sem.run,hr]
  rfl
theorem aRy {P:Program} (w:World) {r bm since:Nat} {seen:Array Nat} {es:Array MapEntry} {clock:Nat} {e:MapEntry} (hr:w.heap[r]?=some (.mapIter (some bm) since (seen.push e.born) clock)) (hb:w.heap[bm]?=some (.map es clock)) (he:e∈es.toList) (hn:(es.toList.map (·.born)).Nodup):
 (Instr.entry (.pointer (some ⟨r,0,none⟩))).run P w= .ok (.tuple #[e.key,e.val]) w:=by
 have hf:es.find? (·.born==e.born)=some e:=by rw[<-Array.find?_toList];exact find_born e es.toList hn he
 simp only[Instr.entry,getObj,Sem.run_bind,Sem.run,hr,hb,Result.andThen,Array.back?_push,bne_self_eq_false,Bool.false_eq_true,if_false,hf]
 rfl
theorem aGz {F loc} {k:Value} (h:vA k=true):RV F loc (oG k) k:=by
 unfold oG
 split
 ·rename_i cs
  have h': ∀c∈cs.toList,gD c=true:=List.all_eq_true.1 (show(cs.toList.all fun c=>gD c)=true from h)
  refine .agg (by simp) (fun i a v ha hv=>?_) (fun i v hv=>G8 (h' v (by simpa using List.mem_of_getElem? (by simpa using hv:cs.toList[i]?=some v))))
  have hv':cs.toList[i]?=some v:=by simpa using hv
  rw[List.getElem?_map,hv']at ha
  obtain rfl:=Option.some.inj ha
  exact .sc (h' v (List.mem_of_getElem? hv'))
 ·rename_i hk
  refine .sc ?_
  unfold vA at h
  split at h
  ·exact absurd rfl (hk _)
  ·exact h
theorem SR.words {C F μ} {s:ASt} {a:Act} {w:World} (h:SR C F μ s a w) {L:Nat} {x x':AObj} (hg:lk s.o L=some x) (h1: ∀p,bV x' p=bV x p) (h3:x'.pin=x.pin) (h4:x'.arr=x.arr) {b cap:Nat} (hm:μ L=some (b,cap)) (hz:x.fz=false) (hz':x'.fz=false)
 (ho:ObjAt F (aE s.o μ) w x' b cap):SR C F μ {s with o:=bR s.o L x'} a w:=by
 have hloc:=pO (μ:=μ) hg h1
 exact⟨h.sw.turn hg h1 h3 h4 hm hz hz' (Fr.refl _ w) rfl ho,h.defers,h.n,fun k z hk=>by rw[hloc];exact h.slot k z hk⟩
theorem SR.alike {C F μ} {n:Nat} {t:List (Nat×AV)} {o o':aF} {a:Act} {w:World} (h:SR C F μ ⟨n,t,o⟩ a w) (e: ∀L,lk o' L=lk o L):SR C F μ ⟨n,t,o'⟩ a w:=by
 have hl:aE o' μ=aE o μ:=by funext L;simp[aE,e]
 exact⟨h.sw.same e,h.defers,h.n,fun i x hi=>by rw[hl];exact h.slot i x hi⟩
theorem aRz {P:Program} [Glob P] {C F μ} {s:ASt} {a:Act} {w:World} (hs:SR C F μ s a w) {t:TypeId} {d L:Nat} {m:Value} (hm:RV F (aE s.o μ) (.mp L) m) {q:(ASt->Prop)->Prop} (hq:J4 P t d L s (lk s.o L)=some q) {k:ASt->Prop} (h:q k):
 ∃v w' μ' s',(Instr.range t m).run P w= .ok v w'/\k s'/\SR C F μ' s' (a.put (some d) v) w':=by
 unfold J4 at hq
 split at hq
 ·rename_i x hg
  split at hq
  ·rename_i hc
   obtain⟨ht,c1,c2,c3,c4,c5,c6⟩:=hc
   obtain rfl:=Option.some.inj hq
   obtain⟨b,cap,es,ck,rfl,e2,k5,k8,k4,hes,_⟩:=vI hs hm hg c1 c2
   obtain⟨s1,s2,_⟩:=(MapKept.stamped_iff es ck).1 k8
   have hln:(es.toList.map MapEntry.born).length=x.xs.length:=by simp[hes.1]
   have hk:=h (es.toList.map MapEntry.born) ck hln s2 (fun b hb=>by obtain⟨e,he,rfl⟩:=List.mem_map.1 hb;exact s1 e he)
   obtain⟨kt,et,hu⟩: ∃kt et,P.underlying t=some (.map kt et):=by
    unfold Y0 at ht
    split at ht
    ·exact⟨_,_,by assumption⟩
    ·cases ht
   generalize hX:({x with xs:=lO x.xs (es.toList.map MapEntry.born) ck}:AObj)=X at hk
   have hXk:X.kd=1:=by rw[<-hX];exact c1
   have hXa:X.arr=true:=by rw[<-hX];exact c3
   have hXe:X.es=0:=by rw[<-hX];exact c2
   have hXz:X.fz=false:=by rw[<-hX];exact c4
   have h1:SR C F μ {s with o:=bR s.o L X} a w:=by
    refine hs.words hg (fun p=>by rw[<-hX];simp[bV,c1]) (by rw[<-hX]) (by rw[<-hX]) e2 c4 hXz ?_
    have hxl:X.xs.length=x.xs.length:=by rw[<-hX];simp[lO,hes.1]
    refine .inr (.inl ⟨hXk,hXa,by omega,es,ck,k5,⟨by rw[hxl];exact hes.1,k8⟩,fun i e y he hy=>?_⟩)
    rw[<-hX]at hy
    simp only[lO,List.getElem?_zipWith]at hy
    have hil:=(Array.getElem?_eq_some_iff.1 he).1
    have hix:i<x.xs.length:=by rw[<-hes.1];exact hil
    obtain⟨v,r,g1,g2,g3,g4⟩:=hes.2 i e x.xs[i] he (List.getElem?_eq_getElem hix)
    have hbn:(es.toList.map MapEntry.born)[i]?=some e.born:=by
     rw[List.getElem?_map,Array.getElem?_toList,he];rfl
    rw[List.getElem?_eq_getElem hix,hbn]at hy
    simp only[g1,X9,Option.some.injEq]at hy
    rw[c3]at g2
    exact⟨v,_,hy.symm,g2,g3,.inr rfl⟩
   have hrun:(Instr.range t (.map (some b))).run P w= .ok (.pointer (some ⟨w.heap.size,0,none⟩)) (w.alloc (.mapIter (some b) ck #[] ck)):=run_range_map w t kt et b es ck hu k5
   refine⟨_,_,bJ μ d (some (w.heap.size,0)),_,hrun,hk,?_⟩
   have h2:=h1.renew0x (L:=d) (T:=d) (x:=⟨false,false,false,2,[.dead,cG ck],1⟩) (w':=w.alloc (.mapIter (some b) ck #[] ck)) (p:=some (w.heap.size,0)) rfl rfl
    ⟨rfl,rfl,rfl,by simp,fun k hk _=>pN hk,Nat.le_refl _⟩
    (.inr (.inr ⟨rfl,rfl,_,tR,rfl,.dead,[cG ck],rfl,.dead,rfl,fun i c n hc hn=>by
     match i with
     |0=>simp at hc hn;subst hc;subst hn;exact .sc rfl
     |i+1=>simp at hc⟩))
    (fun b c hbc=> .inl (h1.sw.nb (by simp at hbc;omega)))
   have hlocL:aE (({s with o:=bR s.o L X}:ASt).renew0 d d ⟨false,false,false,2,[.dead,cG ck],1⟩).o (bJ μ d (some (w.heap.size,0))) L=some ⟨some (b,cap),0,0,true⟩:=by
    simp only[aE,ASt.renew0,lk,if_neg (Ne.symm c5),rX,qN,nJ,if_true,Option.map_some,bJ,if_neg c5,e2]
    have hkk:dO d (dO d X)=X:=by simp[dO,hXa]
    rw[hkk]
    simp[bV,hXk,hXe]
   have h3:=h2.words (L:=d) (x:=⟨false,false,false,2,[.dead,cG ck],1⟩) (x':=zX L ck []) (b:=w.heap.size) (cap:=0) (by show lk ((d,_)::_) d=_;simp[lk]) (fun p=>rfl) rfl rfl (by simp[bJ]) rfl rfl
    (.inr (.inr ⟨rfl,rfl,_,tR,rfl,.mp L,[cG ck],rfl,.mp hlocL rfl,rfl,fun i c n hc hn=>by
     match i with
     |0=>simp at hc hn;subst hc;subst hn;exact .sc rfl
     |i+1=>simp at hc⟩))
   have h4:=SR.alike (o':=(d,zX L ck [])::killO d (killO d (cK (bR s.o L X) d))) h3 (fun M=>by
    simp only[ASt.renew0,bR,lk]
    by_cases hM:d=M
    ·rw[if_pos hM,if_pos hM]
    ·rw[if_neg hM,if_neg hM,if_neg hM])
   refine h4.put c6 (.mp (b:=w.heap.size) (cap:=0) (es:=2) (len:=0) ?_ rfl)
   simp[aE,lk,bJ,bV]
  ·cases hq
 ·cases hq
theorem aG0 {C F μ} {s:ASt} {a:Act} {w:World} (hs:SR C F μ s a w) {v:Value} {I c:Nat} {pn:Bool} {js:List Nat} {y:AV} (hx:RV F (aE s.o μ) (.mp I) v) (hg:lk s.o I=some ⟨false,false,pn,2,y:: .sc (.int .i64 c)::js.map cG,1⟩):
 ∃b cap m seen,v= .pointer (some ⟨b,0,none⟩)/\μ I=some (b,cap)/\w.heap[b]?=some (.mapIter (some m) c seen c)/\RV F (aE s.o μ) y (.map (some m))/\seen.toList=js:=by
 have ho:=hs.sw.obj I _ hg
 cases hx with
 | @mp _ _ _ b cap es len _ g1 g2=>
  simp only[aE,hg,Option.map_some]at g1
  obtain⟨hm,hk,hk2⟩:=T5 (Option.some.inj g1)
  rw[hm]at ho
  obtain rfl:(2:Nat)=es:=hk2
  obtain rfl:=Option.some.inj (show some (Value.pointer (some ⟨b,0,none⟩))=some v from g2)
  obtain⟨_,_,r,k5,k6⟩:=ObjAt.loop ho rfl rfl
  have k6:OddOf F (aE s.o μ) 2 r (y:: .sc (.int .i64 c)::js.map cG):=k6
  cases r with
  |mapIter mo since seen last=>
   cases mo with
   |none=>exact(show False from k6).elim
   |some m=>
    obtain⟨rfl,a',ts,e1,e2,e3,e4⟩:=(show aEl _ _ _ _ _ _ _ from k6)
    rw[List.cons.injEq]at e1
    obtain⟨rfl,e9⟩:=e1
    subst e9
    have hc:c=last:=by
     have:=e4 0 _ last rfl rfl
     generalize hv:Value.int .i64 (last:Int)=u at this
     cases this
     simp at hv;omega
    subst hc
    refine⟨b,cap,m,seen,rfl,hm,k5,e2,?_⟩
    have hl:seen.toList.length=js.length:=by simp at e3;simp;omega
    refine List.ext_getElem hl fun i h1 h2=>?_
    have:=e4 (i+1) (cG js[i]) seen.toList[i] (by simp[h2]) (by simp[h1])
    generalize hv:Value.int .i64 (seen.toList[i]:Int)=u at this
    cases this
    simp at hv ⊢;omega
  |_=>exact(show False from k6).elim
theorem aG1 {P:Program} [Glob P] {C F μ} {s:ASt} {a:Act} {w:World} (hs:SR C F μ s a w) {ty:TypeId} {d I:Nat} {v:Value} (hv:RV F (aE s.o μ) (.mp I) v) {nx:Bool} {q:(ASt->Prop)->Prop} (hq:xL s d I nx (lk s.o I)=some q) {k:ASt->Prop} (h:q k):
 ∃u w' s',(if nx=true then Instr.next v false ty else Instr.entry v).run P w= .ok u w'/\k s'/\SR C F μ s' (a.put (some d) u) w':=by
 unfold xL at hq
 split at hq
 ·rename_i pn L c0 seen hgI
  split at hq
  ·rename_i x hg
   split at hq
   ·rename_i hc
    obtain⟨c1,c2,c3,c6,c7⟩:=hc
    obtain⟨c,rfl⟩: ∃c:Nat,c0=c:=⟨c0.toNat,by omega⟩
    rw[Int.toNat_natCast]at hq
    obtain rfl:=Option.some.inj hq
    cases nx with
    |true=>
     obtain⟨js,rfl,hst,h1,h2⟩:=h
     obtain⟨bi,ci,m,sn,rfl,i2,i3,i4,i5⟩:=aG0 hs hv hgI
     obtain⟨b,cap,es,ck,e0,e2,k5,k8,k4,hes,_⟩:=vI hs i4 hg c1 c2
     obtain rfl:m=b:=by injection e0 with e0;injection e0
     have hent: ∀(j:Nat) (e:MapEntry),es[j]?=some e-> ∃v,x.xs[j]?=some (.tup [.sc e.key,v,cG e.born,cG c])/\RV F (aE s.o μ) v e.val/\vA e.key=true/\e.born<c/\ck=c:=fun j e he=>by
      have hjl:=(Array.getElem?_eq_some_iff.1 he).1
      have hjx:j<x.xs.length:=by rw[<-hes.1];exact hjl
      obtain⟨v,r,g1,g2,g3,g4⟩:=hes.2 j e x.xs[j] he (List.getElem?_eq_getElem hjx)
      obtain⟨kk,v',b',f1,f2⟩:=hst x.xs[j] (List.getElem_mem hjx)
      rw[g1]at f1
      simp only[AV.tup.injEq,List.cons.injEq,AV.sc.injEq]at f1
      obtain⟨rfl,rfl,rfl⟩:=f1
      rcases g4 with g4|g4
      ·cases g4
      ·simp only[List.cons.injEq,AV.sc.injEq,Value.int.injEq,true_and,and_true]at g4
       have e1:b'=e.born:=by omega
       have e2:c=ck:=by omega
       subst e1 e2
       exact⟨v,by rw[List.getElem?_eq_getElem hjx,g1],mapR.up g2 hs.sw.sub,g3,f2,rfl⟩
     have hold: ∀e∈es.toList,e.born<c:=fun e he=>by
      obtain⟨j,hj⟩:=List.mem_iff_getElem?.1 he
      obtain⟨_,_,_,_,g,_⟩:=hent j e (by simpa using hj)
      exact g
     rcases aRx (P:=P) w ty i3 k5 hold with⟨hall,hr⟩|⟨e,he,hns,n,hr⟩
     ·refine⟨_,w,_,hr,h1 fun y hy=>?_,hs.put c6 ?_⟩
      ·obtain⟨j,hj⟩:=List.mem_iff_getElem?.1 hy
       have hjl:j<es.size:=by rw[hes.1];exact(List.getElem?_eq_some_iff.1 hj).1
       obtain⟨v,g1,_⟩:=hent j es[j] (Array.getElem?_eq_getElem hjl)
       rw[hj]at g1
       refine⟨_,v,es[j].born,Option.some.inj g1,?_⟩
       have:=hall es[j] (by simp)
       rw[<-i5]
       simpa using this
      ·exact .tup rfl fun i a v ha hv=>by
        match i with
        |0=>simp at ha hv;subst ha;subst hv;exact .sc rfl
        |i+1=>simp at ha
     ·obtain⟨j,hj⟩:=List.mem_iff_getElem?.1 he
      obtain⟨v,g1,g2,g3,g4,rfl⟩:=hent j e (by simpa using hj)
      have hnj:e.born∉js:=by
       rw[<-i5]
       intro hc
       simp only[Array.contains_eq_mem,decide_eq_false_iff_not]at hns
       exact hns (by simpa using hc)
      refine⟨_,_,_,hr,h2 j e.key v e.born g1 hnj,?_⟩
      have hbl:=gJ i3
      have hd1:SR C F μ s a {w with drawn:=w.drawn+n}:=⟨hs.sw.drew rfl rfl rfl rfl (Nat.le_add_right _ _),hs.defers,hs.n,hs.slot⟩
      have hlc: ∀p,bV ⟨false,false,pn,2,.mp L::cG ck::(js++ [e.born]).map cG,1⟩ p=bV ⟨false,false,pn,2,.mp L:: .sc (.int .i64 ck)::js.map cG,1⟩ p:=fun p=>rfl
      have hloc:=pO (μ:=μ) hgI hlc
      have h3:SR C F μ {s with o:=bR s.o I ⟨false,false,pn,2,.mp L::cG ck::(js++ [e.born]).map cG,1⟩} a {w with drawn:=w.drawn+n,heap:=w.heap.setIfInBounds bi (.mapIter (some m) ck (sn.push e.born) ck)}:=by
       refine⟨hd1.sw.turn hgI hlc rfl rfl i2 rfl rfl ⟨rfl,rfl,rfl,by simp,fun k hk hkb=>by simp only[Array.getElem?_setIfInBounds];rw[if_neg (fun q=>hkb q.symm)],Nat.le_refl _⟩ (by simp) ?_,hd1.defers,hd1.n,fun k z hk=>by rw[hloc];exact hd1.slot k z hk⟩
       refine .inr (.inr ⟨rfl,rfl,.mapIter (some m) ck (sn.push e.born) ck,(by simp only[Array.getElem?_setIfInBounds,if_true];rw[if_pos hbl]),rfl,.mp L,_,rfl,i4,by simp[<-i5],fun i c' n' hc hn=>?_⟩)
       match i with
       |0=>simp at hc hn;subst hc;subst hn;exact .sc rfl
       |i+1=>
        simp only[List.getElem?_cons_succ,Array.toList_push,i5]at hc hn
        rw[List.getElem?_map,hn]at hc
        obtain rfl:=Option.some.inj hc
        exact .sc rfl
      refine h3.put c6 (.tup rfl fun i a v' ha hv'=>?_)
      rw[show(({s with o:=bR s.o I ⟨false,false,pn,2,.mp L::cG ck::(js++ [e.born]).map cG,1⟩}:ASt)).o=bR s.o I ⟨false,false,pn,2,.mp L::cG ck::(js++ [e.born]).map cG,1⟩from rfl,hloc]
      match i with
      |0=>simp at ha hv';subst ha;subst hv';exact .sc rfl
      |1=>simp at ha hv';subst ha;subst hv';exact aGz g3
      |2=>simp at ha hv';subst ha;subst hv';exact g2
      |i+3=>simp at ha
    |false=>
     obtain⟨js,b0,i,kk,v0,rfl,hxi,h1⟩:=h
     obtain⟨bi,ci,m,sn,rfl,i2,i3,i4,i5⟩:=aG0 hs hv hgI
     obtain⟨b,cap,es,ck,e0,e2,k5,k8,k4,hes,_⟩:=vI hs i4 hg c1 c2
     obtain rfl:m=b:=by injection e0 with e0;injection e0
     obtain⟨s1,s2,_⟩:=(MapKept.stamped_iff es ck).1 k8
     have hil:i<es.size:=by rw[hes.1];exact(List.getElem?_eq_some_iff.1 hxi).1
     obtain⟨v,r,g1,g2,g3,g4⟩:=hes.2 i es[i] _ (Array.getElem?_eq_getElem hil) hxi
     simp only[AV.tup.injEq,List.cons.injEq,AV.sc.injEq]at g1
     obtain⟨rfl,rfl,rfl⟩:=g1
     rcases g4 with g4|g4
     ·cases g4
     ·simp only[List.cons.injEq,AV.sc.injEq,Value.int.injEq,true_and,and_true]at g4
      have e1:b0=es[i].born:=by omega
      have e3:c=ck:=by omega
      subst e1 e3
      have hsn:sn=js.toArray.push es[i].born:=by
       rw[<-Array.toList_inj,i5];simp
      rw[hsn]at i3
      have hr:=aRy (P:=P) w (e:=es[i]) i3 k5 (by simp) s2
      refine⟨_,w,_,hr,h1,hs.put c6 (.tup rfl fun i a v' ha hv'=>?_)⟩
      match i with
      |0=>simp at ha hv';subst ha;subst hv';exact aGz g3
      |1=>simp at ha hv';subst ha;subst hv';exact mapR.up g2 hs.sw.sub
      |i+2=>simp at ha
   ·cases hq
  ·cases hq
 ·cases hq
theorem aR0 {P:Program} [Glob P] {o:Oper} {s:ASt} {q:(ASt->Prop)->Prop} (hq:mH P o s=some q) {k:ASt->Prop} (h:q k) {C F μ} {a:Act} {w:World} (hs:SR C F μ s a w):
 ∃d v w' F' μ' s',o.dst=some d/\(execOp a.eval o).run P w= .ok (.value v) w'/\k s'/\SR C F' μ' s' (a.put (some d) v) w':=by
 unfold mH at hq
 split at hq
 ·rename_i t x d ho hd
  unfold J5 at hq
  split at hq
  ·rename_i L hx
   obtain⟨v,w',μ',s',h1,h2,h3⟩:=aRz hs (dU hs x _ hx) hq h
   exact⟨d,v,w',F,μ',s',hd,by simp[execOp,ho,h1],h2,h3⟩
  ·cases hq
 ·rename_i x d ho hd
  unfold uA at hq
  split at hq
  ·rename_i I hx
   obtain⟨v,w',s',h1,h2,h3⟩:=aG1 (P:=P) (ty:=o.type) hs (dU hs x _ hx) hq h
   rw[if_pos rfl]at h1
   exact⟨d,v,w',F,μ,s',hd,by simp[execOp,ho,h1],h2,h3⟩
  ·cases hq
 ·rename_i x d ho hd
  unfold uA at hq
  split at hq
  ·rename_i I hx
   obtain⟨v,w',s',h1,h2,h3⟩:=aG1 (P:=P) (ty:=o.type) hs (dU hs x _ hx) hq h
   rw[if_neg (by simp)]at h1
   exact⟨d,v,w',F,μ,s',hd,by simp[execOp,ho,h1],h2,h3⟩
  ·cases hq
 ·cases hq
theorem aG2 {P:Program} [Glob P] {o:Oper} {k:ASt->Prop} {s:ASt} (h:bS P o k s):aRo P o k s:=by
 intro ro C _ F μ a w next Q hs hk
 unfold bS at h
 split at h
 ·rename_i q hq
  obtain⟨d,v,w',F',μ',s',hd,h1,h2,h3⟩:=aR0 hq h hs
  unfold oW
  rw[h1,nO,hd]
  exact hk _ _ _ _ _ h2 h3
 split at h
 ·rename_i r hr
  obtain⟨hn,h⟩:=h
  rcases aRu hr hn hs with⟨d,v,w',F',μ',hd,h1,h2⟩|⟨w',F',μ',hd,h1,h2⟩|⟨v,w',F',μ',hd,h1,h2⟩
  ·unfold oW
   rw[h1,nO,hd]
   exact hk _ _ _ _ _ h h2
  ·unfold oW
   rw[h1,aGu,hd]
   exact hk _ _ _ _ _ h h2
  ·unfold oW
   rw[h1,nO,hd]
   exact hk _ _ _ _ _ h h2
 unfold zY at h
 split at h
 rotate_left
 ·rename_i hq
  split at h
  ·rename_i d hd
   obtain⟨hdn,h⟩:=h
   obtain⟨b,hb⟩:=aRw hq hs
   unfold oW
   rw[hb,nO,hd]
   exact hk _ _ _ _ _ (h b) (hs.put hdn (.sc rfl))
  ·exact h.elim
 unfold cL at h
 split at h
 ·rename_i r d hr hd
  obtain⟨hn,hdn,h⟩:=h
  obtain⟨z,h1,h2⟩:=U6 hs.sw (kT (P:=P) hs) (fun _=>rfl) (vM hr) hn
  unfold oW
  rw[h1,nO,hd]
  exact hk _ _ _ _ _ h (hs.put hdn h2)
 ·rename_i r hr
  obtain⟨hn,h⟩:=h
  rcases aRs hr hn hs with⟨d,v,w',F',μ',hd,h1,h2⟩|⟨w',F',μ',hd,h1,h2⟩
  ·unfold oW
   rw[h1,nO,hd]
   exact hk _ _ _ _ _ h h2
  ·unfold oW
   rw[h1,aGu,hd]
   exact hk _ _ _ _ _ h h2
 ·rename_i g as d hr hd
  obtain⟨hdn,⟨fs,s1,bs,R,hf,hl,hc,hk'⟩|⟨K,B,R,hB,hc,hk'⟩|⟨x,hc,hk'⟩|⟨ks,σ,τ,B,oc,ac,R,hf,hac,has,hc,hk'⟩⟩:=h
  ·obtain⟨cargs,h1,h2,h3⟩:=J7 hr hs hc.1
   obtain⟨F1,f1,f2,f3,f4⟩:=Y7 hs hf
   obtain⟨l1,l2⟩:=V8 f2.sw hl
   have hcalls:=hc.2 w (mE F1 w) cargs ((GOk.at (P:=P) f2.sw.grow).mono fun b k v e=>e) (aFw f2.sw) (by omega) (fun i b v hb hv=>by
    have hi:i<as.length:=by rw[<-l1];exact(List.getElem?_eq_some_iff.1 hb).1
    exact l2 i as[i] b (by simp[hi]) hb v (by rw[f4];exact(h3 i as[i] v (by simp[hi]) hv).mono f1))
   unfold oW
   rw[h1,J6]
   refine hcalls.mono ?_
   rintro e w' ⟨v,r,F',rfl,hR,hp,hres⟩
   obtain⟨F2,μ',k1⟩:=aQx f2 hp hres (d:=d) (by rw[f3];exact hdn)
   show next (a.put o.dst v) w'
   rw[hd]
   exact hk _ _ _ _ _ (hk' r hR) k1
  ·obtain⟨cargs,h1,h2,h3⟩:=J7 hr hs hc.1
   unfold oW
   rw[h1,J6]
   refine(hc.use inferInstance hs hB hdn h2 h3).mono ?_
   rintro e w' ⟨v,r,o',F',μ',rfl,hR,k1⟩
   show next (a.put o.dst v) w'
   rw[hd]
   exact hk _ _ _ _ _ (hk' r o' hR) k1
  ·obtain⟨cargs,h1,h2,h3⟩:=aGy hr hs
   obtain⟨v,g1,g2⟩:=hc C F μ a w hs cargs h2 h3
   unfold oW
   rw[h1,g1,nO,hd]
   exact hk _ _ _ _ _ hk' (hs.put hdn g2)
  ·obtain⟨cargs,h1,h2,h3⟩:=J7 hr hs hc.1
   subst has
   unfold oW
   rw[h1,J6]
   refine(hc.useF inferInstance (hs.killOs ks) hf hac hdn (fun r o' hR=>(hk' r o' hR).1) (by simpa using h2) (fun i x v hx hv=>by rw[aGq];exact h3 i (x.ren σ) v (by rw[List.getElem?_map,hx];rfl) hv)).mono ?_
   rintro e w' ⟨v,r,o',F',μ',rfl,hR,k1⟩
   show next (a.put o.dst v) w'
   rw[hd]
   exact hk _ _ _ _ _ (hk' r o' hR).2 k1
 ·rename_i as d hr hd
  obtain⟨hdn,σ,τ,B,oc,ac,R,hf,hac,has,hc,hk'⟩:=h
  obtain⟨l,rest,h1,h2,h3⟩:=aRt hr hs
  subst has
  have:=GCall.useF (fun c w R R' h hr=>YG.mono c w R R' h hr) hc ⟨GOk.at (P:=P) hs.sw.grow⟩ hs hf hac hdn (fun r o' hR=>(hk' r o' hR).1) (by simpa using h2) (fun i x v hx hv=>h3 i (x.ren σ) v (by rw[List.getElem?_map,hx];rfl) hv)
  obtain⟨l',rest',fn,tmps,as,bd,g1,g2,g3⟩:=this
  obtain⟨rfl,rfl⟩:l=l'/\rest=rest':=by
   have e:=congrArg Array.toList g1
   simp at e
   exact⟨e.1,by cases rest;cases rest';simp_all⟩
  unfold oW
  rw[h1,g2,aRm]
  refine g3.mono ?_
  rintro e w' ⟨v,r,o',F',μ',rfl,hR,k1⟩
  show next (a.put o.dst v) w'
  rw[hd]
  exact hk _ _ _ _ _ (hk' r o' hR).2 k1
 ·exact h.elim
theorem Y8 {ro:Option Nat} {P:Program} [Glob P] {ops:Array Oper} {Q:Exit->Act->World->Prop} {o:Oper} {i:Nat} (ho:ops[i]?=some o) {k:ASt->Prop} {s:ASt} (h:gK P (gX ops o.guard s) o k s) {C F μ} [GOk P C] {a:Act} {w:World} (hs:SR C F μ s a w)
 {K:Act->World->Prop} (rest: ∀a' w' s' F' μ',k s'->SR C F' μ' s' a' w'->K a' w'):wOp ro P ops Q i K a w:=by
 simp only[wOp,ho]
 unfold gK at h
 split at h
 ·rename_i hg
  have hg':o.guard=none:=by
   cases hgo:o.guard with
   |none=>rfl
   |some p=>
    obtain⟨j,want⟩:=p
    simp only[gX,hgo]at hg
    split at hg<;>cases hg
  rw[if_pos (by simp[Region.wanted,hg'])]
  exact aG2 h ro C F μ a w _ Q hs rest
 ·rename_i b want hg
  obtain⟨j,hgo,hb⟩: ∃j,o.guard=some (j,want)/\(nM ops j).bind (lk s.t)=some (.sc (.bool b)):=by
   cases hgo:o.guard with
   |none=>simp[gX,hgo]at hg
   |some p=>
    obtain⟨j,want'⟩:=p
    simp only[gX,hgo]at hg
    split at hg
    ·rename_i b' hb
     obtain⟨rfl,rfl⟩:=GV.test.inj hg
     exact⟨j,rfl,hb⟩
    ·cases hg
    ·cases hg
  obtain⟨h1,h2⟩:=h
  have hy:yielded ops a.tmps j=some b:=by
   unfold yielded
   unfold nM at hb
   cases hj:(ops[j]?).bind (·.dst)with
   |none=>simp[hj]at hb
   |some d=>
    simp[hj]at hb
    have hrv:=hs.slot d _ hb
    generalize hv:a.tmps.getD d undef=v at hrv
    cases hrv
    simp only[Option.bind_some]
    rw[Array.getD_eq_getD_getElem?]at hv
    cases ht:a.tmps[d]? with
    |none=>simp[ht,undef]at hv
    |some u=>simp[ht]at hv;subst hv;rfl
  by_cases hbw:b=want
  ·rw[if_pos (by simp[Region.wanted,hgo,hy,hbw])]
   exact aG2 (h1 hbw) ro C F μ a w _ Q hs rest
  ·rw[if_neg (by simp[Region.wanted,hgo,hy,hbw])]
   have h2:=h2 hbw
   unfold uB at h2
   split at h2
   ·rename_i d hd
    obtain⟨hdn,h2⟩:=h2
    rw[hd]
    exact rest _ _ _ _ _ h2 (hs.put hdn .und)
   ·rename_i hd
    rw[hd]
    exact rest _ _ _ _ _ h2 hs
 ·rename_i hg
  obtain⟨j,want,hgo,hb⟩: ∃j want,o.guard=some (j,want)/\(nM ops j).bind (lk s.t)=some (.tup []):=by
   cases hgo:o.guard with
   |none=>simp[gX,hgo]at hg
   |some p=>
    obtain⟨j,want'⟩:=p
    simp only[gX,hgo]at hg
    split at hg
    ·cases hg
    ·rename_i hb;exact⟨j,want',rfl,hb⟩
    ·cases hg
  have hy:yielded ops a.tmps j=none:=by
   unfold nM at hb
   cases hj:(ops[j]?).bind (·.dst)with
   |none=>simp[hj]at hb
   |some d=>
    simp[hj]at hb
    exact aGt hj (hs.slot d _ hb)
  rw[if_neg (by simp[Region.wanted,hgo,hy])]
  unfold uB at h
  split at h
  ·rename_i d hd
   obtain⟨hdn,h2⟩:=h
   rw[hd]
   exact rest _ _ _ _ _ h2 (hs.put hdn .und)
  ·rename_i hd
   rw[hd]
   exact rest _ _ _ _ _ h hs
 ·exact h.elim
theorem aG3 {ro:Option Nat} {P:Program} [Glob P] {ops:Array Oper} {Q:Exit->Act->World->Prop}: ∀(l:List Oper) (i:Nat) (k:ASt->Prop) (s:ASt),nN P ops l k s->(∀j,l[j]?=ops[i+j]?)->
 ∀C [GOk P C] F μ a w,SR C F μ s a w->(∀a' w' s' F' μ',k s'->SR C F' μ' s' a' w'->Q .normal a' w')->Y5 ro P ops Q (List.range' i l.length) a w
 | [],i,k,s,h,hl,C,_,F,μ,a,w,hs,hk=>hk _ _ _ _ _ h hs
 |o::r,i,k,s,h,hl,C,_,F,μ,a,w,hs,hk=>by
  have ho:ops[i]?=some o:=by have:=hl 0;simpa using this.symm
  have hr: ∀j,r[j]?=ops[i+1+j]?:=fun j=>by
   have:=hl (j+1)
   rw[show i+1+j=i+(j+1) by omega]
   simpa using this
  rw[List.length_cons,List.range'_succ]
  exact Y8 ho h hs fun a' w' s' F' μ' h' hs'=>aG3 r (i+1) k s' h' hr C F' μ' a' w' hs' hk
end Go.Ab
