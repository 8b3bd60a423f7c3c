import Derived.WalkKit
import Derived.Orders
import Derived.DeepKeys
import Derived.Lib.UnsafeStr
import Derived.Lib.Builder
set_option linter.all false
namespace Go.Ab
open Go.RowKit
structure LH where
 state:LoopState
 pending:Option Code
 params:Array Tmp
 assign:Code
 body:Code
 n:Nat
 ks:List Nat
inductive AV where
 |sc (v:Value)
 |agg (cs:List AV)
 |tup (vs:List AV)
 |list (lent kH:Bool) (xs:List AV)
 |iptr (lent:Bool) (xs:List AV) (i o:Nat)
 |ref (L lo n:Nat)
 |ptr (L i o:Nat)
 |aref (L i o es n:Nat)
 |clo (f:FuncId) (cap:List AV)
 |own (es:Nat) (xs:List AV)
 |mp (L:Nat)
 |yl (L:Nat)
 |rc (L lo n c:Nat)
 |lh (h:LH)
 |dead
def AV.cells:AV->List AV
 | .agg cs=>cs
 |a=> [a]
mutual
def AV.has (L:Nat):AV->Bool
 | .agg cs=>AV.hasL L cs
 | .tup vs=>AV.hasL L vs
 | .clo _ cs=>AV.hasL L cs
 | .ref L' _ _=>L==L'
 | .ptr L' _ _=>L==L'
 | .aref L' _ _ _ _=>L==L'
 | .mp L'=>L==L'
 | .yl L'=>L==L'
 | .rc L' _ _ _=>L==L'
 |_=>false
def AV.hasL (L:Nat):List AV->Bool
 | []=>false
 |a::r=>a.has L||AV.hasL L r
end
theorem gI {L:Nat}: ∀{cs:List AV} {i:Nat} {a:AV},cs[i]?=some a->a.has L=true->AV.hasL L cs=true
 | [],_,_,h,_=>by simp at h
 |c::cs,0,a,h,ha=>by simp at h;subst h;simp[AV.hasL,ha]
 |c::cs,i+1,a,h,ha=>by simp at h;simp[AV.hasL,gI h ha]
def gD:Value->Bool
 | .bool _| .int .. | .float .. | .complex .. | .string _| .pointer none| .map none| .chan none| .nilFunc| .nilIface=>true
 | .iface _ v=>gD v
 | .slice none 0 0=>true
 |_=>false
abbrev one (v:Value):Bool:=v.oneCell'
abbrev aZ:=Nat->Nat->Option Value
structure LI where
 place:Option (Nat×Nat)
 es:Nat
 len:Nat
 mp:Bool
def sh (F:Bool->aZ):Bool->aZ:=fun _=>F false
def bU:Nat->Option LI:=fun _=>none
def dD:Nat:=2^47
def aEk (es b:Nat):Option Value:=if es=0 then some (.map (some b))else if es=2 then some (.pointer (some ⟨b,0,none⟩))else none
inductive RV:(Bool->aZ)->(Nat->Option LI)->AV->Value->Prop
 |sc {F loc v}:gD v=true->RV F loc (.sc v) v
 |agg {F loc} {cs:List AV} {vs:Array Value}:cs.length=vs.size->(∀(i:Nat) (a:AV) (v:Value),cs[i]?=some a->vs[i]?=some v->RV F loc a v)->
  (∀(i:Nat) (v:Value),vs[i]?=some v->one v=true)->RV F loc (.agg cs) (.agg vs)
 |tup {F loc} {cs:List AV} {vs:Array Value}:cs.length=vs.size->(∀(i:Nat) (a:AV) (v:Value),cs[i]?=some a->vs[i]?=some v->RV F loc a v)->
  RV F loc (.tup cs) (.tuple vs)
 |nil {F loc lent kH base}:RV F loc (.list lent kH []) (.slice base 0 0)
 |list {F loc lent kH} {xs:List AV} {b o o' cap es:Nat} {f:Nat->Nat->Value}:(∀x∈xs,x.cells.length=es)->xs.length<=cap->xs.length<=dD->(kH=true->cap=xs.length)->(xs≠ []->o'=o)->
  (∀(i:Nat) (x:AV) (j:Nat) (a:AV),xs[i]?=some x->x.cells[j]?=some a->F lent b (o+i*es+j)=some (f i j))->
  (∀(i:Nat) (x:AV) (j:Nat) (a:AV),xs[i]?=some x->x.cells[j]?=some a->RV (sh F) bU a (f i j))->
  (∀(i:Nat) (x:AV) (j:Nat) (a:AV),xs[i]?=some x->x.cells[j]?=some a->one (f i j)=true)->
  RV F loc (.list lent kH xs) (.slice (some ⟨b,o',none⟩) xs.length cap)
 |iptr {F loc lent} {xs:List AV} {b o es i k:Nat} {f:Nat->Nat->Value}:(∀x∈xs,x.cells.length=es)->i<xs.length->
  (∀(i:Nat) (x:AV) (j:Nat) (a:AV),xs[i]?=some x->x.cells[j]?=some a->F lent b (o+i*es+j)=some (f i j))->
  (∀(i:Nat) (x:AV) (j:Nat) (a:AV),xs[i]?=some x->x.cells[j]?=some a->RV (sh F) bU a (f i j))->
  (∀(i:Nat) (x:AV) (j:Nat) (a:AV),xs[i]?=some x->x.cells[j]?=some a->one (f i j)=true)->
  RV F loc (.iptr lent xs i k) (.pointer (some ⟨b,o+i*es+k,none⟩))
 |refNil {F} {loc:Nat->Option LI} {L es len:Nat} {base}:loc L=some ⟨none,es,len,false⟩->RV F loc (.ref L 0 0) (.slice base 0 0)
 |ref {F} {loc:Nat->Option LI} {L lo n b cap es len o c:Nat}:loc L=some ⟨some (b,cap),es,len,false⟩->lo+n<=len->n<=c->(n≠0\/lo=0->o=lo*es)->(lo=0->c=cap)->
  RV F loc (.ref L lo n) (.slice (some ⟨b,o,none⟩) n c)
 |ptr {F} {loc:Nat->Option LI} {L i k b cap es len:Nat}:loc L=some ⟨some (b,cap),es,len,false⟩->i<len->RV F loc (.ptr L i k) (.pointer (some ⟨b,i*es+k,none⟩))
 |aref {F} {loc:Nat->Option LI} {L i k b cap es len e n o c:Nat}:loc L=some ⟨some (b,cap),es,len,false⟩->i<len->n<=c->(n≠0->o=i*es+k)->RV F loc (.aref L i k e n) (.slice (some ⟨b,o,none⟩) n c)
 |clo {F loc} {g:FuncId} {cs:List AV} {vs:Array Value}:cs.length=vs.size->(∀(i:Nat) (a:AV) (v:Value),cs[i]?=some a->vs[i]?=some v->RV F loc a v)->
  RV F loc (.clo g cs) (.func (.func g) #[] vs)
 |mp {F} {loc:Nat->Option LI} {L b cap es len:Nat} {v:Value}:loc L=some ⟨some (b,cap),es,len,true⟩->aEk es b=some v->RV F loc (.mp L) v
 |yl {F} {loc:Nat->Option LI} {L b cap len:Nat}:loc L=some ⟨some (b,cap),1,len,true⟩->RV F loc (.yl L) (.func (.yield b) #[] #[])
 |rc {F} {loc:Nat->Option LI} {L lo n b cap es len o:Nat}:loc L=some ⟨some (b,cap),es,len,false⟩->lo+n<=cap->(lo=0\/lo<cap->o=lo*es)->RV F loc (.rc L lo n cap) (.slice (some ⟨b,o,none⟩) n (cap - lo))
 |dead {F loc v}:RV F loc .dead v
def FLe (F F':Bool->aZ):Prop:= ∀l b k v,F l b k=some v->F' l b k=some v
theorem FLe.refl (F:Bool->aZ):FLe F F:=fun _ _ _ _ h=>h
theorem FLe.trans {A B C:Bool->aZ} (h:FLe A B) (k:FLe B C):FLe A C:=fun l b o v e=>k l b o v (h l b o v e)
theorem FLe.sh {F F':Bool->aZ} (h:FLe F F'):FLe (sh F) (sh F'):=fun _ b k v e=>h false b k v e
theorem RV.congr {F:Bool->aZ} {loc:Nat->Option LI} {a:AV} {v:Value} (h:RV F loc a v):
 ∀{F':Bool->aZ} {loc':Nat->Option LI},FLe F F'->(∀L,a.has L=true->loc' L=loc L)->RV F' loc' a v:=by
 induction h with
 |sc h=>intro F' loc' _ _;exact .sc h
 |agg hl hr ho ih=>
  intro F' loc' hF hloc
  exact .agg hl (fun i a v ha hv=>ih i a v ha hv hF (fun L hL=>hloc L (by simp only[AV.has];exact gI ha hL))) ho
 |tup hl hr ih=>
  intro F' loc' hF hloc
  exact .tup hl (fun i a v ha hv=>ih i a v ha hv hF (fun L hL=>hloc L (by simp only[AV.has];exact gI ha hL)))
 |nil=>intro F' loc' _ _;exact .nil
 |list h1 h2 h3 h4 h5 h6 h7 h8 ih=>
  intro F' loc' hF hloc
  exact .list h1 h2 h3 h4 h5 (fun i x j a hx ha=>hF _ _ _ _ (h6 i x j a hx ha)) (fun i x j a hx ha=>ih i x j a hx ha hF.sh (fun L _=>rfl)) h8
 |iptr h1 h2 h6 h7 h8 ih=>
  intro F' loc' hF hloc
  exact .iptr h1 h2 (fun i x j a hx ha=>hF _ _ _ _ (h6 i x j a hx ha)) (fun i x j a hx ha=>ih i x j a hx ha hF.sh (fun L _=>rfl)) h8
 |refNil h=>intro F' loc' _ hloc;exact .refNil ((hloc _ (by simp[AV.has])).trans h)
 |ref h h1 h2 h3 h4=>intro F' loc' _ hloc;exact .ref ((hloc _ (by simp[AV.has])).trans h) h1 h2 h3 h4
 |ptr h h1=>intro F' loc' _ hloc;exact .ptr ((hloc _ (by simp[AV.has])).trans h) h1
 |aref h h1 h2 h3=>intro F' loc' _ hloc;exact .aref ((hloc _ (by simp[AV.has])).trans h) h1 h2 h3
 |clo hl hr ih=>
  intro F' loc' hF hloc
  exact .clo hl (fun i a v ha hv=>ih i a v ha hv hF (fun L hL=>hloc L (by simp only[AV.has];exact gI ha hL)))
 |mp h h'=>intro F' loc' _ hloc;exact .mp ((hloc _ (by simp[AV.has])).trans h) h'
 |yl h=>intro F' loc' _ hloc;exact .yl ((hloc _ (by simp[AV.has])).trans h)
 |rc h h1 h2=>intro F' loc' _ hloc;exact .rc ((hloc _ (by simp[AV.has])).trans h) h1 h2
 |dead=>intro F' loc' _ _;exact .dead
theorem RV.mono {F F':Bool->aZ} {loc:Nat->Option LI} {a:AV} {v:Value} (h:RV F loc a v) (hF:FLe F F'):RV F' loc a v:=h.congr hF fun _ _=>rfl
mutual
def AV.pure:AV->Bool
 | .sc _=>true
 | .agg cs=>AV.pureL cs
 | .list lent _ _=> !lent
 | .iptr lent _ _ _=> !lent
 | .clo _ cs=>AV.pureL cs
 |_=>false
def AV.pureL:List AV->Bool
 | []=>true
 |a::r=>a.pure&&AV.pureL r
end
theorem G7: ∀{cs:List AV} {i:Nat} {a:AV},AV.pureL cs=true->cs[i]?=some a->a.pure=true
 | [],_,_,_,h=>by simp at h
 |c::cs,0,a,hp,h=>by simp at h;subst h;simp[AV.pureL]at hp;exact hp.1
 |c::cs,i+1,a,hp,h=>by simp at h;simp[AV.pureL]at hp;exact G7 hp.2 h
theorem RV.shared {F:Bool->aZ} {loc:Nat->Option LI} {a:AV} {v:Value} (h:RV F loc a v):a.pure=true->RV (sh F) bU a v:=by
 induction h with
 |sc h=>intro _;exact .sc h
 |agg hl hr ho ih=>intro hp;exact .agg hl (fun i a v ha hv=>ih i a v ha hv (G7 (by simpa[AV.pure]using hp) ha)) ho
 |tup hl hr ih=>intro hp;simp[AV.pure]at hp
 |nil=>intro _;exact .nil
 | @list F loc lent kH xs b o o' cap es f h1 h2 h3 h4 h5 h6 h7 h8 ih=>
  intro hp
  have hl:lent=false:=by simpa[AV.pure]using hp
  subst hl
  exact .list h1 h2 h3 h4 h5 h6 h7 h8
 | @iptr F loc lent xs b o es i k f h1 h2 h6 h7 h8 ih=>
  intro hp
  have hl:lent=false:=by simpa[AV.pure]using hp
  subst hl
  exact .iptr h1 h2 h6 h7 h8
 |refNil h=>intro hp;simp[AV.pure]at hp
 |ref h h1 h2 h3 h4=>intro hp;simp[AV.pure]at hp
 |ptr h h1=>intro hp;simp[AV.pure]at hp
 |aref h h1=>intro hp;simp[AV.pure]at hp
 |clo hl hr ih=>intro hp;exact .clo hl (fun i a v ha hv=>ih i a v ha hv (G7 (by simpa[AV.pure]using hp) ha))
 |mp h h'=>intro hp;simp[AV.pure]at hp
 |yl h=>intro hp;simp[AV.pure]at hp
 |rc h h1 h2=>intro hp;simp[AV.pure]at hp
 |dead=>intro hp;simp[AV.pure]at hp
theorem kP {L:Nat}: ∀{cs:List AV},AV.hasL L cs=true-> ∃(i:Nat) (a:AV),cs[i]?=some a/\a.has L=true
 | [],h=>by simp[AV.hasL]at h
 |c::cs,h=>by
  simp only[AV.hasL,Bool.or_eq_true]at h
  rcases h with h|h
  ·exact⟨0,c,rfl,h⟩
  ·obtain⟨i,a,h1,h2⟩:=kP h;exact⟨i+1,a,by simpa using h1,h2⟩
theorem RV.noloc_has {F:Bool->aZ} {loc:Nat->Option LI} {a:AV} {v:Value} (h:RV F loc a v):(∀L,loc L=none)-> ∀L,a.has L=true->False:=by
 induction h with
 | @agg F loc cs vs hl hr ho ih=>
  intro hn L hL
  simp only[AV.has]at hL
  obtain⟨i,a,h1,h2⟩:=kP hL
  have hi:i<vs.size:=by rw[<-hl];exact(List.getElem?_eq_some_iff.1 h1).1
  exact ih i a vs[i] h1 (by simp[hi]) hn L h2
 | @tup F loc cs vs hl hr ih=>
  intro hn L hL
  simp only[AV.has]at hL
  obtain⟨i,a,h1,h2⟩:=kP hL
  have hi:i<vs.size:=by rw[<-hl];exact(List.getElem?_eq_some_iff.1 h1).1
  exact ih i a vs[i] h1 (by simp[hi]) hn L h2
 | @clo F loc g cs vs hl hr ih=>
  intro hn L hL
  simp only[AV.has]at hL
  obtain⟨i,a,h1,h2⟩:=kP hL
  have hi:i<vs.size:=by rw[<-hl];exact(List.getElem?_eq_some_iff.1 h1).1
  exact ih i a vs[i] h1 (by simp[hi]) hn L h2
 |refNil h=>intro hn L hL;rw[hn]at h;cases h
 |ref h=>intro hn L hL;rw[hn]at h;cases h
 |ptr h=>intro hn L hL;rw[hn]at h;cases h
 |aref h=>intro hn L hL;rw[hn]at h;cases h
 |mp h h'=>intro hn L hL;rw[hn]at h;cases h
 |yl h=>intro hn L hL;rw[hn]at h;cases h
 |rc h h1 h2=>intro hn L hL;rw[hn]at h;cases h
 |_=>intro hn L hL;simp[AV.has]at hL
def Sub (F:Bool->aZ):Prop:= ∀b k v,F false b k=some v->F true b k=some v
theorem Sub.sh {F:Bool->aZ} (h:Sub F):FLe (sh F) F:=fun l b k v e=>by
 cases l
 ·exact e
 ·exact h b k v e
theorem RV.up {F:Bool->aZ} {loc:Nat->Option LI} {a:AV} {v:Value} (h:RV (Ab.sh F) bU a v) (hs:Sub F):RV F loc a v:=
 h.congr hs.sh fun L hL=>(h.noloc_has (fun _=>rfl) L hL).elim
end Go.Ab
namespace Go.Ab
open Go.RowKit
def lk {α:Type}:List (Nat×α)->Nat->Option α
 | [],_=>none
 |(k,a)::r,i=>if k=i then some a else lk r i
structure AObj where
 arr:Bool
 fz:Bool
 pin:Bool
 es:Nat
 xs:List AV
 kd:Nat:=0
abbrev aF:=List (Nat×AObj)
abbrev Pl:=Nat->Option (Nat×Nat)
structure ASt where
 n:Nat
 t:List (Nat×AV)
 o:aF
structure Cx where
 w0:World
 F0:Bool->aZ
 o0:aF
 μ0:Pl
 M:Nat->Prop
 df:List Deferred
def wX (o:aF) (μ:Pl) (b:Nat):Prop:= ∃L x c,lk o L=some x/\μ L=some (b,c)
def bV (x:AObj) (p:Option (Nat×Nat)):LI:=if x.kd=1 then⟨p,x.es,0,true⟩else⟨p,x.es,x.xs.length,false⟩
theorem fB {x:AObj} {p q:Option (Nat×Nat)} {es len:Nat} (h:bV x p=⟨q,es,len,false⟩):p=q/\x.es=es/\x.xs.length=len/\x.kd≠1:=by
 unfold bV at h
 split at h
 ·simp at h
 ·rename_i hk;simp at h;exact⟨h.1,h.2.1,h.2.2,hk⟩
theorem T5 {x:AObj} {p q:Option (Nat×Nat)} {es len:Nat} (h:bV x p=⟨q,es,len,true⟩):p=q/\x.kd=1/\x.es=es:=by
 unfold bV at h
 split at h
 ·rename_i hk;simp at h;exact⟨h.1,hk,h.2.1⟩
 ·simp at h
theorem lE {x:AObj} (hk:x.kd≠1) (p:Option (Nat×Nat)):bV x p=⟨p,x.es,x.xs.length,false⟩:=if_neg hk
theorem nE {x y:AObj} (h1:x.es=y.es) (h2:x.xs.length=y.xs.length) (h3:x.kd=y.kd) (p:Option (Nat×Nat)):bV x p=bV y p:=by unfold bV;rw[h1,h2,h3]
def aE (o:aF) (μ:Pl):Nat->Option LI:=fun L=>(lk o L).map fun x=>bV x (μ L)
structure Fr (M:Nat->Prop) (w w':World):Prop where
 os:w'.os=w.os
 tape:w'.tape=w.tape
 output:w'.output=w.output
 size:w.heap.size<=w'.heap.size
 block: ∀k,k<w.heap.size-> ¬M k->w'.heap[k]?=w.heap[k]?
 drawn:w.drawn<=w'.drawn
theorem Fr.refl (M:Nat->Prop) (w:World):Fr M w w:=⟨rfl,rfl,rfl,Nat.le_refl _,fun _ _ _=>rfl,Nat.le_refl _⟩
theorem Fr.trans {M M':Nat->Prop} {a b c:World} (h:Fr M a b) (k:Fr M' b c) (hM: ∀x,x<a.heap.size->M' x->M x):Fr M a c:=
 ⟨k.os.trans h.os,k.tape.trans h.tape,k.output.trans h.output,Nat.le_trans h.size k.size,fun i hi hn=>
  (k.block i (Nat.lt_of_lt_of_le hi h.size) (fun hm=>hn (hM i hi hm))).trans (h.block i hi hn),Nat.le_trans h.drawn k.drawn⟩
def oF (arr:Bool) (F:Bool->aZ):Bool->aZ:=if arr then sh F else F
def oL (arr:Bool) (loc:Nat->Option LI):Nat->Option LI:=if arr then bU else loc
def T6 (F:Bool->aZ) (loc:Nat->Option LI) (w:World) (x:AObj) (b cap:Nat):Prop:=
 ∃c e,w.heap[b]?=some (.cells c e (0,0))/\c.size=cap*x.es/\x.xs.length<=cap/\x.xs.length<=dD/\(∀y∈x.xs,y.cells.length=x.es)/\
  (∀(i:Nat) (y:AV) (j:Nat) (a:AV),x.xs[i]?=some y->y.cells[j]?=some a-> ∃v,c[i*x.es+j]?=some v/\one v=true/\RV (oF x.arr F) (oL x.arr loc) a v/\(x.fz=true->F false b (i*x.es+j)=some v))/\
  (x.kd=0\/(x.kd=e+2/\(x.arr=false->cap=1)))
abbrev tK (es:Array MapEntry) (clock:Nat):Prop:=MapKept.Stamped es clock
def vA:Value->Bool
 | .agg cs=>cs.toList.all fun c=>gD c
 |v=>gD v
def oG:Value->AV
 | .agg cs=> .agg (cs.toList.map .sc)
 |v=> .sc v
def yW (F:Bool->aZ) (w:World) (x:AObj) (b:Nat):Prop:=
 x.kd=1/\x.arr=true/\x.xs.length<=dD/\ ∃es clock,w.heap[b]?=some (.map es clock)/\(es.size=x.xs.length/\tK es clock)/\
  ∀(i:Nat) (e:MapEntry) (y:AV),es[i]?=some e->x.xs[i]?=some y-> ∃v r,y= .tup (.sc e.key::v::r)/\RV (sh F) bU v e.val/\vA e.key=true/\(r= []\/r= [.sc (.int .i64 e.born),.sc (.int .i64 clock)])
def LH.is (h:LH) (r:Loop):Prop:=h.state=r.state/\h.pending=r.pending/\h.params=r.params/\h.assign=r.assign/\h.body=r.body/\h.n=r.tmps.size
def LoopOf (F:Bool->aZ) (loc:Nat->Option LI) (r:Loop) (xs:List AV):Prop:=
 ∃h ts,xs= .lh h::ts/\h.is r/\ ∀(i:Nat) (a:AV),ts[i]?=some a->RV F loc a (r.tmps.getD (h.ks.getD i 0) undef)
def aEl (F:Bool->aZ) (loc:Nat->Option LI) (m since:Nat) (seen:Array Nat) (last:Nat) (xs:List AV):Prop:=
 last=since/\ ∃a ts,xs=a::ts/\RV F loc a (.map (some m))/\ts.length=seen.size+1/\ ∀(i:Nat) (c:AV) (n:Nat),ts[i]?=some c->(since::seen.toList)[i]?=some n->RV F loc c (.int .i64 n)
def aPw (F:Bool->aZ) (loc:Nat->Option LI) (es:Array MapEntry) (clock:Nat) (xs:List AV):Prop:=
 xs.length<=dD/\es.size=xs.length/\tK es clock/\ ∀(i:Nat) (e:MapEntry) (y:AV),es[i]?=some e->xs[i]?=some y-> ∃v,y= .tup [.sc e.key,v]/\RV F loc v e.val/\vA e.key=true
def OddOf (F:Bool->aZ) (loc:Nat->Option LI):Nat->Obj->List AV->Prop
 |0,.map es clock,xs=>aPw F loc es clock xs
 |1,.loop r,xs=>LoopOf F loc r xs
 |2,.mapIter (some m) since seen last,xs=>aEl F loc m since seen last xs
 |_,_,_=>False
def LoopAt (F:Bool->aZ) (loc:Nat->Option LI) (w:World) (x:AObj) (b:Nat):Prop:=
 x.kd=1/\x.arr=false/\ ∃r,w.heap[b]?=some r/\OddOf F loc x.es r x.xs
theorem LoopOf.map {F F':Bool->aZ} {loc loc':Nat->Option LI} {r:Loop} {xs:List AV} {f:AV->AV} (h:LoopOf F loc r xs) (h0: ∀k,f (.lh k)= .lh k) (hf: ∀a v,a∈xs->RV F loc a v->RV F' loc' (f a) v):LoopOf F' loc' r (xs.map f):=by
 obtain⟨k,ts,rfl,h1,h2⟩:=h
 refine⟨k,ts.map f,by simp[h0],h1,fun i a ha=>?_⟩
 rw[List.getElem?_map]at ha
 cases hi:ts[i]? with
 |none=>simp[hi]at ha
 |some c=>
  simp[hi]at ha
  subst ha
  exact hf c _ (List.mem_cons_of_mem _ (List.mem_of_getElem? hi)) (h2 i c hi)
theorem OddOf.map {F F':Bool->aZ} {loc loc':Nat->Option LI} {n:Nat} {r:Obj} {xs:List AV} {f g:AV->AV} (h:OddOf F loc n r xs) (h0: ∀k,f (.lh k)= .lh k) (ht: ∀k v,f (.tup [.sc k,v])= .tup [.sc k,g v])
 (hf: ∀a v,a∈xs->RV F loc a v->RV F' loc' (f a) v) (hg: ∀k a v,.tup [.sc k,a]∈xs->RV F loc a v->RV F' loc' (g a) v):OddOf F' loc' n r (xs.map f):=by
 unfold OddOf at h ⊢
 split at h
 ·obtain⟨h1,h2,h3,h4⟩:=h
  refine⟨by simpa using h1,by simpa using h2,h3,fun i e y he hy=>?_⟩
  rw[List.getElem?_map]at hy
  cases hi:xs[i]? with
  |none=>simp[hi]at hy
  |some z=>
   simp[hi]at hy
   subst hy
   obtain⟨v,rfl,g2,g3⟩:=h4 i e z he hi
   exact⟨g v,ht _ _,hg _ _ _ (List.mem_of_getElem? hi) g2,g3⟩
 ·exact h.map h0 hf
 ·obtain⟨h1,a,ts,rfl,h2,h3,h4⟩:=h
  refine⟨h1,f a,ts.map f,rfl,hf _ _ (by simp) h2,by simpa using h3,fun i c n hc hn=>?_⟩
  rw[List.getElem?_map]at hc
  cases hi:ts[i]? with
  |none=>simp[hi]at hc
  |some z=>
   simp[hi]at hc
   subst hc
   exact hf _ _ (List.mem_cons_of_mem _ (List.mem_of_getElem? hi)) (h4 i z n hi hn)
 ·exact h.elim
theorem OddOf.same {F F':Bool->aZ} {loc loc':Nat->Option LI} {n:Nat} {r:Obj} {xs:List AV} (h:OddOf F loc n r xs) (hf: ∀a v,(∀L,a.has L=true->AV.hasL L xs=true)->RV F loc a v->RV F' loc' a v):OddOf F' loc' n r xs:=by
 have:=h.map (F':=F') (loc':=loc') (f:=id) (g:=id) (fun _=>rfl) (fun _ _=>rfl) (fun a v ha hv=>hf a v (fun L hL=>by
  obtain⟨i,hi⟩:=List.mem_iff_getElem?.1 ha
  exact gI hi hL) hv) (fun k a v ha hv=>hf a v (fun L hL=>by
  obtain⟨i,hi⟩:=List.mem_iff_getElem?.1 ha
  exact gI hi (by simp[AV.has,AV.hasL,hL])) hv)
 rwa [List.map_id]at this
theorem OddOf.defr {F:Bool->aZ} {loc:Nat->Option LI} {n:Nat} {d:Option (List Deferred)} {xs:List AV} (h:OddOf F loc n (.deferred d) xs):False:=match n,h with
 |0,h=>h
 |1,h=>h
 |2,h=>h
 |_+3,h=>h
theorem OddOf.parts {F:Bool->aZ} {loc:Nat->Option LI} {n:Nat} {r:Obj} {xs:List AV} (h:OddOf F loc n r xs) (L:Nat) (hL:AV.hasL L xs=true): ∃a v,RV F loc a v/\a.has L=true:=by
 unfold OddOf at h
 split at h
 ·rename_i es ck
  obtain⟨_,h2,_,h4⟩:=h
  obtain⟨i,y,hy,hL⟩:=kP hL
  have hi:i<es.size:=by rw[h2];exact(List.getElem?_eq_some_iff.1 hy).1
  obtain⟨v,rfl,g,_⟩:=h4 i es[i] y (by simp[hi]) hy
  simp only[AV.has,AV.hasL,Bool.or_false,Bool.false_or]at hL
  exact⟨_,_,g,hL⟩
 ·obtain⟨k,ts,e0,_,e1⟩:=h
  rw[e0]at hL
  simp only[AV.hasL,AV.has,Bool.false_or]at hL
  obtain⟨j,a,hj,haL⟩:=kP hL
  exact⟨_,_,e1 j a hj,haL⟩
 ·rename_i m since seen last
  obtain⟨_,a,ts,rfl,h2,h3,h4⟩:=h
  simp only[AV.hasL,Bool.or_eq_true]at hL
  rcases hL with hL|hL
  ·exact⟨_,_,h2,hL⟩
  ·obtain⟨j,c,hj,haL⟩:=kP hL
   have hjl:j<(since::seen.toList).length:=by
    have:=(List.getElem?_eq_some_iff.1 hj).1
    simp only[List.length_cons,Array.length_toList];omega
   exact⟨_,_,h4 j c _ hj (List.getElem?_eq_getElem hjl),haL⟩
 ·exact h.elim
theorem OddOf.noL {F:Bool->aZ} {n:Nat} {r:Obj} {xs:List AV} (h:OddOf F bU n r xs) (L:Nat) (hL:AV.hasL L xs=true):False:=by
 obtain⟨a,v,h1,h2⟩:=h.parts L hL
 exact h1.noloc_has (fun _=>rfl) L h2
theorem LoopAt.congr {F F':Bool->aZ} {loc loc':Nat->Option LI} {w w':World} {x:AObj} {b:Nat} (h:LoopAt F loc w x b) (hb:w'.heap[b]?=w.heap[b]?) (hF:FLe F F') (hl: ∀L,AV.hasL L x.xs=true->loc' L=loc L):LoopAt F' loc' w' x b:=by
 obtain⟨h1,h2,r,h4,h5⟩:=h
 exact⟨h1,h2,r,by rw[hb];exact h4,h5.same fun a v ha hv=>hv.congr hF fun L hL=>hl L (ha L hL)⟩
def ObjAt (F:Bool->aZ) (loc:Nat->Option LI) (w:World) (x:AObj) (b cap:Nat):Prop:=T6 F loc w x b cap\/yW F w x b\/LoopAt F loc w x b
theorem ObjAt.std {F loc w x b cap} (h:ObjAt F loc w x b cap) (hk:x.kd≠1):T6 F loc w x b cap:=h.resolve_right fun h=>by rcases h with h|h<;>exact hk h.1
theorem ObjAt.map {F loc w x b cap} (h:ObjAt F loc w x b cap) (hk:x.kd=1) (ha:x.arr=true):yW F w x b:=(h.resolve_left fun⟨c,e,_,_,_,_,_,_,h⟩=>by omega).resolve_right fun⟨_,h2,_⟩=>by simp_all
theorem ObjAt.loop {F loc w x b cap} (h:ObjAt F loc w x b cap) (hk:x.kd=1) (ha:x.arr=false):LoopAt F loc w x b:=(h.resolve_left fun⟨c,e,_,_,_,_,_,_,h⟩=>by omega).resolve_left fun⟨_,h2,_⟩=>by simp_all
theorem ObjAt.lt {F loc w x b cap} (h:ObjAt F loc w x b cap): ∃o,w.heap[b]?=some o:=by
 rcases h with⟨c,e,h,_⟩|⟨_,_,_,es,k,h,_⟩|⟨_,_,r,h,_⟩
 ·exact⟨_,h⟩
 ·exact⟨_,h⟩
 ·exact⟨_,h⟩
def lF (F:Bool->aZ) (loc:Nat->Option LI) (w:World) (x:AObj):Option (Nat×Nat)->Prop
 |none=>x.xs= []
 |some (b,cap)=>ObjAt F loc w x b cap
structure SW (C:Cx) (F:Bool->aZ) (μ:Pl) (o:aF) (w:World):Prop where
 facts: ∀l b k v,F l b k=some v->w.cell? ⟨b,k,none⟩=some v
 sub:Sub F
 lentc: ∀b k v,F true b k=some v->C.F0 true b k=some v\/F false b k=some v
 grow:FLe C.F0 F
 newf: ∀b k v,F false b k=some v->C.F0 false b k=some v\/C.w0.heap.size<=b\/C.M b
 fr:Fr C.M C.w0 w
 obj: ∀L x,lk o L=some x->lF F (aE o μ) w x (μ L)
 dist: ∀L x L' x' b c c',lk o L=some x->lk o L'=some x'->μ L=some (b,c)->μ L'=some (b,c')->L=L'
 excl: ∀L x b c,lk o L=some x->μ L=some (b,c)->x.fz=false-> ∀l k,F l b k=none
 mine: ∀L x b c,lk o L=some x->μ L=some (b,c)->C.w0.heap.size<=b\/C.M b
 keep: ∀L x x0,lk C.o0 L=some x0->lk o L=some x->x.pin=true->μ L=C.μ0 L/\bV x none=bV x0 none/\x.arr=x0.arr
structure SR (C:Cx) (F:Bool->aZ) (μ:Pl) (s:ASt) (a:Act) (w:World):Prop where
 sw:SW C F μ s.o w
 defers:a.defers=C.df
 n:a.tmps.size=s.n
 slot: ∀i x,lk s.t i=some x->RV F (aE s.o μ) x (a.tmps.getD i undef)
theorem SW.drew {C:Cx} {F:Bool->aZ} {μ:Pl} {o:aF} {w w':World} (h:SW C F μ o w) (hh:w'.heap=w.heap) (h1:w'.os=w.os) (h2:w'.tape=w.tape) (h3:w'.output=w.output) (h4:w.drawn<=w'.drawn):SW C F μ o w':=by
 have hc: ∀a,w'.cell? a=w.cell? a:=fun a=>by simp[World.cell?,hh]
 refine⟨fun l b k v e=>by rw[hc];exact h.facts l b k v e,h.sub,h.lentc,h.grow,h.newf,?_,?_,h.dist,h.excl,h.mine,h.keep⟩
 ·exact⟨h1.trans h.fr.os,h2.trans h.fr.tape,h3.trans h.fr.output,by rw[hh];exact h.fr.size,fun k hk hm=>by rw[hh];exact h.fr.block k hk hm,Nat.le_trans h.fr.drawn h4⟩
 ·intro L x hx
  have:=h.obj L x hx
  revert this
  cases μ L with
  |none=>exact id
  |some p=>obtain⟨b,c⟩:=p;intro h;simpa[lF,ObjAt,T6,yW,LoopAt,hh]using h
theorem SR.drew {C:Cx} {F:Bool->aZ} {μ:Pl} {s:ASt} {a:Act} {w:World} (h:SR C F μ s a w):SR C F μ s a {w with drawn:=w.drawn+1}:=
 ⟨h.sw.drew rfl rfl rfl rfl (Nat.le_succ _),h.defers,h.n,h.slot⟩
theorem ObjAt.congr {F F':Bool->aZ} {loc loc':Nat->Option LI} {w w':World} {x:AObj} {b cap:Nat} (h:ObjAt F loc w x b cap)
 (hb:w'.heap[b]?=w.heap[b]?) (hF:FLe F F') (hl: ∀L,AV.hasL L x.xs=true->loc' L=loc L):ObjAt F' loc' w' x b cap:=by
 rcases h with⟨c,e,h1,h2,h3,h4,h5,h6,h7⟩|⟨k1,k2,k4,es,ck,k5,k6,k7⟩|q
 rotate_left
 ·exact .inr (.inl ⟨k1,k2,k4,es,ck,by rw[hb];exact k5,k6,fun i e y he hy=>by obtain⟨v,q,e1,e2,e3⟩:=k7 i e y he hy;exact⟨v,q,e1,e2.mono hF.sh,e3⟩⟩)
 ·exact .inr (.inr (q.congr hb hF hl))
 refine .inl ⟨c,e,by rw[hb];exact h1,h2,h3,h4,h5,fun i y j a hy ha=>?_,h7⟩
 obtain⟨v,g1,g2,g3,g4⟩:=h6 i y j a hy ha
 refine⟨v,g1,g2,?_,fun hz=>hF _ _ _ _ (g4 hz)⟩
 cases harr:x.arr with
 |true=>rw[harr]at g3;exact g3.mono hF.sh
 |false=>
  rw[harr]at g3
  refine g3.congr hF fun L hL=>hl L ?_
  refine gI hy ?_
  cases y with
  |agg cs=>simp only[AV.has];exact gI ha hL
  |_=>cases j with
   |zero=>simp[AV.cells]at ha;subst ha;exact hL
   |succ j=>simp[AV.cells]at ha
theorem gJ {w:World} {b:Nat} {x:Obj} (h:w.heap[b]?=some x):b<w.heap.size:=by
 rcases Nat.lt_or_ge b w.heap.size with h'|h'
 ·exact h'
 ·simp[Array.getElem?_eq_none h']at h
theorem pI {w:World} {b k:Nat} {v:Value} (h:w.cell? ⟨b,k,none⟩=some v):b<w.heap.size:=by
 unfold World.cell? at h
 cases hb:w.heap[b]? with
 |none=>simp[hb]at h
 |some x=>exact gJ hb
theorem qG {w w':World} {b k:Nat} (h:w'.heap[b]?=w.heap[b]?):w'.cell? ⟨b,k,none⟩=w.cell? ⟨b,k,none⟩:=by
 simp[World.cell?,h]
theorem ObjAt.cell {F:Bool->aZ} {loc:Nat->Option LI} {w:World} {x:AObj} {b cap:Nat} (h0:ObjAt F loc w x b cap) (hk:x.kd≠1) {i j:Nat} {y a:AV} (hy:x.xs[i]?=some y) (ha:y.cells[j]?=some a):
 ∃v,w.cell? ⟨b,i*x.es+j,none⟩=some v/\one v=true/\RV (oF x.arr F) (oL x.arr loc) a v:=by
 obtain⟨c,e,h1,h2,h3,h4,h5,h6,h7⟩:=h0.std hk
 obtain⟨v,g1,g2,g3,g4⟩:=h6 i y j a hy ha
 exact⟨v,by simp[World.cell?,h1,g1],g2,g3⟩
end Go.Ab
namespace Go.Ab
open Go.RowKit
def tL (P:Program) (t:TypeId):Bool:=match P.underlying t with|some (.struct _)=>true|some (.array _ _)=>true|_=>false
def dQ (P:Program) (t:TypeId):Option Value:=(P.info? t).bind (·.zero)
theorem jW {P:Program} {t:TypeId} {d:TypeDesc} (h:P.underlying t=some d) (w:World):(underlying t).run P w= .ok d w:=by
 simp[underlying,h]
theorem aPx {P:Program} {t:TypeId} {d:TypeDesc} (h:P.underlying t=some d) (w:World):(isAgg t).run P w= .ok (tL P t) w:=by
 unfold isAgg tL
 simp only[Sem.run_bind,jW h,Result.andThen_ok,h]
 cases d<;>rfl
theorem rQ {P:Program} {t:TypeId} {v:Value} (h:dQ P t=some v) (w:World):(zeroValue t).run P w= .ok v w:=by
 unfold dQ at h
 cases hi:P.info? t with
 |none=>simp[hi]at h
 |some i=>simp[hi]at h;simp[zeroValue,typeInfo,hi,h]
def qH:Value->Option AV
 | .slice none 0 0=>some (.list false true [])
 |v=>if gD v then some (.sc v)else none
def iZ:Value->Option AV
 | .agg cs=>(cs.toList.mapM qH).map .agg
 |v=>qH v
theorem G8 {v:Value} (h:gD v=true):one v=true:=by
 cases v<;>simp_all [gD,Value.oneCell']
theorem yX {F loc} {v:Value} {a:AV} (h:qH v=some a):RV F loc a v/\one v=true:=by
 unfold qH at h
 split at h
 ·obtain rfl:=Option.some.inj h;exact⟨.nil,rfl⟩
 ·split at h
  ·rename_i hs;obtain rfl:=Option.some.inj h;exact⟨.sc hs,G8 hs⟩
  ·cases h
theorem rR {α β:Type} {f:α->Option β}: ∀{l:List α} {r:List β},l.mapM f=some r->r.length=l.length/\ ∀(i:Nat) (a:α) (b:β),l[i]?=some a->r[i]?=some b->f a=some b
 | [],r,h=>by simp at h;subst h;simp
 |x::l,r,h=>by
  simp only[List.mapM_cons]at h
  cases hx:f x with
  |none=>simp[hx]at h
  |some y=>
   cases hl:l.mapM f with
   |none=>simp[hx,hl]at h
   |some ys=>
    simp[hx,hl]at h
    subst h
    obtain⟨h1,h2⟩:=rR hl
    refine⟨by simp[h1],fun i a b ha hb=>?_⟩
    cases i with
    |zero=>simp at ha hb;subst ha;subst hb;exact hx
    |succ i=>simp at ha hb;exact h2 i a b ha hb
theorem rS {F loc} {v:Value} {a:AV} (h:iZ v=some a):RV F loc a v:=by
 unfold iZ at h
 split at h
 ·rename_i cs
  cases hm:cs.toList.mapM qH with
  |none=>simp[hm]at h
  |some r=>
   simp[hm]at h
   subst h
   obtain⟨h1,h2⟩:=rR hm
   refine .agg (by simpa using h1) (fun i a v ha hv=>(yX (h2 i v a (by simpa using hv) ha)).1) fun i v hv=>?_
   have hlt:i<r.length:=by rw[h1];have:=(Array.getElem?_eq_some_iff.1 hv).1;simpa using this
   exact(yX (F:=F) (loc:=loc) (h2 i v r[i] (by simpa using hv) (by simp[hlt]))).2
 ·exact(yX h).1
def ev (t:List (Nat×AV)):Operand->Option AV
 | .tmp i=>lk t i
 | .const v=>iZ v
 | .func f=>some (.clo f [])
 | .global _=>none
theorem aPy {C F μ} {s:ASt} {a:Act} {w:World} (h:SR C F μ s a w) {x:Operand} {b:AV} (hb:ev s.t x=some b):RV F (aE s.o μ) b (a.eval x):=by
 cases x with
 |tmp i=>exact h.slot i b hb
 |const v=>exact rS hb
 |global g=>simp[ev]at hb
 |func f=>simp[ev]at hb;subst hb;exact .clo (by rfl) (by intro i a v ha;simp at ha)
def tM (P:Program) {α:Type}:Sem α->Option α
 | .pure a=>some a
 | .program k=>tM P (k P)
 | .mark _ k=>tM P k
 |_=>none
theorem G9 {P:Program} {α:Type}: ∀{s:Sem α} {a:α},tM P s=some a-> ∀w,s.run P w= .ok a w
 | .pure _,_,h,_=>by simp[tM]at h;subst h;rfl
 | .program k,_,h,w=>by simp only[tM]at h;exact G9 h w
 | .mark _ k,_,h,w=>by simp only[tM]at h;exact G9 (s:=k) h w
def qI:AV->Option Value
 | .sc v=>some v
 |_=>none
def fJ:AV->Option Value
 | .agg cs=>(cs.mapM qI).map fun l=> .agg l.toArray
 |a=>qI a
theorem aPz {F loc} {a:AV} {v v':Value} (h:RV F loc a v) (hv:qI a=some v'):v'=v:=by
 cases h<;>simp_all [qI]
theorem vB {F loc} {a:AV} {v v':Value} (h:RV F loc a v) (hv:fJ a=some v'):v'=v:=by
 cases h with
 | @agg _ _ cs vs hl hr ho=>
  simp only[fJ]at hv
  cases hm:cs.mapM qI with
  |none=>simp[hm]at hv
  |some r=>
   simp[hm]at hv
   subst hv
   obtain⟨h1,h2⟩:=rR hm
   congr 1
   apply Array.ext
   ·simp[h1,hl]
   ·intro i hi hi'
    have hic:i<cs.length:=by rw[hl];exact hi'
    have:=h2 i cs[i] r[i] (by simp[hic]) (by simp at hi;simp[hi])
    simpa using aPz (hr i cs[i] vs[i] (by simp[hic]) (by simp[hi'])) this
 |_=>simp_all [fJ,qI]
instance decSome {α:Type} {o:Option α} {p:α->Prop} [h: ∀a,Decidable (p a)]:Decidable (∀y,o=some y->p y):=
 match o with
 |none=> .isTrue (by simp)
 |some a=>match h a with
  | .isTrue k=> .isTrue (by simpa using k)
  | .isFalse k=> .isFalse (by simpa using k)
structure Sv where
 need:Bool
 val:AV
def bl (b:Bool):AV:= .sc (.bool b)
def nt (k:IntKind) (n:Int):AV:= .sc (.int k n)
def qJ (op:BinOp) (k:IntKind) (u v:Int):Option Sv:=
 match op with
 | .add=>some ⟨true,nt k (k.wrap (u+v))⟩
 | .sub=>some ⟨true,nt k (k.wrap (u - v))⟩
 | .mul=>some ⟨true,nt k (k.wrap (u*v))⟩
 | .quo=>some ⟨decide (v≠0),nt k (k.wrap (u.tdiv v))⟩
 | .rem=>some ⟨decide (v≠0),nt k (u.tmod v)⟩
 | .eql=>some ⟨true,bl (decide (u=v))⟩
 | .neq=>some ⟨true,bl (!decide (u=v))⟩
 | .lss=>some ⟨true,bl (decide (u<v))⟩
 | .leq=>some ⟨true,bl (decide (u<=v))⟩
 | .gtr=>some ⟨true,bl (decide (v<u))⟩
 | .geq=>some ⟨true,bl (decide (v<=u))⟩
 | .shr=>some ⟨decide (0<=v),nt k (u.fdiv (2^(min v.toNat k.bits)))⟩
 |_=>none
def vC (op:BinOp) (u v:ByteArray):Option Sv:=
 match op with
 | .add=>some ⟨decide (u.size+v.size<=2^62),.sc (.string (u++v))⟩
 | .eql=>some ⟨true,bl (decide (u=v))⟩
 | .neq=>some ⟨true,bl (!decide (u=v))⟩
 | .lss=>some ⟨true,bl (Op.bytesLess u.toList v.toList)⟩
 | .gtr=>some ⟨true,bl (!(Op.bytesLess u.toList v.toList||decide (u=v)))⟩
 | .leq=>some ⟨true,bl (Op.bytesLess u.toList v.toList||decide (u=v))⟩
 | .geq=>some ⟨true,bl (!Op.bytesLess u.toList v.toList)⟩
 |_=>none
def wY (P:Program) (t:TypeId):Bool:=match P.underlying t with|some .bool=>true|_=>false
def nF (P:Program) (op:BinOp) (t:TypeId) (a b:AV):Option Sv:=
 match a,b with
 | .sc (.int k u),.sc (.int k' v)=>if k=k' then qJ op k u v else if op= .shr then qJ .shr k u v else none
 | .sc (.string u),.sc (.string v)=>vC op u v
 | .sc (.bool u),.sc (.bool v)=>if wY P t=true then match op with
  | .eql=>some ⟨true,bl (u==v)⟩
  | .neq=>some ⟨true,bl (!(u==v))⟩
  |_=>none else none
 |_,_=>none
theorem aEm {P:Program} {op:BinOp} {k k':IntKind} {u v:Int} {r:Sv} (h:qJ op k u v=some r) (hn:r.need) (hk:k=k'\/op= .shr) (w:World) (t:TypeId) (x y:Operand):
 ∃z,(do eqGuard op t x y (.int k u) (.int k' v);binOp op t (.int k u) (.int k' v):Sem Value).run P w= .ok z w/\r.val= .sc z/\gD z=true:=by
 by_cases hs:op= .shr
 ·subst hs
  simp[qJ]at h
  subst h
  have hn': ¬v<0:=by simpa using hn
  refine⟨.int k (u.fdiv (2^(min v.toNat k.bits))),?_,rfl,rfl⟩
  simp[eqGuard,binOp,Op.shift,hn']
 ·obtain rfl:k=k':=hk.resolve_right hs
  cases op<;>simp[qJ]at h<;>subst h<;>
   first
   |exact absurd rfl hs
   |(refine⟨_,?_,rfl,rfl⟩;simp[eqGuard,binOp,Op.intArith,Op.intCmp];done)
   |(refine⟨_,?_,rfl,rfl⟩;(have hn': ¬v=0:=by simpa using hn);simp[eqGuard,binOp,Op.intDiv,hn'];done)
   |(refine⟨_,?_,rfl,rfl⟩;simp[eqGuard,binOp,Op.intCmp,bne];rfl)
theorem toList_inj {u v:ByteArray} (h:u.toList=v.toList):u=v:=by
 rw[ByteArray.toList_eq,ByteArray.toList_eq]at h
 obtain⟨⟨x⟩⟩:=u
 obtain⟨⟨y⟩⟩:=v
 simpa using h
theorem aP0 {P:Program} {op:BinOp} {u v:ByteArray} {r:Sv} (h:vC op u v=some r) (hn:r.need) (w:World) (t:TypeId) (x y:Operand):
 ∃z,(do eqGuard op t x y (.string u) (.string v);binOp op t (.string u) (.string v):Sem Value).run P w= .ok z w/\r.val= .sc z/\gD z=true:=by
 have he:(u.toList==v.toList)=decide (u=v):=by
  rw[<-beq_toListBytes]
  by_cases h:u=v
  ·subst h;rw[beq_toListBytes];simp
  ·rw[beq_toListBytes,beq_eq_false_iff_ne.2 (fun e=>h (toList_inj e))];simp[h]
 cases op<;>simp[vC]at h<;>subst h
 ·have hn':u.size+v.size<=2^62:=of_decide_eq_true hn
  have hf: ¬IntKind.i64.max<((u.size+v.size:Nat):Int):=by
   have:IntKind.i64.max=9223372036854775807:=by decide
   rw[this];omega
  refine⟨.string (u++v),?_,rfl,rfl⟩
  show(do eqGuard .add t x y (.string u) (.string v);Op.stringOp .add u v:Sem Value).run P w=_
  simp only[eqGuard,Op.stringOp]
  rw[if_neg hf]
  rfl
 ·refine⟨_,?_,rfl,rfl⟩;simp[eqGuard,binOp,Op.stringOp,he]
 ·refine⟨_,?_,rfl,rfl⟩;simp[eqGuard,binOp,Op.stringOp,he]
 all_goals(refine⟨_,?_,rfl,rfl⟩;simp[eqGuard,binOp,Op.stringOp,he])
theorem aP1 {P:Program} {t:TypeId} (hu:P.underlying t=some .bool) (u v:Bool) (w:World) (d:Nat):(Op.equalIn (d+1) t (.bool u) (.bool v)).run P w= .ok (u==v) w:=by
 simp only[Op.equalIn,Sem.run_bind,jW hu,Result.andThen_ok]
 rfl
theorem aEn {P:Program} {t:TypeId} (h:wY P t=true) (u v:Bool) (w:World):(Op.equal t (.bool u) (.bool v)).run P w= .ok (u==v) w:=by
 unfold wY at h
 split at h
 ·rename_i hu
  exact aP1 hu u v w 9999
 ·cases h
theorem aEo {P:Program} {F loc} {op:BinOp} {t:TypeId} {a b:AV} {u v:Value} {r:Sv} (h:nF P op t a b=some r) (hn:r.need) (ha:RV F loc a u) (hb:RV F loc b v) (w:World) (x y:Operand):
 ∃z,(do eqGuard op t x y u v;binOp op t u v:Sem Value).run P w= .ok z w/\RV F loc r.val z:=by
 unfold nF at h
 split at h
 ·cases ha;cases hb
  split at h
  ·rename_i hk
   obtain⟨z,h1,h2,h3⟩:=aEm (P:=P) h hn (.inl hk) w t x y
   exact⟨z,h1,h2▸ .sc h3⟩
  ·split at h
   ·rename_i hop
    subst hop
    obtain⟨z,h1,h2,h3⟩:=aEm (P:=P) h hn (.inr rfl) w t x y
    exact⟨z,h1,h2▸ .sc h3⟩
   ·cases h
 ·cases ha;cases hb
  obtain⟨z,h1,h2,h3⟩:=aP0 (P:=P) h hn w t x y
  exact⟨z,h1,h2▸ .sc h3⟩
 ·rename_i p q
  cases ha;cases hb
  split at h
  ·rename_i ht
   split at h
   ·obtain rfl:=Option.some.inj h
    refine⟨.bool (p==q),?_,.sc rfl⟩
    simp[eqGuard,binOp,aEn ht]
   ·obtain rfl:=Option.some.inj h
    refine⟨.bool (!(p==q)),?_,.sc rfl⟩
    simp[eqGuard,binOp,aEn ht]
   ·cases h
  ·cases h
 ·cases h
end Go.Ab
namespace Go.Ab
open Go.RowKit
def aJ (P:Program) (t:TypeId):Option (Bool×Nat):=
 match P.underlying t,P.info? t with
 |some _,some i=>some (tL P t,i.size)
 |_,_=>none
def cE (P:Program) (t:TypeId):Option (TypeId×Nat×Nat):=
 match P.underlying t with
 |some (.slice e)=>(P.info? e).map fun i=>(e,i.size,i.bytes)
 |_=>none
def jX (P:Program) (t:TypeId):Option (Nat×TypeId×Nat):=
 match P.underlying t with
 |some (.array n e)=>(P.info? e).map fun i=>(n,e,i.size)
 |_=>none
def bO (P:Program) (t:TypeId) (f:Nat):Option (Nat×TypeId×Nat):=
 match P.underlying t with
 |some (.struct fs)=>match fs[f]? with
  |some x=>(P.info? x.type).map fun i=>(x.offset,x.type,i.size)
  |none=>none
 |_=>none
theorem aEp {P:Program} {t:TypeId} {f off ft n:Nat} (h:bO P t f=some (off,ft,n)) (w:World): ∃fs x,(underlying t).run P w= .ok (.struct fs) w/\fs[f]?=some x/\x.offset=off/\x.type=ft/\(sizeOf ft).run P w= .ok n w:=by
 unfold bO at h
 split at h
 ·rename_i fs hu
  split at h
  ·rename_i x hx
   cases hi:P.info? x.type with
   |none=>simp[hi]at h
   |some i=>
    simp[hi]at h
    obtain⟨rfl,rfl,rfl⟩:=h
    exact⟨fs,x,jW hu w,hx,rfl,rfl,by simp[sizeOf,typeInfo,hi]⟩
  ·cases h
 ·cases h
def mA (P:Program) (t:TypeId):Option IntKind:=match P.underlying t with|some (.int k)=>some k|_=>none
def mB (P:Program) (t:TypeId):Bool:=match P.underlying t with|some .string=>true|_=>false
theorem qK {P:Program} {t:TypeId} {a:Bool} {n:Nat} (h:aJ P t=some (a,n)) (w:World):(isAgg t).run P w= .ok a w/\(sizeOf t).run P w= .ok n w:=by
 unfold aJ at h
 split at h
 ·rename_i d i hd hi
  simp at h
  obtain⟨rfl,rfl⟩:=h
  exact⟨aPx hd w,by simp[sizeOf,typeInfo,hi]⟩
 ·cases h
theorem gV {P:Program} {t e:TypeId} {n m:Nat} (h:cE P t=some (e,n,m)) (w:World):(underlying t).run P w= .ok (.slice e) w/\(sizeOf e).run P w= .ok n w/\ ∃i,P.info? e=some i/\i.size=n/\i.bytes=m:=by
 unfold cE at h
 split at h
 ·rename_i e' hu
  cases hi:P.info? e' with
  |none=>simp[hi]at h
  |some i=>
   simp[hi]at h
   obtain⟨rfl,rfl,rfl⟩:=h
   exact⟨jW hu w,by simp[sizeOf,typeInfo,hi],i,hi,rfl,rfl⟩
 ·cases h
theorem H0 {P:Program} {t e:TypeId} {n m:Nat} (h:jX P t=some (n,e,m)) (w:World):(underlying t).run P w= .ok (.array n e) w/\(sizeOf e).run P w= .ok m w:=by
 unfold jX at h
 split at h
 ·rename_i n' e' hu
  cases hi:P.info? e' with
  |none=>simp[hi]at h
  |some i=>
   simp[hi]at h
   obtain⟨rfl,rfl,rfl⟩:=h
   exact⟨jW hu w,by simp[sizeOf,typeInfo,hi]⟩
 ·cases h
def AV.isAgg:AV->Bool
 | .agg _=>true
 |_=>false
def jY (y:AV) (ag:Bool) (size o:Nat):Option AV:=
 if ag=true then
  if o+size<=y.cells.length then some (if o=0/\size=y.cells.length/\y.isAgg=true then y else .agg ((y.cells.drop o).take size))else none
 else y.cells[o]?
theorem oH {α:Type} {f:Nat->α} {n i:Nat} {v:α} (h:((List.range n).map f)[i]?=some v):i<n/\f i=v:=by
 rw[List.getElem?_map]at h
 by_cases hi:i<n
 ·rw[List.getElem?_range hi]at h;exact⟨hi,by simpa using h⟩
 ·rw[List.getElem?_eq_none (by simpa using hi)]at h;simp at h
theorem aEq {P:Program} {F loc} {y:AV} {w:World} {b p:Nat} (hc: ∀(j:Nat) (a:AV),y.cells[j]?=some a-> ∃v,w.cell? ⟨b,p+j,none⟩=some v/\one v=true/\RV F loc a v)
 {t:TypeId} {ag:Bool} {size:Nat} (ht:aJ P t=some (ag,size)) {o:Nat} {r:AV} (hr:jY y ag size o=some r):
 ∃v,(Instr.loadAt t (.pointer (some ⟨b,p+o,none⟩))).run P w= .ok v w/\RV F loc r v:=by
 obtain⟨h1,h2⟩:=qK ht w
 have hadd: ∀j,(⟨b,p+o,none⟩:Addr).add j=⟨b,p+o+j,none⟩:=fun j=>by unfold Addr.add;split<;>simp_all
 cases ag with
 |false=>
  simp only[jY,Bool.false_eq_true,if_false]at hr
  obtain⟨v,g1,g2,g3⟩:=hc o r hr
  refine⟨v,?_,g3⟩
  simp[Instr.loadAt,Instr.sureAddr,loadVar,h1,g1]
 |true=>
  simp only[jY,if_true]at hr
  split at hr
  ·rename_i hle
   have hex: ∀j,j<size-> ∃v,w.cell? ⟨b,p+o+j,none⟩=some v/\one v=true/\ ∀a,y.cells[o+j]?=some a->RV F loc a v:=by
    intro j hj
    have hlt:o+j<y.cells.length:=by omega
    obtain⟨v,g1,g2,g3⟩:=hc (o+j) y.cells[o+j] (by simp[hlt])
    exact⟨v,by rw[Nat.add_assoc];exact g1,g2,fun a ha=>by simp[hlt]at ha;subst ha;exact g3⟩
   obtain⟨f,hf⟩: ∃f:Nat->Value,∀j,j<size->w.cell? ⟨b,p+o+j,none⟩=some (f j)/\one (f j)=true/\ ∀a,y.cells[o+j]?=some a->RV F loc a (f j):=
    ⟨fun j=>if h:j<size then(hex j h).choose else .nilIface,fun j hj=>by simp only[hj,dif_pos];exact(hex j hj).choose_spec⟩
   have hl:(loadCells ⟨b,p+o,none⟩ size).run P w= .ok ((List.range size).map f).toArray w:=by
    have:=run_loadCells_list (P:=P) w ⟨b,p+o,none⟩ ((List.range size).map f) (fun j v hv=>by
     rw[hadd]
     obtain⟨hj,rfl⟩:=oH hv
     exact(hf j hj).1)
    simpa using this
   have hres:RV F loc (.agg ((y.cells.drop o).take size)) (.agg ((List.range size).map f).toArray):=by
    refine .agg (by simp;omega) (fun i a v ha hv=>?_) (fun i v hv=>?_)
    ·obtain⟨hi,rfl⟩:=oH (by simpa using hv)
     rw[List.getElem?_take,if_pos hi,List.getElem?_drop]at ha
     exact(hf i hi).2.2 a ha
    ·obtain⟨hi,rfl⟩:=oH (by simpa using hv)
     exact(hf i hi).2.1
   refine⟨.agg ((List.range size).map f).toArray,?_,?_⟩
   ·simp[Instr.loadAt,Instr.sureAddr,loadVar,h1,h2,hl]
   ·have hr':=Option.some.inj hr
    subst hr'
    split
    ·rename_i hcond
     obtain⟨rfl,hs,hag⟩:=hcond
     cases y with
     |agg cs=>
      simp only[AV.cells]at hs
      have:(cs.drop 0).take size=cs:=by simp[hs]
      simp only[AV.cells]at hres
      rw[this]at hres
      exact hres
     |_=>simp[AV.isAgg]at hag
    ·exact hres
  ·cases hr
theorem aEr {P:Program} {F loc} {y:AV} {w:World} {b p:Nat} (hc: ∀(j:Nat) (a:AV),y.cells[j]?=some a-> ∃v,w.cell? ⟨b,p+j,none⟩=some v/\one v=true/\RV F loc a v)
 {t:TypeId} {ag:Bool} {size:Nat} (ht:aJ P t=some (ag,size)) {o:Nat} {r:AV} (hr:jY y ag size o=some r):
 ∃v,(∀w':World,(∀k v,w.cell? ⟨b,k,none⟩=some v->w'.cell? ⟨b,k,none⟩=some v)->(Instr.loadAt t (.pointer (some ⟨b,p+o,none⟩))).run P w'= .ok v w')/\RV F loc r v:=by
 have hadd: ∀j,(⟨b,p+o,none⟩:Addr).add j=⟨b,p+o+j,none⟩:=fun j=>by unfold Addr.add;split<;>simp_all
 cases ag with
 |false=>
  simp only[jY,Bool.false_eq_true,if_false]at hr
  obtain⟨v,g1,g2,g3⟩:=hc o r hr
  refine⟨v,fun w' hw=>?_,g3⟩
  obtain⟨h1,h2⟩:=qK ht w'
  have g1:=hw _ _ g1
  simp[Instr.loadAt,Instr.sureAddr,loadVar,h1,g1]
 |true=>
  simp only[jY,if_true]at hr
  split at hr
  ·rename_i hle
   have hex: ∀j,j<size-> ∃v,w.cell? ⟨b,p+o+j,none⟩=some v/\one v=true/\ ∀a,y.cells[o+j]?=some a->RV F loc a v:=by
    intro j hj
    have hlt:o+j<y.cells.length:=by omega
    obtain⟨v,g1,g2,g3⟩:=hc (o+j) y.cells[o+j] (by simp[hlt])
    exact⟨v,by rw[Nat.add_assoc];exact g1,g2,fun a ha=>by simp[hlt]at ha;subst ha;exact g3⟩
   obtain⟨f,hf⟩: ∃f:Nat->Value,∀j,j<size->w.cell? ⟨b,p+o+j,none⟩=some (f j)/\one (f j)=true/\ ∀a,y.cells[o+j]?=some a->RV F loc a (f j):=
    ⟨fun j=>if h:j<size then(hex j h).choose else .nilIface,fun j hj=>by simp only[hj,dif_pos];exact(hex j hj).choose_spec⟩
   have hl: ∀w':World,(∀k v,w.cell? ⟨b,k,none⟩=some v->w'.cell? ⟨b,k,none⟩=some v)->(loadCells ⟨b,p+o,none⟩ size).run P w'= .ok ((List.range size).map f).toArray w':=by
    intro w' hw
    have:=run_loadCells_list (P:=P) w' ⟨b,p+o,none⟩ ((List.range size).map f) (fun j v hv=>by
     rw[hadd]
     obtain⟨hj,rfl⟩:=oH hv
     exact hw _ _ (hf j hj).1)
    simpa using this
   have hres:RV F loc (.agg ((y.cells.drop o).take size)) (.agg ((List.range size).map f).toArray):=by
    refine .agg (by simp;omega) (fun i a v ha hv=>?_) (fun i v hv=>?_)
    ·obtain⟨hi,rfl⟩:=oH (by simpa using hv)
     rw[List.getElem?_take,if_pos hi,List.getElem?_drop]at ha
     exact(hf i hi).2.2 a ha
    ·obtain⟨hi,rfl⟩:=oH (by simpa using hv)
     exact(hf i hi).2.1
   refine⟨.agg ((List.range size).map f).toArray,fun w' hw=>?_,?_⟩
   ·obtain⟨h1,h2⟩:=qK ht w'
    simp[Instr.loadAt,Instr.sureAddr,loadVar,h1,h2,hl w' hw]
   ·have hr':=Option.some.inj hr
    subst hr'
    split
    ·rename_i hcond
     obtain⟨rfl,hs,hag⟩:=hcond
     cases y with
     |agg cs=>
      simp only[AV.cells]at hs
      have:(cs.drop 0).take size=cs:=by simp[hs]
      simp only[AV.cells]at hres
      rw[this]at hres
      exact hres
     |_=>simp[AV.isAgg]at hag
    ·exact hres
  ·cases hr
def lG (ob:aF):AV->Option (AV×Nat)
 | .iptr _ xs i o=>(xs[i]?).map fun y=>(y,o)
 | .ptr L i o=>match lk ob L with
  |some x=>(x.xs[i]?).map fun y=>(y,o)
  |none=>none
 |_=>none
def nG (P:Program) (t:TypeId) (p:AV) (ob:aF):Option Sv:=
 match aJ P t with
 |some (ag,size)=>match lG ob p with
  |some (y,o)=>(jY y ag size o).map fun a=>⟨true,a⟩
  |none=>none
 |none=>none
theorem aEs {P:Program} {C F μ} {ob:aF} {w:World} (hw:SW C F μ ob w) {t:TypeId} {p:AV} {v:Value} {r:Sv} (h:nG P t p ob=some r) (hp:RV F (aE ob μ) p v):
 ∃z,(Instr.loadAt t v).run P w= .ok z w/\RV F (aE ob μ) r.val z:=by
 unfold nG at h
 split at h
 ·rename_i ag size ht
  split at h
  ·rename_i y o hpe
   cases hr:jY y ag size o with
   |none=>simp[hr]at h
   |some a=>
    simp[hr]at h
    subst h
    cases hp with
    | @iptr _ _ lent xs b o0 es i k f g1 g2 g3 g4 g5=>
     simp only[lG]at hpe
     cases hx:xs[i]? with
     |none=>simp[hx]at hpe
     |some y'=>
      simp[hx]at hpe
      obtain⟨rfl,rfl⟩:=hpe
      refine aEq (y:=y') (p:=o0+i*es) (fun j a ha=>?_) ht hr
      exact⟨f i j,hw.facts _ _ _ _ (g3 i y' j a hx ha),g5 i y' j a hx ha,(g4 i y' j a hx ha).up hw.sub⟩
    | @ptr _ _ L i k b cap es len g1 g2=>
     simp only[lG]at hpe
     cases hg:lk ob L with
     |none=>simp[hg]at hpe
     |some x=>
      simp[hg]at hpe
      obtain⟨y',hx,rfl,rfl⟩:=hpe
      have hloc:aE ob μ L=some (bV x (μ L)):=by simp[aE,hg]
      rw[hloc]at g1
      obtain⟨hm,rfl,rfl,hk1⟩:=fB (Option.some.inj g1)
      have ho:=hw.obj L x hg
      rw[hm]at ho
      refine aEq (y:=y') (p:=i*x.es) (fun j a ha=>?_) ht hr
      obtain⟨v,q1,q2,q3⟩:=ObjAt.cell ho hk1 hx ha
      refine⟨v,q1,q2,?_⟩
      cases harr:x.arr with
      |false=>rw[harr]at q3;exact q3
      |true=>rw[harr]at q3;exact RV.up q3 hw.sub
    |_=>simp[lG]at hpe
  ·cases h
 ·cases h
theorem aP2 {P:Program} {C F μ} {ob:aF} {w:World} (hw:SW C F μ ob w) {t:TypeId} {p:AV} {v:Value} {r:Sv} (h:nG P t p ob=some r) (hp:RV F (aE ob μ) p v):
 ∃z,(∀w':World,(∀k,k<w.heap.size->w'.heap[k]?=w.heap[k]?)->(Instr.loadAt t v).run P w'= .ok z w')/\RV F (aE ob μ) r.val z:=by
 have hce: ∀(b:Nat) (w':World),(∀k,k<w.heap.size->w'.heap[k]?=w.heap[k]?)-> ∀k v,w.cell? ⟨b,k,none⟩=some v->w'.cell? ⟨b,k,none⟩=some v:=fun b w' hw k v hv=>by
  rw[qG (hw b (pI hv))];exact hv
 unfold nG at h
 split at h
 ·rename_i ag size ht
  split at h
  ·rename_i y o hpe
   cases hr:jY y ag size o with
   |none=>simp[hr]at h
   |some a=>
    simp[hr]at h
    subst h
    cases hp with
    | @iptr _ _ lent xs b o0 es i k f g1 g2 g3 g4 g5=>
     simp only[lG]at hpe
     cases hx:xs[i]? with
     |none=>simp[hx]at hpe
     |some y'=>
      simp[hx]at hpe
      obtain⟨rfl,rfl⟩:=hpe
      obtain⟨z,k1,k2⟩:=aEr (P:=P) (w:=w) (y:=y') (b:=b) (p:=o0+i*es) (F:=F) (loc:=aE ob μ)
       (fun j a ha=>⟨f i j,hw.facts _ _ _ _ (g3 i y' j a hx ha),g5 i y' j a hx ha,(g4 i y' j a hx ha).up hw.sub⟩) ht hr
      exact⟨z,fun w' hw=>k1 w' (hce b w' hw),k2⟩
    | @ptr _ _ L i k b cap es len g1 g2=>
     simp only[lG]at hpe
     cases hg:lk ob L with
     |none=>simp[hg]at hpe
     |some x=>
      simp[hg]at hpe
      obtain⟨y',hx,rfl,rfl⟩:=hpe
      have hloc:aE ob μ L=some (bV x (μ L)):=by simp[aE,hg]
      rw[hloc]at g1
      obtain⟨hm,rfl,rfl,hk1⟩:=fB (Option.some.inj g1)
      have ho:=hw.obj L x hg
      rw[hm]at ho
      obtain⟨z,k1,k2⟩:=aEr (P:=P) (w:=w) (y:=y') (b:=b) (p:=i*x.es) (F:=F) (loc:=aE ob μ) (fun j a ha=>by
       obtain⟨v,q1,q2,q3⟩:=ObjAt.cell ho hk1 hx ha
       refine⟨v,q1,q2,?_⟩
       cases harr:x.arr with
       |false=>rw[harr]at q3;exact q3
       |true=>rw[harr]at q3;exact RV.up q3 hw.sub) ht hr
      exact⟨z,fun w' hw=>k1 w' (hce b w' hw),k2⟩
    |_=>simp[lG]at hpe
  ·cases h
 ·cases h
end Go.Ab
namespace Go.Ab
open Go.RowKit
theorem nH (b p n:Nat):(⟨b,p,none⟩:Addr).add n=⟨b,p+n,none⟩:=by unfold Addr.add;split<;>simp_all
def vD (P:Program) (t:TypeId) (f:Nat) (p:AV):Option Sv:=
 match bO P t f with
 |some (off,_,n)=>match p with
  | .iptr l xs i o=>some ⟨decide (n≠0),.iptr l xs i (o+off)⟩
  | .ptr L i o=>some ⟨decide (n≠0),.ptr L i (o+off)⟩
  |_=>none
 |none=>none
theorem H1 {P:Program} {t:TypeId} {f off ft n:Nat} (h:bO P t f=some (off,ft,n)) (hn:n≠0) (b p:Nat) (w:World):
 (Instr.fieldAt t (.pointer (some ⟨b,p,none⟩)) f).run P w= .ok (.pointer (some ⟨b,p+off,none⟩)) w:=by
 obtain⟨fs,x,h1,h2,rfl,rfl,h3⟩:=aEp h w
 simp[Instr.fieldAt,h1,h2,Instr.sureAddr,fieldPlace,h3,hn,nH]
theorem aP3 {P:Program} {F loc} {t:TypeId} {f:Nat} {p:AV} {v:Value} {r:Sv} (h:vD P t f p=some r) (hn:r.need) (hp:RV F loc p v) (w:World):
 ∃z,(Instr.fieldAt t v f).run P w= .ok z w/\RV F loc r.val z:=by
 unfold vD at h
 split at h
 ·rename_i off ft n hf
  split at h
  ·obtain rfl:=Option.some.inj h
   cases hp with
   |iptr g1 g2 g3 g4 g5=>
    refine⟨_,H1 hf (of_decide_eq_true hn) _ _ w,?_⟩
    rw[Nat.add_assoc]
    exact .iptr g1 g2 g3 g4 g5
  ·obtain rfl:=Option.some.inj h
   cases hp with
   |ptr g1 g2=>
    refine⟨_,H1 hf (of_decide_eq_true hn) _ _ w,?_⟩
    rw[Nat.add_assoc]
    exact .ptr g1 g2
  ·cases h
 ·cases h
theorem aEt {P:Program} {F loc} {t:TypeId} {f:Nat} {p:AV} {v:Value} {r:Sv} (h:vD P t f p=some r) (hn:r.need) (hp:RV F loc p v):
 ∃z,(∀w,(Instr.fieldAt t v f).run P w= .ok z w)/\RV F loc r.val z:=by
 unfold vD at h
 split at h
 ·rename_i off ft n hf
  split at h
  ·obtain rfl:=Option.some.inj h
   cases hp with
   |iptr g1 g2 g3 g4 g5=>
    refine⟨_,fun w=>H1 hf (of_decide_eq_true hn) _ _ w,?_⟩
    rw[Nat.add_assoc]
    exact .iptr g1 g2 g3 g4 g5
  ·obtain rfl:=Option.some.inj h
   cases hp with
   |ptr g1 g2=>
    refine⟨_,fun w=>H1 hf (of_decide_eq_true hn) _ _ w,?_⟩
    rw[Nat.add_assoc]
    exact .ptr g1 g2
  ·cases h
 ·cases h
def pJ (P:Program) (t:TypeId) (x:AV):Option Sv:=
 match x with
 | .sc (.string s)=>if mB P t=true then some ⟨true,nt .i64 s.size⟩else none
 | .sc (.slice none 0 0)=>match cE P t with|some _=>some ⟨true,nt .i64 0⟩|none=>none
 | .list _ _ xs=>match cE P t with|some _=>some ⟨true,nt .i64 xs.length⟩|none=>none
 | .ref _ _ n=>match cE P t with|some _=>some ⟨true,nt .i64 n⟩|none=>none
 | .aref _ _ _ _ n=>match cE P t with|some _=>some ⟨true,nt .i64 n⟩|none=>none
 | .rc _ _ n _=>match cE P t with|some _=>some ⟨true,nt .i64 n⟩|none=>none
 |_=>none
def yY (P:Program) (t:TypeId) (x:AV):Option Sv:=
 match x with
 | .rc _ lo _ c=>match cE P t with|some _=>some ⟨true,nt .i64 ((c - lo:Nat):Int)⟩|none=>none
 |_=>none
theorem aP4 {P:Program} {F loc} {t ty:TypeId} {x:AV} {v:Value} {r:Sv} (h:yY P t x=some r) (hx:RV F loc x v) (w:World):
 ∃z,(Builtin.cap_ #[t] ty #[v]).run P w= .ok z w/\RV F loc r.val z:=by
 unfold yY at h
 split at h
 ·rename_i L lo n c
  split at h
  ·rename_i q hq
   obtain⟨e,n',m⟩:=q
   obtain rfl:=Option.some.inj h
   obtain⟨hu,_⟩:=gV hq w
   refine⟨goInt ((c - lo:Nat):Int),?_,.sc rfl⟩
   cases hx<;>simp[Builtin.cap_,hu,goInt]
  ·cases h
 ·cases h
theorem aEu {P:Program} {F loc} {t ty:TypeId} {x:AV} {v:Value} {r:Sv} (h:pJ P t x=some r) (hx:RV F loc x v) (w:World):
 ∃z,(Builtin.len_ #[t] ty #[v]).run P w= .ok z w/\RV F loc r.val z:=by
 unfold pJ at h
 split at h
 ·rename_i s
  cases hx
  split at h
  ·rename_i ht
   obtain rfl:=Option.some.inj h
   refine⟨goInt s.size,?_,.sc rfl⟩
   unfold mB at ht
   split at ht
   ·rename_i hu;simp[Builtin.len_,jW hu]
   ·cases ht
  ·cases h
 ·split at h
  ·rename_i q hq
   obtain⟨e,n,m⟩:=q
   obtain rfl:=Option.some.inj h
   obtain⟨hu,_⟩:=gV hq w
   refine⟨goInt 0,?_,.sc rfl⟩
   cases hx;simp[Builtin.len_,hu]
  ·cases h
 ·rename_i l fl xs
  split at h
  ·rename_i q hq
   obtain⟨e,n,m⟩:=q
   obtain rfl:=Option.some.inj h
   obtain⟨hu,_⟩:=gV hq w
   refine⟨goInt xs.length,?_,.sc rfl⟩
   cases hx<;>simp[Builtin.len_,hu]
  ·cases h
 ·rename_i L lo n
  split at h
  ·rename_i q hq
   obtain⟨e,n',m⟩:=q
   obtain rfl:=Option.some.inj h
   obtain⟨hu,_⟩:=gV hq w
   refine⟨goInt n,?_,.sc rfl⟩
   cases hx<;>simp[Builtin.len_,hu]
  ·cases h
 ·rename_i L i o es n
  split at h
  ·rename_i q hq
   obtain⟨e,n',m⟩:=q
   obtain rfl:=Option.some.inj h
   obtain⟨hu,_⟩:=gV hq w
   refine⟨goInt n,?_,.sc rfl⟩
   cases hx<;>simp[Builtin.len_,hu]
  ·cases h
 ·rename_i L lo n c
  split at h
  ·rename_i q hq
   obtain⟨e,n',m⟩:=q
   obtain rfl:=Option.some.inj h
   obtain⟨hu,_⟩:=gV hq w
   refine⟨goInt n,?_,.sc rfl⟩
   cases hx<;>simp[Builtin.len_,hu]
  ·cases h
 ·cases h
def pK (P:Program) (t:TypeId) (x ix:AV) (ob:aF):Option Sv:=
 match ix with
 | .sc (.int _ i)=>match x with
  | .list l _ xs=>match cE P t with
   |some (_,es,_)=>some ⟨decide (0<=i/\i<xs.length/\ ∀y,xs[i.toNat]?=some y->y.cells.length=es),.iptr l xs i.toNat 0⟩
   |none=>none
  | .ref L lo n=>match cE P t,lk ob L with
   |some (_,es,_),some x=>some ⟨decide (x.es=es/\0<=i/\i<n),.ptr L (lo+i.toNat) 0⟩
   |_,_=>none
  | .aref L k o es' n=>match cE P t with
   |some (_,es,_)=>some ⟨decide (es'=es/\0<=i/\i<n),.ptr L k (o+i.toNat*es)⟩
   |none=>none
  | .ptr L k o=>match jX P t with
   |some (n,_,es)=>some ⟨decide (0<=i/\i<n),.ptr L k (o+i.toNat*es)⟩
   |none=>none
  | .iptr l xs k o=>match jX P t with
   |some (n,_,es)=>some ⟨decide (0<=i/\i<n),.iptr l xs k (o+i.toNat*es)⟩
   |none=>none
  |_=>none
 |_=>none
theorem T7 {P:Program} {t e:TypeId} {es m:Nat} (h:cE P t=some (e,es,m)) {k:IntKind} {i:Int} {len c:Nat} (h0:0<=i) (h1:i<len) (b p:Nat) (w:World):
 (Instr.indexAt t (.slice (some ⟨b,p,none⟩) len c) (.int k i)).run P w= .ok (.pointer (some ⟨b,p+i.toNat*es,none⟩)) w:=by
 obtain⟨hu,hs,_⟩:=gV h w
 have hc:(0<=i/\i<(len:Int)):=⟨h0,h1⟩
 simp[Instr.indexAt,asIntOf,hu,hs,hc,h0,h1,nH]
theorem aEv {P:Program} {t e:TypeId} {n es:Nat} (h:jX P t=some (n,e,es)) {k:IntKind} {i:Int} (h0:0<=i) (h1:i<n) (b p:Nat) (w:World):
 (Instr.indexAt t (.pointer (some ⟨b,p,none⟩)) (.int k i)).run P w= .ok (.pointer (some ⟨b,p+i.toNat*es,none⟩)) w:=by
 obtain⟨hu,hs⟩:=H0 h w
 have hc:(0<=i/\i<(n:Int)):=⟨h0,h1⟩
 simp[Instr.indexAt,asIntOf,hu,hs,hc,h0,h1,nH,Instr.sureAddr]
theorem aEw {P:Program} {F} {μ:Pl} {ob:aF} {t:TypeId} {x ix:AV} {v u:Value} {r:Sv} (h:pK P t x ix ob=some r) (hn:r.need) (hx:RV F (aE ob μ) x v) (hi:RV F (aE ob μ) ix u):
 ∃z,(∀w,(Instr.indexAt t v u).run P w= .ok z w)/\RV F (aE ob μ) r.val z:=by
 unfold pK at h
 split at h
 ·rename_i k i
  cases hi
  split at h
  ·rename_i l fl xs
   split at h
   ·rename_i e es m ht
    obtain rfl:=Option.some.inj h
    obtain⟨h0,h1,h2⟩:=of_decide_eq_true hn
    have hlt:i.toNat<xs.length:=by omega
    cases hx with
    |nil=>simp at hlt
    | @list _ _ _ _ _ b o o' cap es' f g1 g2 g3 g4 g5 g6 g7 g8=>
     have hes:es'=es:=(g1 xs[i.toNat] (by simp)).symm.trans (h2 xs[i.toNat] (by simp[hlt]))
     subst hes
     obtain rfl:=g5 (by intro e;subst e;simp at hlt)
     exact⟨_,fun w=>T7 ht h0 h1 b o' w,.iptr (k:=0) g1 hlt g6 g7 g8⟩
   ·cases h
  ·rename_i L lo n
   split at h
   ·rename_i e es m x' ht hg
    obtain rfl:=Option.some.inj h
    obtain⟨hes,h0,h1⟩:=of_decide_eq_true hn
    have hloc:aE ob μ L=some (bV x' (μ L)):=by simp[aE,hg]
    cases hx with
    |refNil g=>simp at h1;omega
    | @ref _ _ _ _ _ b cap es' len o c g1 g2 g3 g4 g5=>
     rw[hloc]at g1
     obtain⟨hm,rfl,rfl,hk1⟩:=fB (Option.some.inj g1)
     obtain rfl:=g4 (.inl (by omega))
     refine⟨_,fun w=>T7 ht h0 h1 b _ w,?_⟩
     rw[<-hes,<-Nat.add_mul]
     exact .ptr (k:=0) (hloc.trans (by rw[lE hk1,hm])) (by omega)
   ·cases h
  ·rename_i L k' o es' n
   split at h
   ·rename_i e es m ht
    obtain rfl:=Option.some.inj h
    obtain⟨hes,h0,h1⟩:=of_decide_eq_true hn
    cases hx with
    |aref g1 g2 g3 g4=>
     obtain rfl:=g4 (by omega)
     refine⟨_,fun w=>T7 ht h0 h1 _ _ w,?_⟩
     rw[Nat.add_assoc]
     exact .ptr g1 g2
   ·cases h
  ·rename_i L k' o
   split at h
   ·rename_i n e es ht
    obtain rfl:=Option.some.inj h
    obtain⟨h0,h1⟩:=of_decide_eq_true hn
    cases hx with
    |ptr g1 g2=>
     refine⟨_,fun w=>aEv ht h0 h1 _ _ w,?_⟩
     rw[Nat.add_assoc]
     exact .ptr g1 g2
   ·cases h
  ·rename_i l xs k' o
   split at h
   ·rename_i n e es ht
    obtain rfl:=Option.some.inj h
    obtain⟨h0,h1⟩:=of_decide_eq_true hn
    cases hx with
    |iptr g1 g2 g3 g4 g5=>
     refine⟨_,fun w=>aEv ht h0 h1 _ _ w,?_⟩
     rw[Nat.add_assoc]
     exact .iptr g1 g2 g3 g4 g5
   ·cases h
  ·cases h
 ·cases h
theorem aP5 {P:Program} {F} {μ:Pl} {ob:aF} {t:TypeId} {x ix:AV} {v u:Value} {r:Sv} (h:pK P t x ix ob=some r) (hn:r.need) (hx:RV F (aE ob μ) x v) (hi:RV F (aE ob μ) ix u) (w:World):
 ∃z,(Instr.indexAt t v u).run P w= .ok z w/\RV F (aE ob μ) r.val z:=by
 obtain⟨z,h1,h2⟩:=aEw h hn hx hi
 exact⟨z,h1 w,h2⟩
def rT (P:Program) (t:TypeId) (cs:List AV) (off:Nat):Option AV:=
 match aJ P t with
 |some (true,n)=>some (.agg ((cs.drop off).take n))
 |some (false,_)=>cs[off]?
 |none=>none
theorem aEx {P:Program} {F loc} {t:TypeId} {cs:List AV} {vs:Array Value} {off:Nat} {a:AV} (h:rT P t cs off=some a) (hx:RV F loc (.agg cs) (.agg vs)) (w:World):
 ∃z,(part t vs off).run P w= .ok z w/\RV F loc a z:=by
 cases hx with
 |agg h1 h2 h3=>
  unfold rT at h
  split at h
  ·rename_i n ht
   obtain rfl:=Option.some.inj h
   obtain⟨g1,g2⟩:=qK ht w
   refine⟨.agg (vs.extract off (off+n)),by simp[part,g1,g2],?_⟩
   refine .agg (by simp[h1];omega) (fun i a v ha hv=>?_) (fun i v hv=>?_)
   ·rw[List.getElem?_take]at ha
    split at ha
    ·rw[List.getElem?_drop]at ha
     rw[Array.getElem?_extract]at hv
     split at hv
     ·exact h2 (off+i) a v ha hv
     ·cases hv
    ·cases ha
   ·rw[Array.getElem?_extract]at hv
    split at hv
    ·exact h3 (off+i) v hv
    ·cases hv
  ·rename_i n ht
   obtain⟨g1,g2⟩:=qK ht w
   have hi:off<vs.size:=by rw[<-h1];exact(List.getElem?_eq_some_iff.1 h).1
   exact⟨vs[off],by simp[part,g1,hi],h2 off a vs[off] h (by simp[hi])⟩
  ·cases h
def yZ (P:Program) (t:TypeId) (x:AV) (f:Nat):Option Sv:=
 match x with
 | .agg cs=>match bO P t f with
  |some (off,ft,_)=>(rT P ft cs off).map fun a=>⟨true,a⟩
  |none=>none
 |_=>none
theorem aP6 {P:Program} {F loc} {t:TypeId} {f:Nat} {x:AV} {v:Value} {r:Sv} (h:yZ P t x f=some r) (hx:RV F loc x v) (w:World):
 ∃z,(Instr.field t v f).run P w= .ok z w/\RV F loc r.val z:=by
 unfold yZ at h
 split at h
 ·rename_i cs
  split at h
  ·rename_i off ft n hf
   cases hp:rT P ft cs off with
   |none=>simp[hp]at h
   |some a=>
    simp[hp]at h
    subst h
    obtain⟨fs,y,h1,h2,rfl,rfl,h3⟩:=aEp hf w
    cases hx':v with
    |agg vs=>
     rw[hx']at hx
     obtain⟨z,g1,g2⟩:=aEx hp hx w
     exact⟨z,by simp[Instr.field,h1,h2,asAgg,g1],g2⟩
    |_=>rw[hx']at hx;cases hx
  ·cases h
 ·cases h
def wZ (P:Program) (t:TypeId) (x ix:AV):Option Sv:=
 match ix with
 | .sc (.int _ i)=>match x with
  | .sc (.string s)=>if mB P t=true then some ⟨decide (0<=i/\i<s.size),nt .u8 (s.data.toList.getD i.toNat 0).toNat⟩else none
  | .agg cs=>match jX P t with
   |some (n,e,es)=>(rT P e cs (i.toNat*es)).map fun a=>⟨decide (0<=i/\i<n),a⟩
   |none=>none
  |_=>none
 |_=>none
theorem aP7 {P:Program} {F loc} {t:TypeId} {x ix:AV} {v u:Value} {r:Sv} (h:wZ P t x ix=some r) (hn:r.need) (hx:RV F loc x v) (hi:RV F loc ix u) (w:World):
 ∃z,(Instr.index t v u).run P w= .ok z w/\RV F loc r.val z:=by
 unfold wZ at h
 split at h
 ·rename_i k i
  cases hi
  split at h
  ·rename_i s
   cases hx
   split at h
   ·rename_i ht
    obtain rfl:=Option.some.inj h
    obtain⟨h0,h1⟩:=of_decide_eq_true hn
    unfold mB at ht
    split at ht
    ·rename_i hu
     have hlt:i.toNat<s.size:=by omega
     have hlt':i.toNat<s.data.toList.length:=by simpa using hlt
     refine⟨.int .u8 (s[i.toNat]).toNat,?_,?_⟩
     ·simp[Instr.index,asIntOf,jW hu,h0,hlt]
     ·have:s.data.toList.getD i.toNat 0=s[i.toNat]:=by
       rw[List.getD_eq_getElem?_getD,List.getElem?_eq_getElem hlt'];rfl
      show RV F loc (nt .u8 (s.data.toList.getD i.toNat 0).toNat) _
      rw[this]
      exact .sc rfl
    ·cases ht
   ·cases h
  ·rename_i cs
   split at h
   ·rename_i n e es ht
    cases hp:rT P e cs (i.toNat*es)with
    |none=>simp[hp]at h
    |some a=>
     simp[hp]at h
     subst h
     obtain⟨h0,h1⟩:0<=i/\i<(n:Int):=by simpa using hn
     obtain⟨hu,hs⟩:=H0 ht w
     cases hx':v with
     |agg vs=>
      rw[hx']at hx
      obtain⟨z,g1,g2⟩:=aEx hp hx w
      exact⟨z,by simp[Instr.index,asIntOf,hu,hs,h0,h1,g1],g2⟩
     |_=>rw[hx']at hx;cases hx
   ·cases h
  ·cases h
 ·cases h
end Go.Ab
namespace Go.Ab
open Go.RowKit
def bd (x:Option AV) (d:Int):Option Int:=
 match x with
 |none=>some d
 |some (.sc (.int _ i))=>some i
 |_=>none
inductive RO (F:Bool->aZ) (loc:Nat->Option LI):Option AV->Option Value->Prop
 |none:RO F loc none none
 |some {a v}:RV F loc a v->RO F loc (some a) (some v)
theorem tN {P:Program} {F loc} {lo hi:Option AV} {vl vh:Option Value} {l h:Int} {isS:Bool} {len cap:Nat} (hl:RO F loc lo vl) (hh:RO F loc hi vh) (el:bd lo 0=some l) (eh:bd hi len=some h)
 (h0:0<=l) (h1:l<=h) (h2:h<=cap) (w:World):(Instr.sliceBounds isS len cap vl vh none).run P w= .ok (l.toNat,h.toNat,cap) w:=by
 have q0:0<=h:=by omega
 have q1:l<=(h.toNat:Int):=by omega
 cases hl with
 |none=>
  simp[bd]at el;subst el
  cases hh with
  |none=>simp[bd]at eh;subst eh;simp[Instr.sliceBounds]
  | @some a v ha=>
   cases a with
   |sc u=>cases u with
    |int k i=>simp[bd]at eh;subst eh;cases ha;simp[Instr.sliceBounds,run_sliceBound,q0,h2]
    |_=>simp[bd]at eh
   |_=>simp[bd]at eh
 | @some a v ha=>
  cases a with
  |sc u=>cases u with
   |int k i=>
    simp[bd]at el;subst el;cases ha
    have hq: ∀y:Nat,i<=(y:Int)->(Instr.sliceBound (.int k i) y .sliceB).run P w= .ok i.toNat w:=fun y hy=>run_sliceBound _ _ _ _ _ h0 hy
    have hq1:=hq h.toNat q1
    cases hh with
    |none=>
     simp[bd]at eh;subst eh
     have hq2:=hq len h1
     simp[Instr.sliceBounds,hq2]
    | @some a v ha=>
     cases a with
     |sc u=>cases u with
      |int k2 i2=>
       simp[bd]at eh;subst eh;cases ha
       have hq3:=run_sliceBound (P:=P) w k2 i2 cap (if isS=true then .sliceAcap else .sliceAlen) q0 h2
       simp[Instr.sliceBounds,hq3,hq1]
      |_=>simp[bd]at eh
     |_=>simp[bd]at eh
   |_=>simp[bd]at el
  |_=>simp[bd]at el
def rU (cs:List AV) (k es n:Nat):List AV:=(List.range n).map fun j=> .agg ((cs.drop (k+j*es)).take es)
def H2 (len:Bool) (k:Nat):Option (Nat×TypeId×Nat)->Option AV->Option AV->Option AV->Option Sv
 |some (n,_,es),none,none,some y=>some ⟨decide (k+n*es<=y.cells.length/\n<=dD/\0<n),.list len true (rU y.cells k es n)⟩
 |_,_,_,_=>none
def jJ (P:Program) (t:TypeId) (x:AV) (lo hi:Option AV) (ob:aF):Option Sv:=
 match x with
 | .iptr len xs i k=>H2 len k (jX P t) lo hi xs[i]?
 | .sc (.string s)=>if mB P t=true then match bd lo 0,bd hi s.size with
  |some l,some h=>some ⟨decide (0<=l/\l<=h/\h<=s.size),.sc (.string (s.extract l.toNat h.toNat))⟩
  |_,_=>none else none
 | .list len kH xs=>match cE P t,bd lo 0,bd hi xs.length with
  |some (_,es,_),some l,some h=>some ⟨decide (0<=l/\l<=h/\h<=xs.length/\ ∀y∈xs,y.cells.length=es),.list len (kH&&hi.isNone) ((xs.drop l.toNat).take (h.toNat - l.toNat))⟩
  |_,_,_=>none
 | .ref L b n=>match cE P t,lk ob L,bd lo 0,bd hi n with
  |some (_,es,_),some x,some l,some h=>some ⟨decide (x.es=es/\0<=l/\l<=h/\h<=n),.ref L (b+l.toNat) (h.toNat - l.toNat)⟩
  |_,_,_,_=>none
 | .rc L b n c=>match cE P t,lk ob L,bd lo 0,bd hi n with
  |some (_,es,_),some x,some l,some h=>some ⟨decide (x.es=es/\0<=l/\l<=h/\b+h<=c),.rc L (b+l.toNat) (h.toNat - l.toNat) c⟩
  |_,_,_,_=>none
 | .ptr L i o=>match jX P t,bd lo 0 with
  |some (n,_,es),some l=>match bd hi n with
   |some h=>some ⟨decide (0<=l/\l<=h/\h<=n),.aref L i (o+l.toNat*es) es (h.toNat - l.toNat)⟩
   |none=>none
  |_,_=>none
 |_=>none
theorem T8 {P:Program} {t e:TypeId} {n m:Nat} (h:cE P t=some (e,n,m)) {q:Value} {vl vh:Option Value} (w:World):
 (Instr.sliceAt t q vl vh none).run P w=(Instr.slice t q vl vh none).run P w:=by
 obtain⟨hu,_⟩:=gV h w
 simp[Instr.sliceAt,hu]
theorem aP8 {P:Program} {F} {μ:Pl} {ob:aF} {t:TypeId} {x:AV} {v:Value} {lo hi:Option AV} {vl vh:Option Value} {r:Sv} (h:jJ P t x lo hi ob=some r) (hn:r.need) (hx:RV F (aE ob μ) x v)
 (hl:RO F (aE ob μ) lo vl) (hh:RO F (aE ob μ) hi vh) (w:World): ∃z,(Instr.sliceAt t v vl vh none).run P w= .ok z w/\RV F (aE ob μ) r.val z:=by
 unfold jJ at h
 split at h
 ·rename_i len xs i k
  unfold H2 at h
  split at h
  ·rename_i n e es y ht hy
   obtain rfl:=Option.some.inj h
   obtain⟨c1,c2,c3⟩:=of_decide_eq_true hn
   obtain⟨hu,hs⟩:=H0 ht w
   cases hl
   cases hh
   have hb:=tN (P:=P) (F:=F) (loc:=aE ob μ) (isS:=false) (len:=n) (cap:=n) (l:=0) (h:=n) (lo:=none) (hi:=none) .none .none rfl rfl (by omega) (by omega) (by omega) w
   cases hx with
   | @iptr _ _ _ _ b o es' _ _ f g1 g2 g3 g4 g5=>
    refine⟨.slice (some ⟨b,o+i*es'+k,none⟩) n n,?_,?_⟩
    ·simp at hb
     simp[Instr.sliceAt,Instr.sureAddr,hu,hs,hb,nH]
    ·have hcell: ∀(j:Nat) (x:AV) (q:Nat) (a:AV),(rU y.cells k es n)[j]?=some x->x.cells[q]?=some a->j<n/\q<es/\y.cells[k+j*es+q]?=some a:=fun j x q a hj hq=>by
      simp only[rU,List.getElem?_map,Option.map_eq_some_iff]at hj
      obtain⟨j',hj',rfl⟩:=hj
      obtain⟨hjn,hjj⟩:=List.getElem?_eq_some_iff.1 hj'
      rw[List.getElem_range]at hjj
      rw[List.length_range]at hjn
      subst hjj
      simp only[AV.cells,List.getElem?_take,List.getElem?_drop]at hq
      split at hq
      ·rename_i hqe;exact⟨hjn,hqe,hq⟩
      ·cases hq
     have hlen:(rU y.cells k es n).length=n:=by simp[rU]
     have key:= @RV.list F (aE ob μ) len true (rU y.cells k es n) b (o+i*es'+k) (o+i*es'+k) n es (fun j q=>f i (k+j*es+q)) (fun x hx=>?_) (by omega) (by omega) (fun _=>hlen.symm) (fun _=>rfl) (fun j x q a hj hq=>?_) (fun j x q a hj hq=>?_) (fun j x q a hj hq=>?_)
     ·rw[hlen]at key;exact key
     ·simp only[rU,List.mem_map,List.mem_range]at hx
      obtain⟨j,hj,rfl⟩:=hx
      have h6:(j+1)*es<=n*es:=Nat.mul_le_mul_right _ hj
      rw[Nat.succ_mul]at h6
      show((y.cells.drop (k+j*es)).take es).length=es
      rw[List.length_take,List.length_drop]
      generalize j*es=u at*
      omega
     ·obtain⟨q1,q2,q3⟩:=hcell j x q a hj hq
      have:=g3 i y _ a hy q3
      rw[<-this];congr 1;omega
     ·obtain⟨q1,q2,q3⟩:=hcell j x q a hj hq
      exact g4 i y _ a hy q3
     ·obtain⟨q1,q2,q3⟩:=hcell j x q a hj hq
      exact g5 i y _ a hy q3
  ·cases h
 ·rename_i s
  cases hx
  split at h
  ·rename_i ht
   split at h
   ·rename_i l hq el eh
    obtain rfl:=Option.some.inj h
    obtain⟨h0,h1,h2⟩:=of_decide_eq_true hn
    unfold mB at ht
    split at ht
    ·rename_i hu
     have hb:=tN (P:=P) (isS:=false) hl hh el eh h0 h1 (by exact_mod_cast h2) w
     refine⟨.string (s.extract l.toNat hq.toNat),?_,.sc rfl⟩
     simp[Instr.sliceAt,Instr.slice,jW hu,hb]
    ·cases ht
   ·cases h
  ·cases h
 ·rename_i lent kH xs
  split at h
  ·rename_i e es m l hq ht el eh
   obtain rfl:=Option.some.inj h
   obtain⟨h0,h1,h2,h3⟩:=of_decide_eq_true hn
   obtain⟨hu,hs,_⟩:=gV ht w
   have hmin:min (hq.toNat - l.toNat) (xs.length - l.toNat)=hq.toNat - l.toNat:=by omega
   rw[T8 ht]
   cases hx with
   | @nil _ _ _ _ base=>
    have h2':hq<=0:=by simpa using h2
    obtain rfl:l=0:=by omega
    obtain rfl:hq=0:=by omega
    have hb:=tN (P:=P) (isS:=true) (cap:=0) hl hh el eh (by omega) (by omega) (by omega) w
    refine⟨.slice base 0 0,?_,?_⟩
    ·simp at hb
     simp[Instr.slice,hu,hs,hb]
    ·simp;exact .nil
   | @list _ _ _ _ _ b o o' cap es' f g1 g2 g3 g4 g5 g6 g7 g8=>
    have hb:=tN (P:=P) (isS:=true) (cap:=cap) hl hh el eh h0 h1 (by omega) w
    have hlen:((xs.drop l.toNat).take (hq.toNat - l.toNat)).length=hq.toNat - l.toNat:=by simp[hmin]
    have hmem: ∀(i:Nat) (y:AV),((xs.drop l.toNat).take (hq.toNat - l.toNat))[i]?=some y->xs[l.toNat+i]?=some y:=fun i y hy=>by
     rw[List.getElem?_take]at hy
     split at hy
     ·rwa [List.getElem?_drop]at hy
     ·cases hy
    refine⟨.slice (if cap=l.toNat then some ⟨b,o',none⟩else some ⟨b,o'+l.toNat*es,none⟩) (hq.toNat - l.toNat) (cap - l.toNat),?_,?_⟩
    ·simp[Instr.slice,hu,hs,hb,nH]
    ·rw[<-apply_ite some,<-apply_ite (fun q=>(⟨b,q,none⟩:Addr))]
     have key:= @RV.list F (aE ob μ) lent (kH&&hi.isNone) ((xs.drop l.toNat).take (hq.toNat - l.toNat)) b (o+l.toNat*es) (if cap=l.toNat then o' else o'+l.toNat*es) (cap - l.toNat) es (fun i j=>f (l.toNat+i) j)
      (fun y hy=>h3 y (List.mem_of_mem_drop (List.mem_of_mem_take hy))) (by rw[hlen];omega) (by rw[hlen];unfold dD at*;omega)
      (fun hf=>by
       simp at hf
       obtain⟨hf1,hf2⟩:=hf
       subst hf2
       simp[bd]at eh
       rw[hlen,g4 hf1,<-eh];simp)
      (fun hne=>by
       have:0<hq.toNat - l.toNat:=by
        rcases Nat.eq_zero_or_pos (hq.toNat - l.toNat)with e|e
        ·rw[e]at hne;simp at hne
        ·exact e
       have hc: ¬cap=l.toNat:=by omega
       rw[if_neg hc,g5 (by intro e;subst e;simp at h2;omega)])
      (fun i y j a hy ha=>by
       have hx:=hmem i y hy
       have hes:es'=es:=(g1 y (List.mem_of_getElem? hx)).symm.trans (h3 y (List.mem_of_getElem? hx))
       have:=g6 _ y j a hx ha
       rw[<-this]
       congr 1
       rw[hes,Nat.add_mul];omega)
      (fun i y j a hy ha=>g7 _ y j a (hmem i y hy) ha) (fun i y j a hy ha=>g8 _ y j a (hmem i y hy) ha)
     rw[hlen]at key
     exact key
  ·cases h
 ·rename_i L b n
  split at h
  ·rename_i e es m x' l hq ht hg el eh
   obtain rfl:=Option.some.inj h
   obtain⟨hes,h0,h1,h2⟩:=of_decide_eq_true hn
   obtain⟨hu,hs,_⟩:=gV ht w
   rw[T8 ht]
   have hloc:aE ob μ L=some (bV x' (μ L)):=by simp[aE,hg]
   cases hx with
   | @refNil _ _ _ es0 len0 base g=>
    have h2':hq<=0:=by simpa using h2
    obtain rfl:l=0:=by omega
    obtain rfl:hq=0:=by omega
    have hb:=tN (P:=P) (isS:=true) (cap:=0) hl hh el eh (by omega) (by omega) (by omega) w
    refine⟨.slice base 0 0,?_,.refNil g⟩
    ·simp at hb
     simp[Instr.slice,hu,hs,hb]
   | @ref _ _ _ _ _ blk cap es' len o c g1 g2 g3 g4 g5=>
    have hb:=tN (P:=P) (isS:=true) (cap:=c) hl hh el eh h0 h1 (by omega) w
    rw[hloc]at g1
    obtain⟨hm,rfl,rfl,hk1⟩:=fB (Option.some.inj g1)
    refine⟨.slice (some ⟨blk,if c=l.toNat then o else o+l.toNat*es,none⟩) (hq.toNat - l.toNat) (c - l.toNat),?_,?_⟩
    ·simp[Instr.slice,hu,hs,hb,nH]
     by_cases hc:c=l.toNat<;>simp[hc]
    ·refine .ref (hloc.trans (by rw[lE hk1,hm])) (by omega) (by omega) (fun hne=>?_) (fun hlo=>?_)
     ·by_cases hc:c=l.toNat
      ·rw[if_pos hc]
       have hl0:b+l.toNat=0:=by omega
       have:=g4 (.inr (by omega))
       rw[this,hl0,show b=0 from by omega]
      ·rw[if_neg hc]
       have:n≠0\/b=0:=by omega
       rw[g4 this,<-hes,Nat.add_mul]
     ·have:=g5 (by omega);omega
  ·cases h
 ·rename_i L b n c
  split at h
  ·rename_i e es m x' l hq ht hg el eh
   obtain rfl:=Option.some.inj h
   obtain⟨hes,h0,h1,h2⟩:=of_decide_eq_true hn
   obtain⟨hu,hs,_⟩:=gV ht w
   rw[T8 ht]
   have hloc:aE ob μ L=some (bV x' (μ L)):=by simp[aE,hg]
   cases hx with
   | @rc _ _ _ _ _ blk cap es' len o g1 g2 g3=>
    have hb:=tN (P:=P) (isS:=true) (cap:=c - b) hl hh el eh h0 h1 (by omega) w
    rw[hloc]at g1
    obtain⟨hm,rfl,rfl,hk1⟩:=fB (Option.some.inj g1)
    refine⟨.slice (some ⟨blk,if c - b=l.toNat then o else o+l.toNat*es,none⟩) (hq.toNat - l.toNat) (c - b - l.toNat),?_,?_⟩
    ·simp[Instr.slice,hu,hs,hb,nH]
     by_cases hc:c - b=l.toNat<;>simp[hc]
    ·rw[Nat.sub_sub]
     refine .rc (hloc.trans (by rw[lE hk1,hm])) (by omega) (fun hne=>?_)
     by_cases hc:c - b=l.toNat
     ·rw[if_pos hc]
      rcases hne with hne|hne
      ·have:=g3 (.inl (by omega))
       rw[this]
       have hb0:b=0:=by omega
       have hl0:l.toNat=0:=by omega
       rw[hb0,hl0]
      ·omega
     ·rw[if_neg hc,g3 (by omega),<-hes,Nat.add_mul]
  ·cases h
 ·rename_i L i o
  split at h
  ·rename_i n e es l ht el
   split at h
   ·rename_i hq eh
    obtain rfl:=Option.some.inj h
    obtain⟨h0,h1,h2⟩:=of_decide_eq_true hn
    obtain⟨hu,hs⟩:=H0 ht w
    have hb:=tN (P:=P) (isS:=false) (cap:=n) hl hh el eh h0 h1 (by omega) w
    cases hx with
    | @ptr _ _ _ _ _ b cap es' len g1 g2=>
     refine⟨.slice (some ⟨b,if n=l.toNat then i*es'+o else i*es'+o+l.toNat*es,none⟩) (hq.toNat - l.toNat) (n - l.toNat),?_,?_⟩
     ·simp[Instr.sliceAt,Instr.sureAddr,hu,hs,hb,nH]
      by_cases hc:n=l.toNat<;>simp[hc]
     ·refine .aref g1 g2 (by omega) (fun hne=>?_)
      rw[if_neg (by omega)];omega
   ·cases h
  ·cases h
 ·cases h
end Go.Ab
namespace Go.Ab
open Go.RowKit
structure CV (F:Bool->aZ) (loc:Nat->Option LI) (cs:List AV) (vs:Array Value):Prop where
 len:cs.length=vs.size
 rv: ∀(i:Nat) (a:AV) (v:Value),cs[i]?=some a->vs[i]?=some v->RV F loc a v
 one: ∀(i:Nat) (v:Value),vs[i]?=some v->one v=true
def AV.plain:AV->Bool
 | .tup _=>false
 | .dead=>false
 | .own _ _=>false
 |_=>true
theorem RV.cv {F loc} {a:AV} {v:Value} (h:RV F loc a v) (hp:a.plain=true):CV F loc a.cells v.cells:=by
 cases h with
 |agg h1 h2 h3=>exact⟨h1,h2,h3⟩
 |tup=>simp[AV.plain]at hp
 |dead=>simp[AV.plain]at hp
 | @sc _ _ v hs=>
  have:v.cells= #[v]:=by cases v<;>simp_all [Value.cells,gD]
  rw[this]
  refine⟨rfl,fun i a u ha hu=>?_,fun i u hu=>?_⟩
  ·cases i with
   |zero=>simp[AV.cells]at ha hu;subst ha;subst hu;exact .sc hs
   |succ i=>simp[AV.cells]at ha
  ·cases i with
   |zero=>simp at hu;subst hu;exact G8 hs
   |succ i=>simp at hu
 | @mp _ _ L b cap es len _ h1 h2=>
  have hc:v.cells= #[v]/\one v=true:=by
   unfold aEk at h2
   split at h2
   ·obtain rfl:=Option.some.inj h2;exact⟨rfl,rfl⟩
   ·split at h2
    ·obtain rfl:=Option.some.inj h2;exact⟨rfl,rfl⟩
    ·cases h2
  refine⟨by rw[hc.1];rfl,fun i a u ha hu=>?_,fun i u hu=>?_⟩
  ·rw[hc.1]at hu
   cases i with
   |zero=>simp[AV.cells]at ha hu;subst ha;subst hu;exact .mp h1 h2
   |succ i=>simp[AV.cells]at ha
  ·rw[hc.1]at hu
   cases i with
   |zero=>simp at hu;subst hu;exact hc.2
   |succ i=>simp at hu
 |_=>
  rename_i hh
  first
  |(
   refine⟨rfl,fun i a u ha hu=>?_,fun i u hu=>?_⟩
   ·cases i with
    |zero=>simp[AV.cells,Value.cells]at ha hu;subst ha;subst hu;first|exact .nil|(constructor<;>assumption)|(exact .refNil (by assumption))
    |succ i=>simp[AV.cells]at ha
   ·cases i with
    |zero=>simp[Value.cells]at hu;subst hu;rfl
    |succ i=>simp[Value.cells]at hu)
def splice {α:Type} (cs ds:List α) (off:Nat):List α:=cs.take off++ds++cs.drop (off+ds.length)
theorem H3 {α:Type} {cs ds:List α} {off:Nat} (h:off+ds.length<=cs.length):(splice cs ds off).length=cs.length:=by
 simp[splice];omega
theorem xA {α:Type} {cs ds:List α} {off:Nat} (h:off+ds.length<=cs.length) (i:Nat):(splice cs ds off)[i]?=if off<=i/\i<off+ds.length then ds[i - off]? else cs[i]?:=by
 unfold splice
 have ht:(cs.take off).length=off:=by simp;omega
 by_cases h1:i<off
 ·rw[List.append_assoc,List.getElem?_append_left (by omega),if_neg (by omega),List.getElem?_take,if_pos h1]
 ·by_cases h2:i<off+ds.length
  ·rw[if_pos ⟨by omega,h2⟩,List.getElem?_append_left (by simp[ht];omega),List.getElem?_append_right (by omega),ht]
  ·rw[if_neg (by omega),List.getElem?_append_right (by simp[ht];omega),List.getElem?_drop]
   congr 1
   simp[ht];omega
theorem T9 (off:Nat): ∀(us:List Value) (k:Nat) (cs:Array Value) (i:Nat),off+k+us.length<=cs.size->
 ((us.zipIdx k).foldl (fun cs x=>cs.setIfInBounds (off+x.2) x.1) cs)[i]?=if off+k<=i/\i<off+k+us.length then us[i - (off+k)]? else cs[i]?
 | [],k,cs,i,_=>by simp;intro h;omega
 |u::us,k,cs,i,h=>by
  simp only[List.zipIdx_cons,List.foldl_cons]
  simp only[List.length_cons]at h
  rw[T9 off us (k+1) _ i (by simp;omega)]
  by_cases h1:i=off+k
  ·subst h1
   rw[if_neg (by omega),if_pos ⟨by omega,by simp⟩,Nat.sub_self,Array.getElem?_setIfInBounds,if_pos rfl,if_pos (by omega)]
   rfl
  ·by_cases h2:off+(k+1)<=i/\i<off+(k+1)+us.length
   ·rw[if_pos h2,if_pos ⟨by omega,by simp;omega⟩]
    obtain⟨d,hd⟩: ∃d,i - (off+k)=d+1:=⟨i - (off+k) - 1,by omega⟩
    rw[hd,List.getElem?_cons_succ]
    congr 1;omega
   ·rw[if_neg h2,if_neg (by simp;omega)]
    simp[Array.getElem?_setIfInBounds]
    intro he;omega
theorem U0 (off:Nat): ∀(l:List (Value×Nat)) (cs:Array Value),(l.foldl (fun cs x=>cs.setIfInBounds (off+x.2) x.1) cs).size=cs.size
 | [],_=>rfl
 |x::l,cs=>by rw[List.foldl_cons,U0 off l];simp
theorem CV.splice {F loc} {cs ds:List AV} {vs us:Array Value} (h:CV F loc cs vs) (k:CV F loc ds us) {off:Nat} (hle:off+ds.length<=cs.length):
 CV F loc (Ab.splice cs ds off) (us.zipIdx.foldl (fun cs x=>cs.setIfInBounds (off+x.2) x.1) vs):=by
 have hu:us.zipIdx.foldl (fun cs x=>cs.setIfInBounds (off+x.2) x.1) vs=((us.toList.zipIdx 0).foldl (fun cs x=>cs.setIfInBounds (off+x.2) x.1) vs):=by
  rw[<-Array.foldl_toList,Array.toList_zipIdx]
 have hg:=fun i=>T9 off us.toList 0 vs i (by have:=k.len;have:=h.len;simp;omega)
 rw[hu]
 have hsz:=U0 off (us.toList.zipIdx 0) vs
 refine⟨by rw[H3 hle,hsz,h.len],fun i a v ha hv=>?_,fun i v hv=>?_⟩
 ·rw[xA hle]at ha
  rw[hg]at hv
  simp only[Nat.add_zero,Array.length_toList,<-k.len]at hv
  split at ha
  ·rename_i hc
   rw[if_pos hc]at hv
   exact k.rv _ a v ha (by simpa using hv)
  ·rename_i hc
   rw[if_neg hc]at hv
   exact h.rv i a v ha hv
 ·rw[hg]at hv
  split at hv
  ·exact k.one _ v (by simpa using hv)
  ·exact h.one i v hv
def qL (place:Nat->Option (Nat×Nat)):List AV->List (Nat×AV)->Option (List AV)
 |cs,[]=>some cs
 |cs,(i,a)::r=>match place i with
  |some (off,size)=>if a.plain=true/\a.cells.length=size/\off+size<=cs.length then qL place (splice cs a.cells off) r else none
  |none=>none
theorem U1 {F loc} {place:Nat->Option (Nat×Nat)}: ∀{cs:List AV} {ps:List (Nat×AV)} {vs:Array Value} {qs:List (Nat×Value)} {r:List AV},qL place cs ps=some r->CV F loc cs vs->
 ps.length=qs.length->(∀(k:Nat) (p:Nat×AV) (q:Nat×Value),ps[k]?=some p->qs[k]?=some q->p.1=q.1/\RV F loc p.2 q.2)-> ∃us,Instr.fill place vs qs=some us/\CV F loc r us
 |cs,[],vs,qs,r,h,hc,hl,hq=>by
  simp[qL]at h;subst h
  cases qs with
  |nil=>exact⟨vs,rfl,hc⟩
  |cons q qs=>simp at hl
 |cs,(i,a)::ps,vs,qs,r,h,hc,hl,hq=>by
  cases qs with
  |nil=>simp at hl
  |cons q qs=>
   obtain⟨i',v⟩:=q
   obtain⟨he,hv⟩:=hq 0 (i,a) (i',v) rfl rfl
   simp only at he hv
   subst he
   simp only[qL]at h
   split at h
   ·rename_i off size hp
    split at h
    ·rename_i hcond
     obtain⟨h1,h2,h3⟩:=hcond
     have hcv:=hv.cv h1
     have hcs:=hc.splice hcv (off:=off) (by omega)
     obtain⟨us,g1,g2⟩:=U1 (qs:=qs) h hcs (by simpa using hl) (fun k p q hp hq'=>hq (k+1) p q (by simpa using hp) (by simpa using hq'))
     refine⟨us,?_,g2⟩
     simp only[Instr.fill,hp]
     have hsz:v.cells.size=size:=by rw[<-hcv.len];exact h2
     rw[if_neg (by simp[hsz];have:=hc.len;omega)]
     exact g1
    ·cases h
   ·cases h
def dY (P:Program) (t:TypeId):Option (List AV×List (Nat×Nat)):=
 match P.info? t,P.underlying t with
 |some it,some (.struct fields)=>match it.zero,fields.toList.mapM (fun f=>(P.info? f.type).map fun i=>(f.offset,i.size))with
  |some z,some pl=>(z.cells.toList.mapM qH).map fun cs=>(cs,pl)
  |_,_=>none
 |some it,some (.array n e)=>match it.zero,P.info? e with
  |some z,some ie=>(z.cells.toList.mapM qH).map fun cs=>(cs,(List.range n).map fun i=>(i*ie.size,ie.size))
  |_,_=>none
 |_,_=>none
theorem U2 {f g:Nat->Option (Nat×Nat)} (h: ∀i p,f i=some p->g i=some p): ∀(cs:Array Value) (l:List (Nat×Value)) (r:Array Value),Instr.fill f cs l=some r->Instr.fill g cs l=some r
 |_,[],_,e=>e
 |cs,(i,v)::l,r,e=>by
  simp only[Instr.fill]at e ⊢
  cases hf:f i with
  |none=>simp[hf]at e
  |some p=>
   rw[hf]at e
   rw[h i p hf]
   obtain⟨off,size⟩:=p
   simp only at e ⊢
   split at e
   ·cases e
   ·rename_i hc
    rw[if_neg hc]
    exact U2 h _ l r e
theorem aEy {F loc} {vs:List Value} {cs:List AV} (h:vs.mapM qH=some cs):CV F loc cs vs.toArray:=by
 obtain⟨h1,h2⟩:=rR h
 refine⟨by simpa using h1,fun i a v ha hv=>(yX (h2 i v a (by simpa using hv) ha)).1,fun i v hv=>?_⟩
 have hlt:i<cs.length:=by rw[h1];have:=(Array.getElem?_eq_some_iff.1 hv).1;simpa using this
 exact(yX (F:=F) (loc:=loc) (h2 i v cs[i] (by simpa using hv) (by simp[hlt]))).2
theorem aP9 {P:Program} {F loc} {t:TypeId} {z:List AV} {pl:List (Nat×Nat)} (h:dY P t=some (z,pl)) {ps:List (Nat×AV)} {qs:List (Nat×Value)} {r:List AV} (hf:qL (pl[·]?) z ps=some r)
 (hl:ps.length=qs.length) (hq: ∀(k:Nat) (p:Nat×AV) (q:Nat×Value),ps[k]?=some p->qs[k]?=some q->p.1=q.1/\RV F loc p.2 q.2): ∃us,P.built t qs=some us/\CV F loc r us:=by
 unfold dY at h
 split at h
 ·rename_i it fields hi hu
  split at h
  ·rename_i zv pl' hz hp
   cases hm:zv.cells.toList.mapM qH with
   |none=>simp[hm]at h
   |some cs=>
    simp[hm]at h
    obtain⟨rfl,rfl⟩:=h
    have hc:=aEy (F:=F) (loc:=loc) hm
    rw[Array.toArray_toList]at hc
    obtain⟨us,g1,g2⟩:=U1 hf hc hl hq
    refine⟨us,?_,g2⟩
    simp only[Program.built,hi,hu,hz,hp]
    exact U2 (fun i p hp=>by simpa using hp) _ _ _ g1
  ·cases h
 ·rename_i it n e hi hu
  split at h
  ·rename_i zv ie hz hp
   cases hm:zv.cells.toList.mapM qH with
   |none=>simp[hm]at h
   |some cs=>
    simp[hm]at h
    obtain⟨rfl,rfl⟩:=h
    have hc:=aEy (F:=F) (loc:=loc) hm
    rw[Array.toArray_toList]at hc
    obtain⟨us,g1,g2⟩:=U1 hf hc hl hq
    refine⟨us,?_,g2⟩
    simp only[Program.built,hi,hu,hz,hp]
    exact U2 (fun i p hp=>by obtain⟨_,rfl⟩:=oH hp;rfl) _ _ _ g1
  ·cases h
 ·cases h
def oI (ρ:Operand->Option AV) (parts:List (Nat×Operand)):Option (List (Nat×AV)):=parts.mapM fun p=>(ρ p.2).map fun a=>(p.1,a)
def zA (P:Program) (t:TypeId) (ps:Option (List (Nat×AV))):Option Sv:=
 match dY P t,ps with
 |some (z,pl),some ps=>(qL (pl[·]?) z ps).map fun cs=>⟨true,.agg cs⟩
 |_,_=>none
theorem aQa {P:Program} {F loc} {t:TypeId} {ρ:Operand->Option AV} {ρv:Operand->Value} (hρ: ∀x a,ρ x=some a->RV F loc a (ρv x)) {parts:Array (Nat×Operand)} {r:Sv}
 (h:zA P t (oI ρ parts.toList)=some r) (w:World): ∃z,(Instr.build t (parts.map fun(i,x)=>(i,ρv x))).run P w= .ok z w/\RV F loc r.val z:=by
 unfold zA at h
 split at h
 ·rename_i z pl ps ht hp
  cases hf:qL (pl[·]?) z ps with
  |none=>simp[hf]at h
  |some cs=>
   simp[hf]at h
   subst h
   obtain⟨m1,m2⟩:=rR hp
   obtain⟨us,g1,g2⟩:=aP9 (P:=P) (F:=F) (loc:=loc) ht (qs:=(parts.map fun(i,x)=>(i,ρv x)).toList) hf (by simp[m1]) (fun k p q hk hq=>by
    simp only[Array.toList_map,List.getElem?_map]at hq
    cases hpk:parts.toList[k]? with
    |none=>simp[hpk]at hq
    |some y=>
     simp[hpk]at hq
     subst hq
     have:=m2 k y p hpk hk
     cases hy:ρ y.2 with
     |none=>simp[hy]at this
     |some a=>
      simp[hy]at this
      subst this
      exact⟨rfl,hρ _ _ hy⟩)
   exact⟨.agg us,run_build w t _ us g1,.agg g2.len g2.rv g2.one⟩
 ·cases h
def zB (op:UnOp) (x:AV):Option Sv:=
 match op,x with
 | .not,.sc (.bool b)=>some ⟨true,bl (!b)⟩
 | .neg,.sc (.int k n)=>some ⟨true,nt k (k.wrap (-n))⟩
 |_,_=>none
theorem aQb {P:Program} {F loc} {op:UnOp} {x:AV} {v:Value} {r:Sv} (h:zB op x=some r) (hx:RV F loc x v) (w:World): ∃z,(Op.unary op v).run P w= .ok z w/\RV F loc r.val z:=by
 unfold zB at h
 split at h
 ·obtain rfl:=Option.some.inj h;cases hx
  rename_i b _
  exact⟨.bool (!b),by simp[Op.unary],.sc rfl⟩
 ·obtain rfl:=Option.some.inj h;cases hx
  rename_i k n _
  exact⟨.int k (k.wrap (-n)),by simp[Op.unary,Op.intArith],.sc rfl⟩
 ·cases h
def tO (P:Program) (d:TypeId) (x:AV):Option Sv:=
 match x with
 | .sc (.int _ n)=>match mA P d with
  |some k=>some ⟨true,nt k (k.wrap n)⟩
  |none=>none
 |_=>none
theorem aEz {P:Program} {F loc} {s d:TypeId} {x:AV} {v:Value} {r:Sv} (h:tO P d x=some r) (hs:(P.underlying s).isSome=true) (hx:RV F loc x v) (w:World): ∃z,(convert s d v).run P w= .ok z w/\RV F loc r.val z:=by
 unfold tO at h
 split at h
 ·rename_i k n
  cases hx
  split at h
  ·rename_i k' hk
   obtain rfl:=Option.some.inj h
   unfold mA at hk
   split at hk
   ·rename_i k'' hu
    obtain rfl:=Option.some.inj hk
    obtain⟨ds,hds⟩:=Option.isSome_iff_exists.1 hs
    refine⟨.int k'' (k''.wrap n),?_,.sc rfl⟩
    simp only[convert,Sem.run_bind,jW hds,jW hu,Result.andThen_ok]
    rfl
   ·cases hk
  ·cases h
 ·cases h
end Go.Ab
namespace Go.Ab
open Go.RowKit
def rV (x:Option Value):Value:=x.getD .nilIface
def pL:Op->Bool
 | .select _ _=>false
 |_=>true
def iE (P:Program) (o:Oper) (ρ:Operand->Option AV):Option Sv:=
 if pL o.op=true/\(∀x∈o.op.operands,((ρ x).bind fJ).isSome=true)then
  match tM P (execOp (fun x=>rV ((ρ x).bind fJ)) o)with
  |some (.value v)=>(iZ v).map fun a=>⟨true,a⟩
  |_=>none
 else none
theorem tP {P:Program} {F loc} {o:Oper} {ρ:Operand->Option AV} {ρv:Operand->Value} (hρ: ∀x a,ρ x=some a->RV F loc a (ρv x)) {r:Sv} (h:iE P o ρ=some r) (w:World):
 ∃z,(execOp ρv o).run P w= .ok (.value z) w/\RV F loc r.val z:=by
 unfold iE at h
 split at h
 ·rename_i hc
  obtain⟨hs,ha⟩:=hc
  split at h
  ·rename_i v hv
   cases hcst:iZ v with
   |none=>simp[hcst]at h
   |some a=>
    simp[hcst]at h
    subst h
    have he:execOp ρv o=execOp (fun x=>rV ((ρ x).bind fJ)) o:=execOp_congr o (fun cs b he=>by simp[he,pL]at hs) (fun x hx=>by
     have:=ha x hx
     cases hr:ρ x with
     |none=>simp[hr]at this
     |some a=>
      cases ht:fJ a with
      |none=>simp[hr,ht]at this
      |some u=>simp[rV,ht];exact(vB (hρ x a hr) ht).symm)
    exact⟨v,by rw[he];exact G9 hv w,rS hcst⟩
  ·cases h
 ·cases h
def nI (ρ:Operand->Option AV) (xs:List Operand):Option (List AV):=xs.mapM ρ
def gW (P:Program):Nat->TypeId->List Value->List Value->Option Bool
 |0,_,_,_=>none
 |d+1,t,xs,ys=>match P.underlying t with
  |some .bool=>match xs,ys with
   | [.bool a],[.bool b]=>some (a==b)
   |_,_=>none
  |some (.int _)=>match xs,ys with
   | [.int k a],[.int k' b]=>if k=k' then some (a==b)else none
   |_,_=>none
  |some .string=>match xs,ys with
   | [.string a],[.string b]=>some (a==b)
   |_,_=>none
  |some (.struct fs)=>if xs.length=P.cellsOf t/\ys.length=P.cellsOf t/\P.stoodInHeld t=false then eqFs (fun t xs ys=>gW P d t xs ys) P.cellsOf xs ys fs.toList else none
  |_=>none
where eqFs (e:TypeId->List Value->List Value->Option Bool) (sz:TypeId->Nat) (xs ys:List Value):List Field->Option Bool
 | []=>some true
 |f::r=>if f.name= "_" then none else match e f.type ((xs.drop f.offset).take (sz f.type)) ((ys.drop f.offset).take (sz f.type)),eqFs e sz xs ys r with
  |some a,some b=>some (a&&b)
  |_,_=>none
theorem aQc {P:Program} {d:Nat} {t:TypeId} {xs ys:List Value} {q:Bool} (h:gW P d t xs ys=some q):
 (P.plainKey t=true/\ ∃a b,xs= [a]/\ys= [b]/\a.cells= #[a]/\b.cells= #[b]/\(∀cs,a≠ .agg cs)/\ ∀cs,b≠ .agg cs)\/(∃fs,P.underlying t=some (.struct fs)/\xs.length=P.cellsOf t/\ys.length=P.cellsOf t):=by
 cases d with
 |zero=>simp[gW]at h
 |succ d=>
  unfold gW at h
  split at h
  ·rename_i hu
   split at h
   ·exact .inl ⟨by simp[Program.plainKey,hu],_,_,rfl,rfl,rfl,rfl,by simp,by simp⟩
   ·cases h
  ·rename_i hu
   split at h
   ·exact .inl ⟨by simp[Program.plainKey,hu],_,_,rfl,rfl,rfl,rfl,by simp,by simp⟩
   ·cases h
  ·rename_i hu
   split at h
   ·exact .inl ⟨by simp[Program.plainKey,hu],_,_,rfl,rfl,rfl,rfl,by simp,by simp⟩
   ·cases h
  ·rename_i fs hu
   split at h
   ·rename_i hc;exact .inr ⟨fs,hu,hc.1,hc.2.1⟩
   ·cases h
  ·cases h
theorem aE0 {P:Program} {w:World} {e:TypeId} {fs:Array Field} (hu:P.underlying e=some (.struct fs)) {off:Nat} {xs:Array Value}:
 (part e xs off).run P w= .ok (.agg (xs.extract off (off+P.cellsOf e))) w/\(xs.extract off (off+P.cellsOf e)).toList=(xs.toList.drop off).take (P.cellsOf e):=by
 obtain⟨i,hi⟩:=info_of_underlying hu
 refine⟨by simp[part,isAgg,run_underlying hu,run_sizeOf w hi],?_⟩
 rw[Array.toList_extract]
 simp[List.extract]
def aE1 (P:Program) (dd d:Nat):Prop:= ∀(t:TypeId) (w:World) (x y:Value) (q:Bool),gW P d t x.cells.toList y.cells.toList=some q->
 ((∃cs,x= .agg cs)↔ ∃fs,P.underlying t=some (.struct fs))->((∃cs,y= .agg cs)↔ ∃fs,P.underlying t=some (.struct fs))->(Op.equalIn dd t x y).run P w= .ok q w
theorem aE2 {P:Program} {dd d:Nat} (IH:aE1 P dd d) (xs ys:Array Value) (w:World): ∀(fs:List Field) (q:Bool),gW.eqFs (fun t xs ys=>gW P d t xs ys) P.cellsOf xs.toList ys.toList fs=some q->(Op.eqFields dd xs ys fs).run P w= .ok q w
 | [],q,h=>by simp[gW.eqFs]at h;subst h;simp[Op.eqFields]
 |f::fs,q,h=>by
  unfold gW.eqFs at h
  split at h
  ·cases h
  ·rename_i hn
   split at h
   ·rename_i a b ha hb
    obtain rfl:=Option.some.inj h
    have hstep: ∃u v,(part f.type xs f.offset).run P w= .ok u w/\(part f.type ys f.offset).run P w= .ok v w/\(Op.equalIn dd f.type u v).run P w= .ok a w:=by
     rcases aQc ha with⟨hp,u,v,hu,hv,cu,cv,nu,nv⟩|⟨fs',hu,hl1,hl2⟩
     ·refine⟨u,v,run_part_plain w hp (getElem?_of_chunk hu),run_part_plain w hp (getElem?_of_chunk hv),?_⟩
      have hna: ¬ ∃fs,P.underlying f.type=some (.struct fs):=by rintro⟨fs,e⟩;simp[Program.plainKey,e]at hp
      rw[hu,hv]at ha
      exact IH f.type w u v a (by rw[cu,cv];exact ha) ⟨fun⟨cs,e⟩=>(nu cs e).elim,fun h=>(hna h).elim⟩ ⟨fun⟨cs,e⟩=>(nv cs e).elim,fun h=>(hna h).elim⟩
     ·obtain⟨p1,c1⟩:=aE0 (w:=w) hu (off:=f.offset) (xs:=xs)
      obtain⟨p2,c2⟩:=aE0 (w:=w) hu (off:=f.offset) (xs:=ys)
      exact⟨_,_,p1,p2,IH f.type w _ _ a (by simp only[Value.cells];rw[c1,c2];exact ha) ⟨fun _=>⟨_,hu⟩,fun _=>⟨_,rfl⟩⟩ ⟨fun _=>⟨_,hu⟩,fun _=>⟨_,rfl⟩⟩⟩
    obtain⟨u,v,p1,p2,p3⟩:=hstep
    have hr:=aE2 IH xs ys w fs b hb
    simp only[Op.eqFields,hn,ne_eq,not_false_eq_true,if_true,Sem.run_bind,p1,p2,p3,Result.andThen_ok]
    cases a
    ·simp
    ·simpa using hr
   ·cases h
theorem U3 {P:Program} (dd:Nat): ∀d,aE1 P (dd+d) d
 |0=>fun t w x y q h=>by simp[gW]at h
 |d+1=>fun t w x y q h hx hy=>by
  have h0:=h
  unfold gW at h
  split at h
  ·rename_i hu
   split at h
   ·rename_i a b ea eb
    obtain rfl:=Option.some.inj h
    have hxa:x= .bool a:=by
     cases x<;>simp_all [Value.cells]
    have hyb:y= .bool b:=by
     cases y<;>simp_all [Value.cells]
    subst hxa;subst hyb
    show(Op.equalIn (dd+d+1) t _ _).run P w=_
    simp[Op.equalIn,run_underlying hu]
   ·cases h
  ·rename_i q' hu
   split at h
   ·rename_i k a k' b ea eb
    split at h
    ·rename_i hk
     subst hk
     obtain rfl:=Option.some.inj h
     have hxa:x= .int k a:=by
      cases x<;>simp_all [Value.cells]
     have hyb:y= .int k b:=by
      cases y<;>simp_all [Value.cells]
     subst hxa;subst hyb
     show(Op.equalIn (dd+d+1) t _ _).run P w=_
     simp[Op.equalIn,run_underlying hu]
    ·cases h
   ·cases h
  ·rename_i hu
   split at h
   ·rename_i a b ea eb
    obtain rfl:=Option.some.inj h
    have hxa:x= .string a:=by
     cases x<;>simp_all [Value.cells]
    have hyb:y= .string b:=by
     cases y<;>simp_all [Value.cells]
    subst hxa;subst hyb
    show(Op.equalIn (dd+d+1) t _ _).run P w=_
    simp[Op.equalIn,run_underlying hu]
   ·cases h
  ·rename_i fs hu
   split at h
   ·rename_i hc
    obtain⟨xs,rfl⟩:=hx.2 ⟨fs,hu⟩
    obtain⟨ys,rfl⟩:=hy.2 ⟨fs,hu⟩
    have hfs:P.fieldsOf t=fs:=by simp[Program.fieldsOf,hu]
    show(Op.equalIn (dd+d+1) t _ _).run P w=_
    rw[run_equalIn_struct w (dd+d) t xs ys (by rw[hfs];exact hu) hc.2.2,hfs]
    exact aE2 (U3 dd d) xs ys w fs.toList q h
   ·cases h
  ·cases h
def bQ (P:Program) (op:BinOp) (t:TypeId) (a b:AV):Option Sv:=
 match fJ a,fJ b with
 |some (.agg u),some (.agg v)=>if P.eqGuardType P.depth t=false then
  match gW P 100 t u.toList v.toList with
  |some q=>match P.underlying t with
   |some (.struct _)=>match op with
    | .eql=>some ⟨true,bl q⟩
    | .neq=>some ⟨true,bl (!q)⟩
    |_=>none
   |_=>none
  |none=>none
  else none
 |_,_=>none
theorem aE3 {P:Program} {F loc} {op:BinOp} {t:TypeId} {a b:AV} {x y:Operand} {u v:Value} {r:Sv} (h:bQ P op t a b=some r) (ha:RV F loc a u) (hb:RV F loc b v):
 ∃z,r.val= .sc z/\gD z=true/\ ∀w,(do eqGuard op t x y u v;binOp op t u v:Sem Value).run P w= .ok z w:=by
 unfold bQ at h
 split at h
 ·rename_i u' v' hu hv
  obtain rfl:=vB ha hu
  obtain rfl:=vB hb hv
  split at h
  ·rename_i hc
   split at h
   ·rename_i q hq
    split at h
    ·rename_i fs hfs
     have heq: ∀w,(Op.equal t (.agg u') (.agg v')).run P w= .ok q w:=fun w=>
      U3 9900 100 t w (.agg u') (.agg v') q hq ⟨fun _=>⟨_,hfs⟩,fun _=>⟨_,rfl⟩⟩ ⟨fun _=>⟨_,hfs⟩,fun _=>⟨_,rfl⟩⟩
     have hg: ∀w,(eqGuard op t x y (.agg u') (.agg v')).run P w= .ok () w:=fun w=>by
      unfold eqGuard
      cases op<;>simp[hc]
     split at h
     ·obtain rfl:=Option.some.inj h
      exact⟨_,rfl,rfl,fun w=>by simp[hg,binOp,heq]⟩
     ·obtain rfl:=Option.some.inj h
      exact⟨_,rfl,rfl,fun w=>by simp[hg,binOp,heq]⟩
     ·cases h
    ·cases h
   ·cases h
  ·cases h
 ·cases h
def tQ:Operand->Nat
 | .const (.slice none 0 0)=>1
 | .const (.pointer none)=>2
 | .const .nilFunc=>3
 |_=>0
def aP (P:Program) (t:TypeId):Nat:=match P.underlying t with
 |some (.slice _)=>1
 |some (.pointer _)=>2
 |some (.func _ _ _)=>3
 |_=>0
def gL:AV->Nat
 | .list _ _ (_::_)=>1
 | .ref _ _ (_+1)=>1
 | .aref _ _ _ _ (_+1)=>1
 | .ptr _ _ _=>2
 | .iptr _ _ _ _=>2
 | .clo _ _=>3
 |_=>0
def qM (P:Program) (op:BinOp) (t:TypeId) (a:AV) (y:Operand):Option Sv:=
 if tQ y≠0/\aP P t=tQ y/\gL a=tQ y then match op with
  | .eql=>some ⟨true,bl false⟩
  | .neq=>some ⟨true,bl true⟩
  |_=>none
 else none
theorem aQd {F loc} {a:AV} {u:Value} (ha:RV F loc a u):(gL a=1-> ∃p n c,u= .slice (some p) n c)/\(gL a=2-> ∃p,u= .pointer (some p))/\(gL a=3-> ∃f x y,u= .func f x y):=by
 cases ha with
 |list=>exact⟨fun _=>⟨_,_,_,rfl⟩,fun h=>by(rename_i xs _ _ _ _ _ _ _ _ _ _ _ _ _ _;cases xs<;>simp[gL]at h),fun h=>by(rename_i xs _ _ _ _ _ _ _ _ _ _ _ _ _ _;cases xs<;>simp[gL]at h)⟩
 |refNil=>exact⟨fun h=>by simp[gL]at h,fun h=>by simp[gL]at h,fun h=>by simp[gL]at h⟩
 | @ref _ _ _ _ n=>exact⟨fun _=>⟨_,_,_,rfl⟩,fun h=>by cases n<;>simp[gL]at h,fun h=>by cases n<;>simp[gL]at h⟩
 | @aref _ _ _ _ _ _ _ _ _ _ n=>exact⟨fun _=>⟨_,_,_,rfl⟩,fun h=>by cases n<;>simp[gL]at h,fun h=>by cases n<;>simp[gL]at h⟩
 |ptr=>exact⟨fun h=>by simp[gL]at h,fun _=>⟨_,rfl⟩,fun h=>by simp[gL]at h⟩
 |iptr=>exact⟨fun h=>by simp[gL]at h,fun _=>⟨_,rfl⟩,fun h=>by simp[gL]at h⟩
 |clo=>exact⟨fun h=>by simp[gL]at h,fun h=>by simp[gL]at h,fun _=>⟨_,_,_,rfl⟩⟩
 |_=>exact⟨fun h=>by simp[gL]at h,fun h=>by simp[gL]at h,fun h=>by simp[gL]at h⟩
theorem U4 {P:Program} {t:TypeId} {e} (hu:P.underlying t=some (.slice e)) (p n c) (w:World) (d:Nat):(Op.equalIn (d+1) t (.slice (some p) n c) (.slice none 0 0)).run P w= .ok false w:=by
 simp only[Op.equalIn,Sem.run_bind,jW hu,Result.andThen_ok]
 rfl
theorem aQe {P:Program} {t:TypeId} {e} (hu:P.underlying t=some (.pointer e)) (p) (w:World) (d:Nat):(Op.equalIn (d+1) t (.pointer (some p)) (.pointer none)).run P w= .ok false w:=by
 simp only[Op.equalIn,Sem.run_bind,jW hu,Result.andThen_ok]
 rfl
theorem aQf {P:Program} {t:TypeId} {e1 e2 e3} (hu:P.underlying t=some (.func e1 e2 e3)) (f x y) (w:World) (d:Nat):(Op.equalIn (d+1) t (.func f x y) .nilFunc).run P w= .ok false w:=by
 simp only[Op.equalIn,Sem.run_bind,jW hu,Result.andThen_ok]
 rfl
theorem aE4 {P:Program} {F loc} {op:BinOp} {t:TypeId} {a:AV} {x y:Operand} {u v:Value} {r:Sv} (h:qM P op t a y=some r) (ha:RV F loc a u) (hc: ∀z,y= .const z->v=z) (w:World):
 ∃z,(do eqGuard op t x y u v;binOp op t u v:Sem Value).run P w= .ok z w/\RV F loc r.val z:=by
 unfold qM at h
 split at h
 ·rename_i hk
  obtain⟨h0,h1,h2⟩:=hk
  obtain⟨n1,n2,n3⟩:=aQd ha
  have key:(Op.equal t u v).run P w= .ok false w/\(eqGuard op t x y u v).run P w= .ok () w/\binOp .eql t u v=(do pure (.bool (<-Op.equal t u v)))/\binOp .neq t u v=(do pure (.bool (!(<-Op.equal t u v)))):=by
   unfold tQ at h0 h1 h2
   split at h1
   ·obtain rfl:=hc _ rfl
    obtain⟨p,n,c,rfl⟩:=n1 h2
    unfold aP at h1
    split at h1<;>first|cases h1|skip
    rename_i e hu
    refine⟨?_,by unfold eqGuard;cases op<;>rfl,rfl,rfl⟩
    exact U4 hu p n c w 9999
   ·obtain rfl:=hc _ rfl
    obtain⟨p,rfl⟩:=n2 h2
    unfold aP at h1
    split at h1<;>first|cases h1|skip
    rename_i e hu
    refine⟨?_,by unfold eqGuard;cases op<;>rfl,rfl,rfl⟩
    exact aQe hu p w 9999
   ·obtain rfl:=hc _ rfl
    obtain⟨f,q1,q2,rfl⟩:=n3 h2
    unfold aP at h1
    split at h1<;>first|cases h1|skip
    rename_i e1 e2 e3 hu
    refine⟨?_,by unfold eqGuard;cases op<;>rfl,rfl,rfl⟩
    exact aQf hu f q1 q2 w 9999
   ·rename_i hn
    exact(h0 (by split<;>first|rfl|(exfalso;simp_all))).elim
  obtain⟨k1,k2,k3,k4⟩:=key
  split at h
  ·obtain rfl:=Option.some.inj h
   exact⟨.bool false,by simp[k2,k3,k1],.sc rfl⟩
  ·obtain rfl:=Option.some.inj h
   exact⟨.bool true,by simp[k2,k4,k1],.sc rfl⟩
  ·cases h
 ·cases h
def U5 (L lo n:Nat) (ob:aF):Option Sv:=match lk ob L with
 |some x=>if x.arr=true/\lo=0 then some ⟨decide (n≠0),.ptr L 0 0⟩else none
 |none=>none
theorem aQg {P:Program} {F:Bool->aZ} {μ:Pl} {ob:aF} {L lo n:Nat} {r:Sv} (h:U5 L lo n ob=some r) (hn:r.need) {v:Value} (hv:RV F (aE ob μ) (.ref L lo n) v) (ts:Array TypeId) (ty:TypeId) (w:World):
 ∃z,(Builtin.unsafeSliceData_ ts ty #[v]).run P w= .ok z w/\RV F (aE ob μ) r.val z:=by
 unfold U5 at h
 split at h
 ·rename_i x hg
  split at h
  ·rename_i hc
   obtain⟨ha,rfl⟩:=hc
   obtain rfl:=Option.some.inj h
   have h0:n≠0:=of_decide_eq_true hn
   cases hv with
   |refNil g=>exact(h0 rfl).elim
   | @ref _ _ _ _ _ b cap es len o c g1 g2 g3 g4 g5=>
    have ho:=g4 (.inr rfl)
    simp at ho
    subst ho
    exact⟨_,Lib.run_unsafeSliceData_row (P:=P) (w:=w) ts ty ⟨b,0,none⟩ n c (by omega),by simpa using RV.ptr (F:=F) (i:=0) (k:=0) g1 (by omega)⟩
  ·cases h
 ·cases h
def eD (P:Program) (o:Oper) (ρ:Operand->Option AV) (ob:aF):Option Sv:=
 match o.op with
 | .move x=>(ρ x).map fun a=>⟨true,a⟩
 | .assign x=>(ρ x).map fun a=>⟨true,a⟩
 | .pick c a b=>match ρ c with
  |some (.sc (.bool c))=>(if c=true then ρ a else ρ b).map fun a=>⟨true,a⟩
  |_=>none
 | .load t a=>match ρ a with
  |some p=>nG P t p ob
  |none=>none
 | .binOp op t x y _=>match ρ x,ρ y with
  |some a,some b=>match nF P op t a b with
   |some r=>some r
   |none=>match qM P op t a y with
    |some r=>some r
    |none=>match bQ P op t a b with
     |some r=>some r
     |none=>iE P o ρ
  |_,_=>none
 | .unOp op _ x=>match ρ x with
  |some a=>zB op a
  |none=>none
 | .convert s d x=>match ρ x with
  |some a=>if(P.underlying s).isSome=true then match tO P d a with
   |some r=>some r
   |none=>iE P o ρ else none
  |none=>none
 | .fieldAddr s x f=>match ρ x with
  |some p=>vD P s f p
  |none=>none
 | .field s x f=>match ρ x with
  |some p=>yZ P s p f
  |none=>none
 | .indexAddr t x i=>match ρ x,ρ i with
  |some a,some b=>pK P t a b ob
  |_,_=>none
 | .index t x i=>match ρ x,ρ i with
  |some a,some b=>wZ P t a b
  |_,_=>none
 | .slice t x lo hi none=>match ρ x,lo.map ρ,hi.map ρ with
  |some _,some none,_=>none
  |some _,_,some none=>none
  |some a,l,h=>jJ P t a (l.bind id) (h.bind id) ob
  |none,_,_=>none
 | .extract x i=>match ρ x with
  |some (.tup vs)=>(vs[i]?).map fun a=>⟨true,a⟩
  |_=>none
 | .build t parts=>zA P t (oI ρ parts.toList)
 | .makeFunc (.func f) first caps=>if first.size=0 then(nI ρ caps.toList).map fun cs=>⟨true,.clo f cs⟩else none
 | .nilCheck x=>match ρ x with
  |some (.ptr L i o)=>some ⟨true,.ptr L i o⟩
  |some (.iptr l xs i o)=>some ⟨true,.iptr l xs i o⟩
  |_=>none
 | .call {callee:= .builtin .len,args:=xs,argTypes:=ts}=>match xs.toList,ts.toList with
  | [x],[t]=>match ρ x with
   |some a=>pJ P t a
   |none=>none
  |_,_=>none
 | .call {callee:= .builtin .cap,args:=xs,argTypes:=ts}=>match xs.toList,ts.toList with
  | [x],[t]=>match ρ x with
   |some a=>yY P t a
   |none=>none
  |_,_=>none
 | .call {callee:= .builtin .unsafeSliceData,args:=xs,..}=>match xs.toList with
  | [x]=>match ρ x with
   |some (.ref L lo n)=>U5 L lo n ob
   |_=>iE P o ρ
  |_=>none
 | .call {callee:= .builtin .unsafeString,..}=>iE P o ρ
 | .call {callee:= .builtin .min,..}=>iE P o ρ
 | .call {callee:= .builtin .max,..}=>iE P o ρ
 | .makeInterface _ _=>iE P o ρ
 | .typeAssert _ _ _ _=>iE P o ρ
 |_=>none
theorem aE5 {F loc} {ρ:Operand->Option AV} {ρv:Operand->Value} (hρ: ∀x a,ρ x=some a->RV F loc a (ρv x)) (lo:Option Operand) (h:lo.map ρ≠some none):RO F loc ((lo.map ρ).bind id) (lo.map ρv):=by
 cases lo with
 |none=>exact .none
 |some x=>
  cases hx:ρ x with
  |none=>simp[hx]at h
  |some a=>simp[hx];exact .some (hρ x a hx)
theorem U6 {P:Program} {C F μ} {ob:aF} {w:World} (hw:SW C F μ ob w) {ρ:Operand->Option AV} {ρv:Operand->Value} (hρ: ∀x a,ρ x=some a->RV F (aE ob μ) a (ρv x)) (hcst: ∀v,ρv (.const v)=v) {o:Oper} {r:Sv}
 (h:eD P o ρ ob=some r) (hn:r.need): ∃z,(execOp ρv o).run P w= .ok (.value z) w/\RV F (aE ob μ) r.val z:=by
 unfold eD at h
 split at h
 ·rename_i x ho
  cases hx:ρ x with
  |none=>simp[hx]at h
  |some a=>simp[hx]at h;subst h;exact⟨ρv x,by simp[execOp,ho],hρ x a hx⟩
 ·rename_i x ho
  cases hx:ρ x with
  |none=>simp[hx]at h
  |some a=>simp[hx]at h;subst h;exact⟨ρv x,by simp[execOp,ho],hρ x a hx⟩
 ·rename_i c a b ho
  split at h
  ·rename_i cb hc
   have hcv:=hρ c _ hc
   generalize hcc:ρv c=vc at hcv
   cases hcv
   cases cb with
   |true=>
    cases hx:ρ a with
    |none=>simp[hx]at h
    |some a'=>simp[hx]at h;subst h;exact⟨ρv a,by simp[execOp,ho,hcc,asBool],hρ a a' hx⟩
   |false=>
    cases hx:ρ b with
    |none=>simp[hx]at h
    |some a'=>simp[hx]at h;subst h;exact⟨ρv b,by simp[execOp,ho,hcc,asBool],hρ b a' hx⟩
  ·cases h
 ·rename_i t a ho
  split at h
  ·rename_i p hp
   obtain⟨z,h1,h2⟩:=aEs hw h (hρ a p hp)
   exact⟨z,by simp[execOp,ho,h1],h2⟩
  ·cases h
 ·rename_i op t x y yt ho
  split at h
  ·rename_i a b ha hb
   split at h
   ·rename_i r' hr
    obtain rfl:=Option.some.inj h
    obtain⟨z,h1,h2⟩:=aEo (P:=P) hr hn (hρ x a ha) (hρ y b hb) w x y
    refine⟨z,?_,h2⟩
    simp only[execOp,ho,Sem.run_bind,Result.andThen_ok]at h1 ⊢
    rw[h1];rfl
   ·split at h
    ·rename_i r' hr
     obtain rfl:=Option.some.inj h
     obtain⟨z,h1,h2⟩:=aE4 (P:=P) (x:=x) (v:=ρv y) hr (hρ x a ha) (fun z hz=>by rw[hz];exact hcst z) w
     refine⟨z,?_,h2⟩
     simp only[execOp,ho,Sem.run_bind,Result.andThen_ok]at h1 ⊢
     rw[h1];rfl
    ·split at h
     ·rename_i r' hr
      obtain rfl:=Option.some.inj h
      obtain⟨z,hz,hs,hrun⟩:=aE3 (P:=P) (x:=x) (y:=y) hr (hρ x a ha) (hρ y b hb)
      refine⟨z,?_,by rw[hz];exact .sc hs⟩
      have h1:=hrun w
      simp only[execOp,ho,Sem.run_bind,Result.andThen_ok]at h1 ⊢
      rw[h1];rfl
     ·exact tP hρ h w
  ·cases h
 ·rename_i op t x ho
  split at h
  ·rename_i a ha
   obtain⟨z,h1,h2⟩:=aQb (P:=P) h (hρ x a ha) w
   exact⟨z,by simp[execOp,ho,h1],h2⟩
  ·cases h
 ·rename_i s d x ho
  split at h
  ·rename_i a ha
   split at h
   ·rename_i hs
    split at h
    ·rename_i r' hr
     obtain rfl:=Option.some.inj h
     obtain⟨z,h1,h2⟩:=aEz (P:=P) hr hs (hρ x a ha) w
     exact⟨z,by simp[execOp,ho,h1],h2⟩
    ·exact tP hρ h w
   ·cases h
  ·cases h
 ·rename_i s x f ho
  split at h
  ·rename_i p hp
   obtain⟨z,h1,h2⟩:=aP3 h hn (hρ x p hp) w
   exact⟨z,by simp[execOp,ho,h1],h2⟩
  ·cases h
 ·rename_i s x f ho
  split at h
  ·rename_i p hp
   obtain⟨z,h1,h2⟩:=aP6 h (hρ x p hp) w
   exact⟨z,by simp[execOp,ho,h1],h2⟩
  ·cases h
 ·rename_i t x i ho
  split at h
  ·rename_i a b ha hb
   obtain⟨z,h1,h2⟩:=aP5 h hn (hρ x a ha) (hρ i b hb) w
   exact⟨z,by simp[execOp,ho,h1],h2⟩
  ·cases h
 ·rename_i t x i ho
  split at h
  ·rename_i a b ha hb
   obtain⟨z,h1,h2⟩:=aP7 h hn (hρ x a ha) (hρ i b hb) w
   exact⟨z,by simp[execOp,ho,h1],h2⟩
  ·cases h
 ·rename_i t x lo hi ho
  split at h
  ·cases h
  ·cases h
  ·rename_i a hx hn1 hn2
   obtain⟨z,h1,h2⟩:=aP8 h hn (hρ x a hx) (aE5 hρ lo (by first|exact fun e=>hn1 e|(intro e;simp_all))) (aE5 hρ hi (by first|exact fun e=>hn2 e|(intro e;simp_all))) w
   exact⟨z,by simp[execOp,ho,h1],h2⟩
  ·cases h
 ·rename_i x i ho
  split at h
  ·rename_i vs hx
   cases hi:vs[i]? with
   |none=>simp[hi]at h
   |some a=>
    simp[hi]at h
    subst h
    have hxv:=hρ x _ hx
    generalize hvx:ρv x=vx at hxv
    cases hxv with
    | @tup _ _ _ us h1 h2=>
     have hlt:i<us.size:=by rw[<-h1];exact(List.getElem?_eq_some_iff.1 hi).1
     exact⟨us[i],by simp[execOp,ho,hvx,Instr.extract,hlt],h2 i a us[i] hi (by simp[hlt])⟩
  ·cases h
 ·rename_i t parts ho
  obtain⟨z,h1,h2⟩:=aQa hρ h w
  exact⟨z,by simp[execOp,ho,h1],h2⟩
 ·rename_i f first caps ho
  split at h
  ·rename_i hf
   cases hc:nI ρ caps.toList with
   |none=>simp[hc]at h
   |some cs=>
    simp[hc]at h
    subst h
    obtain⟨m1,m2⟩:=rR hc
    have hf0:first= #[]:=by simpa using hf
    subst hf0
    refine⟨.func (.func f) #[] (caps.map ρv),by simp[execOp,ho,Instr.makeFunc],.clo (by simp[m1]) fun i a v ha hv=>?_⟩
    simp only[Array.getElem?_map]at hv
    cases hci:caps[i]? with
    |none=>simp[hci]at hv
    |some x=>
     simp[hci]at hv
     subst hv
     exact hρ x a (m2 i x a (by simpa using hci) ha)
  ·cases h
 ·rename_i x ho
  split at h
  ·rename_i L i o hx
   obtain rfl:=Option.some.inj h
   have hxv:=hρ x _ hx
   generalize hvx:ρv x=vx at hxv
   have hxv':=hxv
   cases hxv' with
   |ptr g1 g2=>exact⟨_,by simp[execOp,ho,hvx],hxv⟩
  ·rename_i l xs i o hx
   obtain rfl:=Option.some.inj h
   have hxv:=hρ x _ hx
   generalize hvx:ρv x=vx at hxv
   have hxv':=hxv
   cases hxv' with
   |iptr g1 g2 g3 g4 g5=>exact⟨_,by simp[execOp,ho,hvx],hxv⟩
  ·cases h
 ·rename_i xs ts ho
  split at h
  ·rename_i x t hxs hts
   split at h
   ·rename_i a ha
    obtain⟨z,h1,h2⟩:=aEu (P:=P) (ty:=o.type) h (hρ x a ha) w
    have hx:xs= #[x]:=by cases xs;simp_all
    have ht:ts= #[t]:=by cases ts;simp_all
    subst hx;subst ht
    refine⟨z,?_,h2⟩
    simp[execOp,ho,resolve,invoke,builtin,h1]
   ·cases h
  ·cases h
 ·rename_i xs ts ho
  split at h
  ·rename_i x t hxs hts
   split at h
   ·rename_i a ha
    obtain⟨z,h1,h2⟩:=aP4 (P:=P) (ty:=o.type) h (hρ x a ha) w
    have hx:xs= #[x]:=by cases xs;simp_all
    have ht:ts= #[t]:=by cases ts;simp_all
    subst hx;subst ht
    refine⟨z,?_,h2⟩
    simp[execOp,ho,resolve,invoke,builtin,h1]
   ·cases h
  ·cases h
 ·rename_i xs ts ho
  split at h
  ·rename_i x hxs
   have hx1:xs= #[x]:=by cases xs;simp_all
   subst hx1
   split at h
   ·rename_i L lo n hx
    obtain⟨z,h1,h2⟩:=aQg (P:=P) h hn (hρ x _ hx) ts o.type w
    exact⟨z,by simp[execOp,ho,resolve,invoke,builtin,h1],h2⟩
   ·exact tP hρ h w
  ·cases h
 ·exact tP hρ h w
 ·exact tP hρ h w
 ·exact tP hρ h w
 ·exact tP hρ h w
 ·exact tP hρ h w
 ·cases h
end Go.Ab
namespace Go.Ab
open Go.RowKit
def kt (L:Nat) (a:AV):AV:=if a.has L=true then .dead else a
def kl (L:Nat):AV->AV
 | .tup cs=> .tup (cs.map (kt L))
 |a=>kt L a
def kill1 (L:Nat):AV->AV
 | .agg cs=> .agg (cs.map (kl L))
 |a=>kl L a
def gE (L:Nat) (t:List (Nat×AV)):List (Nat×AV):=t.map fun p=>(p.1,kill1 L p.2)
def dO (L:Nat) (x:AObj):AObj:=if x.arr=true then x else{x with xs:=x.xs.map (kill1 L)}
def killO (L:Nat) (o:aF):aF:=o.map fun p=>(p.1,dO L p.2)
theorem vE {α β:Type} (f:α->β): ∀(l:List (Nat×α)) (i:Nat),lk (l.map fun p=>(p.1,f p.2)) i=(lk l i).map f
 | [],_=>rfl
 |(k,a)::r,i=>by
  simp only[List.map_cons,lk]
  split
  ·rfl
  ·exact vE f r i
theorem aE6 (L:Nat) (a:AV):(kt L a).has L=false:=by
 unfold kt;split
 ·rfl
 ·simp_all
theorem aE7 (L:Nat): ∀cs:List AV,AV.hasL L (cs.map (kt L))=false
 | []=>rfl
 |c::cs=>by simp[AV.hasL,aE6,aE7 L cs]
theorem U7 (L:Nat) (a:AV):(kl L a).has L=false:=by
 unfold kl;split
 ·simp[AV.has,aE7]
 ·exact aE6 L a
theorem aE8 (L:Nat): ∀cs:List AV,AV.hasL L (cs.map (kl L))=false
 | []=>rfl
 |c::cs=>by simp[AV.hasL,U7,aE8 L cs]
theorem H4 (L:Nat) (a:AV):(kill1 L a).has L=false:=by
 unfold kill1
 split
 ·simp[AV.has,aE8]
 ·exact U7 L a
theorem aE9 (L:Nat): ∀cs:List AV,AV.hasL L (cs.map (kill1 L))=false
 | []=>rfl
 |c::cs=>by simp[AV.hasL,H4,aE9 L cs]
theorem RV.kt {F loc} {L:Nat} {a:AV} {v:Value} (h:RV F loc a v):RV F loc (Ab.kt L a) v:=by
 unfold Ab.kt;split
 ·exact .dead
 ·exact h
theorem RV.kl {F loc} {L:Nat} {a:AV} {v:Value} (h:RV F loc a v):RV F loc (Ab.kl L a) v:=by
 unfold Ab.kl;split
 ·cases h with
  |tup h1 h2=>
   refine .tup (by simpa using h1) (fun i a v ha hv=>?_)
   simp only[List.getElem?_map,Option.map_eq_some_iff]at ha
   obtain⟨a',ha',rfl⟩:=ha
   exact(h2 i a' v ha' hv).kt
 ·exact h.kt
theorem RV.kill1 {F loc} {L:Nat} {a:AV} {v:Value} (h:RV F loc a v):RV F loc (Ab.kill1 L a) v:=by
 cases h with
 |agg h1 h2 h3=>
  refine .agg (by simpa using h1) (fun i a v ha hv=>?_) h3
  simp only[List.getElem?_map,Option.map_eq_some_iff]at ha
  obtain⟨a',ha',rfl⟩:=ha
  exact(h2 i a' v ha' hv).kl
 |tup h1 h2=>exact(RV.tup h1 h2).kl
 |sc h=>exact(RV.sc h).kl
 |nil=>exact RV.nil.kl
 |list h1 h2 h3 h4 h5 h6 h7 h8=>exact(RV.list h1 h2 h3 h4 h5 h6 h7 h8).kl
 |iptr h1 h2 h6 h7 h8=>exact(RV.iptr h1 h2 h6 h7 h8).kl
 |refNil h=>exact(RV.refNil h).kl
 |ref h h1 h2 h3 h4=>exact(RV.ref h h1 h2 h3 h4).kl
 |ptr h h1=>exact(RV.ptr h h1).kl
 |mp h h'=>exact(RV.mp h h').kl
 |yl h=>exact(RV.yl h).kl
 |rc h h1 h2=>exact(RV.rc h h1 h2).kl
 |aref h h1 h2 h3=>exact(RV.aref h h1 h2 h3).kl
 |clo h1 h2=>exact(RV.clo h1 h2).kl
 |dead=>exact RV.dead.kl
theorem H5 {y:AV} (h:y.isAgg=false):y.cells= [y]:=by
 cases y<;>first|rfl|(simp[AV.isAgg]at h)
theorem aFa {L:Nat} {y:AV} (h:y.isAgg=false):(kl L y).isAgg=false:=by
 unfold kl
 split
 ·rfl
 unfold kt
 by_cases hc:y.has L=true
 ·rw[if_pos hc];rfl
 ·rw[if_neg hc];exact h
theorem aFb (L:Nat) (y:AV):(kill1 L y).cells=y.cells.map (kl L):=by
 cases hy:y.isAgg with
 |true=>cases y<;>first|rfl|(simp[AV.isAgg]at hy)
 |false=>
  have h1:kill1 L y=kl L y:=by cases y<;>first|rfl|(simp[AV.isAgg]at hy)
  rw[h1,H5 hy,H5 (aFa hy)]
  rfl
theorem ObjAt.hasL {F loc w} {x:AObj} {b cap:Nat} (h:ObjAt F loc w x b cap) (ha:x.arr=true) (L:Nat):AV.hasL L x.xs=false:=by
 rw[Bool.eq_false_iff]
 intro hh
 obtain⟨i,y,hy,hL⟩:=kP hh
 rcases h with⟨c,e,h1,h2,h3,h4,h5,h6,h7⟩|⟨k1,k2,k4,es,ck,k5,⟨k6,_⟩,k7⟩|⟨_,q2,_⟩
 rotate_left
 rotate_left
 ·rw[ha]at q2;cases q2
 rotate_left
 ·have hi:i<es.size:=by rw[k6];exact(List.getElem?_eq_some_iff.1 hy).1
  obtain⟨v,q,e1,e2,_,e3⟩:=k7 i es[i] y (by simp[hi]) hy
  subst e1
  rcases e3 with rfl|rfl
  ·simp only[AV.has,AV.hasL,Bool.or_false,Bool.false_or]at hL
   exact e2.noloc_has (fun _=>rfl) L hL
  ·simp only[AV.has,AV.hasL,Bool.or_false,Bool.false_or]at hL
   exact e2.noloc_has (fun _=>rfl) L hL
 cases y with
 |agg cs=>
  simp only[AV.has]at hL
  obtain⟨j,a,hj,haL⟩:=kP hL
  obtain⟨v,g1,g2,g3,g4⟩:=h6 i _ j a hy hj
  rw[ha]at g3
  exact g3.noloc_has (fun _=>rfl) L haL
 |_=>
  obtain⟨v,g1,g2,g3,g4⟩:=h6 i _ 0 _ hy (by rfl)
  rw[ha]at g3
  exact g3.noloc_has (fun _=>rfl) L hL
theorem ObjAt.kill {F loc w} {x:AObj} {b cap:Nat} (h:ObjAt F loc w x b cap) (L:Nat):ObjAt F loc w (dO L x) b cap/\AV.hasL L (dO L x).xs=false:=by
 cases ha:x.arr with
 |true=>simp only[dO,ha,if_true];exact⟨h,h.hasL ha L⟩
 |false=>
  simp only[dO,ha,Bool.false_eq_true,if_false]
  refine⟨?_,aE9 L _⟩
  rcases h with h|⟨_,k2,_⟩|⟨k1,k2,r,k4,k5⟩
  rotate_left
  ·rw[ha]at k2;cases k2
  ·exact .inr (.inr ⟨k1,rfl,r,k4,k5.map (g:=Ab.kt L) (fun _=>by simp[Ab.kill1,Ab.kl,Ab.kt,AV.has]) (fun k v=>by simp[Ab.kill1,Ab.kl,Ab.kt,AV.has]) (fun a v _ hv=>hv.kill1) fun _ a v _ hv=>hv.kt⟩)
  obtain⟨c,e,h1,h2,h3,h4,h5,h6,h7⟩:=h
  refine .inl ⟨c,e,h1,h2,by simpa using h3,by simpa using h4,?_,?_,h7.imp_right fun h=>⟨h.1,fun _=>h.2 ha⟩⟩
  ·intro y hy
   simp only[List.mem_map]at hy
   obtain⟨y',hy',rfl⟩:=hy
   rw[aFb];simp;exact h5 y' hy'
  ·intro i y j a hy hj
   simp only[List.getElem?_map,Option.map_eq_some_iff]at hy
   obtain⟨y',hy',rfl⟩:=hy
   rw[aFb]at hj
   simp only[List.getElem?_map,Option.map_eq_some_iff]at hj
   obtain⟨a',ha',rfl⟩:=hj
   obtain⟨v,g1,g2,g3,g4⟩:=h6 i y' j a' hy' ha'
   exact⟨v,g1,g2,by simp only[ha]at g3 ⊢;exact g3.kl,g4⟩
theorem pM (L:Nat) (x:AObj):(dO L x).es=x.es/\(dO L x).xs.length=x.xs.length/\(dO L x).pin=x.pin/\(dO L x).fz=x.fz/\(dO L x).arr=x.arr:=by
 unfold dO;split<;>simp
theorem aFc (L:Nat) (x:AObj):(dO L x).kd=x.kd:=by
 unfold dO;split<;>simp
theorem rW (L:Nat) (x:AObj) (p:Option (Nat×Nat)):bV (dO L x) p=bV x p:=nE (pM L x).1 (pM L x).2.1 (aFc L x) p
theorem zC (L:Nat) (t:List (Nat×AV)) (i:Nat):lk (gE L t) i=(lk t i).map (kill1 L):=vE _ _ _
theorem rX (L:Nat) (o:aF) (i:Nat):lk (killO L o) i=(lk o i).map (dO L):=vE _ _ _
def bJ (μ:Pl) (d:Nat) (p:Option (Nat×Nat)):Pl:=fun L=>if L=d then p else μ L
theorem pN {w:World} {o:Obj} {b:Nat} (h:b<w.heap.size):(w.alloc o).heap[b]?=w.heap[b]?:=by
 show(w.heap.push o)[b]?=_
 rw[Array.getElem?_push,if_neg (by omega)]
theorem tR {w:World} {o:Obj}:(w.alloc o).heap[w.heap.size]?=some o:=by
 show(w.heap.push o)[w.heap.size]?=_
 simp
structure Fresh (F:Bool->aZ) (loc:Nat->Option LI) (x:AObj) (c:Array Value) (cap:Nat) (e:TypeId):Prop where
 size:c.size=cap*x.es
 fits:x.xs.length<=cap
 row:x.xs.length<=dD
 es: ∀y∈x.xs,y.cells.length=x.es
 rv: ∀(i:Nat) (y:AV) (j:Nat) (a:AV),x.xs[i]?=some y->y.cells[j]?=some a-> ∃v,c[i*x.es+j]?=some v/\one v=true/\RV (oF x.arr F) (oL x.arr loc) a v
 fz:x.fz=false
 pin:x.pin=false
 kd:x.kd=0\/(x.kd=e+2/\(x.arr=false->cap=1))
def ASt.put (s:ASt) (d:Nat) (a:AV):ASt:= {s with t:=(d,a)::s.t}
def ASt.fresh (s:ASt) (d:Nat) (x:AObj) (r:AV):ASt:= {n:=s.n,t:=(d,r)::gE d s.t,o:=(d,x)::killO d s.o}
theorem zD {a:Act} {d:Nat} {v:Value} (hd:d<a.tmps.size) (i:Nat):(a.put (some d) v).tmps.getD i undef=if i=d then v else a.tmps.getD i undef:=by
 simp only[Act.put,Array.getD_eq_getD_getElem?,Array.getElem?_setIfInBounds]
 by_cases h:i=d
 ·subst h;simp[hd]
 ·simp[h,Ne.symm h]
theorem SR.put {C F μ} {s:ASt} {a:Act} {w:World} (h:SR C F μ s a w) {d:Nat} (hd:d<s.n) {x:AV} {v:Value} (hx:RV F (aE s.o μ) x v):SR C F μ (s.put d x) (a.put (some d) v) w:=by
 refine⟨h.sw,h.defers,by simp[Act.put,ASt.put,h.n],fun i y hy=>?_⟩
 rw[zD (by rw[h.n];exact hd)]
 simp only[ASt.put,lk]at hy
 by_cases hi:d=i
 ·rw[if_pos hi]at hy
  obtain rfl:=Option.some.inj hy
  rw[if_pos hi.symm];exact hx
 ·rw[if_neg hi]at hy
  rw[if_neg (Ne.symm hi)];exact h.slot i y hy
theorem aQh {arr:Bool} {loc loc':Nat->Option LI} {F:Bool->aZ} {a:AV} {v:Value} (h:RV (oF arr F) (oL arr loc) a v) (hl: ∀L,a.has L=true->loc' L=loc L):RV (oF arr F) (oL arr loc') a v:=by
 cases arr
 ·exact RV.congr h (FLe.refl _) hl
 ·exact h
theorem SR.fresh {C F μ} {s:ASt} {a:Act} {w:World} (h:SR C F μ s a w) {d:Nat} (hd:d<s.n) {x:AObj} {c:Array Value} {e:TypeId} {cap:Nat} (hx:Fresh F (aE s.o μ) x c cap e)
 (hL:AV.hasL d x.xs=false) {r:AV} {v:Value} (hr: ∀loc:Nat->Option LI,loc d=some ⟨some (w.heap.size,cap),x.es,x.xs.length,false⟩->RV F loc r v):
 SR C F (bJ μ d (some (w.heap.size,cap))) (s.fresh d x r) (a.put (some d) v) (w.alloc (.cells c e (0,0))):=by
 have hsw:=h.sw
 have hlt: ∀l b k u,F l b k=some u->b<w.heap.size:=fun l b k u hu=>pI (hsw.facts l b k u hu)
 have hold: ∀b,b<w.heap.size->(w.alloc (.cells c e (0,0))).heap[b]?=w.heap[b]?:=fun b hb=>pN hb
 have hget: ∀L,lk (s.fresh d x r).o L=if d=L then some x else(lk s.o L).map (dO d):=fun L=>by
  simp only[ASt.fresh,lk,rX]
 have hloc: ∀L,L≠d->aE (s.fresh d x r).o (bJ μ d (some (w.heap.size,cap))) L=aE s.o μ L:=fun L hne=>by
  simp only[aE,hget,if_neg (Ne.symm hne),bJ,if_neg hne,Option.map_map]
  congr 1
  funext y
  obtain⟨g1,g2,_⟩:=pM d y
  exact nE g1 g2 (aFc d y) _
 have hlocd:aE (s.fresh d x r).o (bJ μ d (some (w.heap.size,cap))) d=some ⟨some (w.heap.size,cap),x.es,x.xs.length,false⟩:=by
  have hk:x.kd≠1:=by rcases hx.kd with h|h<;>omega
  simp[aE,hget,bJ,lE hk]
 have hblk: ∀L y b cc,lk s.o L=some y->μ L=some (b,cc)->b<w.heap.size:=fun L y b cc hy hm=>by
  have:=hsw.obj L y hy
  rw[hm]at this
  obtain⟨_,g⟩:=ObjAt.lt this
  exact gJ g
 refine⟨⟨?_,hsw.sub,hsw.lentc,hsw.grow,hsw.newf,?_,?_,?_,?_,?_,?_⟩,h.defers,by simp[Act.put,ASt.fresh,h.n],?_⟩
 ·intro l b k u hu
  rw[qG (hold b (hlt l b k u hu))]
  exact hsw.facts l b k u hu
 ·exact⟨hsw.fr.os,hsw.fr.tape,hsw.fr.output,by have:=hsw.fr.size;simp;omega,fun k hk hm=>by rw[hold k (Nat.lt_of_lt_of_le hk hsw.fr.size)];exact hsw.fr.block k hk hm,hsw.fr.drawn⟩
 ·intro L y hy
  rw[hget]at hy
  by_cases hdL:d=L
  ·rw[if_pos hdL]at hy
   obtain rfl:=Option.some.inj hy
   subst hdL
   simp only[bJ,if_true,lF]
   refine .inl ⟨c,e,tR,hx.size,hx.fits,hx.row,hx.es,fun i y j a' hy ha=>?_,hx.kd⟩
   obtain⟨v',g1,g2,g3⟩:=hx.rv i y j a' hy ha
   refine⟨v',g1,g2,aQh g3 fun L hL'=>hloc L ?_,fun hz=>by rw[hx.fz]at hz;cases hz⟩
   rintro rfl
   have:AV.hasL L x.xs=true:=by
    refine gI hy ?_
    cases y with
    |agg cs=>simp only[AV.has];exact gI ha hL'
    |_=>cases j with
     |zero=>simp[AV.cells]at ha;subst ha;exact hL'
     |succ j=>simp[AV.cells]at ha
   rw[hL]at this;cases this
  ·rw[if_neg hdL]at hy
   simp only[Option.map_eq_some_iff]at hy
   obtain⟨y',hy',rfl⟩:=hy
   have ho:=hsw.obj L y' hy'
   simp only[bJ,if_neg (Ne.symm hdL)]
   cases hm:μ L with
   |none=>
    rw[hm]at ho
    have:(dO d y').xs.length=y'.xs.length:=(pM d y').2.1
    simp only[lF]at ho ⊢
    rw[ho]at this
    exact List.length_eq_zero_iff.1 this
   |some p=>
    obtain⟨b,cc⟩:=p
    rw[hm]at ho
    obtain⟨g1,g2⟩:=ObjAt.kill ho d
    refine g1.congr (hold b (hblk L y' b cc hy' hm)) (FLe.refl _) fun L' hL'=>hloc L' ?_
    rintro rfl
    rw[g2]at hL';cases hL'
 ·intro L y L' y' b cc cc' hy hy' hm hm'
  rw[hget]at hy hy'
  simp only[bJ]at hm hm'
  by_cases hdL:d=L
  ·by_cases hdL':d=L'
   ·rw[<-hdL,<-hdL']
   ·rw[if_neg hdL']at hy'
    rw[if_neg (Ne.symm hdL')]at hm'
    rw[if_pos hdL.symm]at hm
    simp only[Option.map_eq_some_iff]at hy'
    obtain⟨y'',hy'',_⟩:=hy'
    have:=hblk L' y'' b cc' hy'' hm'
    simp at hm;omega
  ·rw[if_neg hdL]at hy
   rw[if_neg (Ne.symm hdL)]at hm
   simp only[Option.map_eq_some_iff]at hy
   obtain⟨y1,hy1,_⟩:=hy
   by_cases hdL':d=L'
   ·rw[if_pos hdL'.symm]at hm'
    have:=hblk L y1 b cc hy1 hm
    simp at hm';omega
   ·rw[if_neg hdL']at hy'
    rw[if_neg (Ne.symm hdL')]at hm'
    simp only[Option.map_eq_some_iff]at hy'
    obtain⟨y2,hy2,_⟩:=hy'
    exact hsw.dist L y1 L' y2 b cc cc' hy1 hy2 hm hm'
 ·intro L y b cc hy hm hz l k
  rw[hget]at hy
  simp only[bJ]at hm
  by_cases hdL:d=L
  ·rw[if_pos hdL.symm]at hm
   simp at hm
   cases hF:F l b k with
   |none=>rfl
   |some u=>have:=hlt l b k u hF;omega
  ·rw[if_neg hdL]at hy
   rw[if_neg (Ne.symm hdL)]at hm
   simp only[Option.map_eq_some_iff]at hy
   obtain⟨y1,hy1,rfl⟩:=hy
   exact hsw.excl L y1 b cc hy1 hm (by rw[<-(pM d y1).2.2.2.1];exact hz) l k
 ·intro L y b cc hy hm
  rw[hget]at hy
  simp only[bJ]at hm
  by_cases hdL:d=L
  ·rw[if_pos hdL.symm]at hm
   simp at hm
   left;have:=hsw.fr.size;omega
  ·rw[if_neg hdL]at hy
   rw[if_neg (Ne.symm hdL)]at hm
   simp only[Option.map_eq_some_iff]at hy
   obtain⟨y1,hy1,rfl⟩:=hy
   exact hsw.mine L y1 b cc hy1 hm
 ·intro L y x0 h0 hy hp
  rw[hget]at hy
  by_cases hdL:d=L
  ·rw[if_pos hdL]at hy
   obtain rfl:=Option.some.inj hy
   rw[hx.pin]at hp;cases hp
  ·rw[if_neg hdL]at hy
   simp only[Option.map_eq_some_iff]at hy
   obtain⟨y1,hy1,rfl⟩:=hy
   obtain⟨g1,g2,g3,g4,g5⟩:=pM d y1
   have:=hsw.keep L y1 x0 h0 hy1 (by rw[<-g3];exact hp)
   simp only[bJ,if_neg (Ne.symm hdL),rW,g5]
   exact this
 ·intro i y hy
  rw[zD (by rw[h.n];exact hd)]
  simp only[ASt.fresh,lk]at hy
  by_cases hi:d=i
  ·rw[if_pos hi]at hy
   obtain rfl:=Option.some.inj hy
   rw[if_pos hi.symm]
   exact hr _ hlocd
  ·rw[if_neg hi,zC]at hy
   simp only[Option.map_eq_some_iff]at hy
   obtain⟨y',hy',rfl⟩:=hy
   rw[if_neg (Ne.symm hi)]
   refine(h.slot i y' hy').kill1.congr (FLe.refl _) fun L hL'=>hloc L ?_
   rintro rfl
   rw[H4]at hL';cases hL'
end Go.Ab
namespace Go.Ab
open Go.RowKit
def AObj.frz (x:AObj):AObj:= {x with fz:=true}
def bR (o:aF) (L:Nat) (x:AObj):aF:=(L,x)::o
theorem nJ (o:aF) (L:Nat) (x:AObj) (i:Nat):lk (bR o L x) i=if L=i then some x else lk o i:=rfl
theorem pO {o:aF} {μ:Pl} {L:Nat} {x x':AObj} (h:lk o L=some x) (h1: ∀p,bV x' p=bV x p):aE (bR o L x') μ=aE o μ:=by
 funext i
 simp only[aE,nJ]
 by_cases hi:L=i
 ·subst hi;simp[h,h1]
 ·rw[if_neg hi]
theorem SW.turn {C F μ} {o:aF} {w w':World} (h:SW C F μ o w) {L:Nat} {x x':AObj} (hg:lk o L=some x) (h1: ∀p,bV x' p=bV x p) (h3:x'.pin=x.pin) (h4:x'.arr=x.arr)
 {b cap:Nat} (hm:μ L=some (b,cap)) (hz:x.fz=false) (hz':x'.fz=false) (hw:Fr (· =b) w w') (hs:w'.heap.size=w.heap.size) (ho:ObjAt F (aE o μ) w' x' b cap):SW C F μ (bR o L x') w':=by
 have hloc:=pO (μ:=μ) hg h1
 have hlt: ∀l b k u,F l b k=some u->b<w.heap.size:=fun l b k u hu=>pI (h.facts l b k u hu)
 have hb:b<w.heap.size:=by
  have:=h.obj L x hg
  rw[hm]at this
  obtain⟨_,g⟩:=ObjAt.lt this
  exact gJ g
 have hmine:=h.mine L x b cap hg hm
 refine⟨?_,h.sub,h.lentc,h.grow,h.newf,?_,?_,?_,?_,?_,?_⟩
 ·intro l b' k u hu
  have hne:b'≠b:=by rintro rfl;rw[h.excl L x b' cap hg hm hz l k]at hu;cases hu
  rw[qG (hw.block b' (hlt l b' k u hu) hne)]
  exact h.facts l b' k u hu
 ·refine h.fr.trans hw fun k hk hkb=>?_
  subst hkb
  rcases hmine with hh|hh
  ·omega
  ·exact hh
 ·intro L' y hy
  rw[hloc]
  rw[nJ]at hy
  by_cases hLL:L=L'
  ·rw[if_pos hLL]at hy
   obtain rfl:=Option.some.inj hy
   subst hLL
   rw[hm]
   exact ho
  ·rw[if_neg hLL]at hy
   have hoy:=h.obj L' y hy
   cases hm':μ L' with
   |none=>rw[hm']at hoy;exact hoy
   |some p=>
    obtain⟨b',cap'⟩:=p
    rw[hm']at hoy
    have hne:b'≠b:=by rintro rfl;exact hLL (h.dist L x L' y b' cap cap' hg hy hm hm')
    obtain⟨_,g⟩:=ObjAt.lt hoy
    exact hoy.congr (hw.block b' (gJ g) hne) (FLe.refl _) fun _ _=>rfl
 ·intro L1 y1 L2 y2 b' c1 c2 hy1 hy2 hm1 hm2
  rw[nJ]at hy1 hy2
  have e1: ∃z,lk o L1=some z:=by
   by_cases hh:L=L1
   ·exact⟨x,hh▸hg⟩
   ·rw[if_neg hh]at hy1;exact⟨_,hy1⟩
  have e2: ∃z,lk o L2=some z:=by
   by_cases hh:L=L2
   ·exact⟨x,hh▸hg⟩
   ·rw[if_neg hh]at hy2;exact⟨_,hy2⟩
  obtain⟨z1,e1⟩:=e1
  obtain⟨z2,e2⟩:=e2
  exact h.dist L1 z1 L2 z2 b' c1 c2 e1 e2 hm1 hm2
 ·intro L1 y1 b' c1 hy1 hm1 hz1 l k
  rw[nJ]at hy1
  by_cases hh:L=L1
  ·subst hh
   exact h.excl L x b' c1 hg hm1 hz l k
  ·rw[if_neg hh]at hy1;exact h.excl L1 y1 b' c1 hy1 hm1 hz1 l k
 ·intro L1 y1 b' c1 hy1 hm1
  rw[nJ]at hy1
  by_cases hh:L=L1
  ·subst hh;exact h.mine L x b' c1 hg hm1
  ·rw[if_neg hh]at hy1;exact h.mine L1 y1 b' c1 hy1 hm1
 ·intro L1 y1 x0 h0 hy1 hp
  rw[nJ]at hy1
  by_cases hh:L=L1
  ·subst hh
   rw[if_pos rfl]at hy1
   obtain rfl:=Option.some.inj hy1
   have:=h.keep L x x0 h0 hg (by rw[<-h3];exact hp)
   rw[h1,h4];exact this
  ·rw[if_neg hh]at hy1;exact h.keep L1 y1 x0 h0 hy1 hp
def jK (F:Bool->aZ) (b n:Nat) (c:Array Value):Bool->aZ:=fun l b' k=>if b'=b/\k<n then c[k]? else F l b' k
theorem aFd {F:Bool->aZ} {b n:Nat} {c:Array Value} (h: ∀l k,F l b k=none):FLe F (jK F b n c):=by
 intro l b' k v hv
 unfold jK
 by_cases hb:b'=b
 ·subst hb;rw[h]at hv;cases hv
 ·rw[if_neg (by simp[hb])];exact hv
theorem SW.freeze {C F μ} {o:aF} {w:World} (h:SW C F μ o w) {L:Nat} {x:AObj} (hg:lk o L=some x) (ha:x.arr=true\/x.kd≠1): ∃F',FLe F F'/\SW C F' μ (bR o L x.frz) w:=by
 have hloc:=pO (μ:=μ) (x':=x.frz) hg (fun _=>rfl)
 by_cases hz:x.fz=true
 ·refine⟨F,FLe.refl _,?_⟩
  have hx:x.frz=x:=by cases x;simp[AObj.frz]at*;exact hz
  rw[hx]at hloc ⊢
  have hgg: ∀i:Nat,lk (bR o L x) i=lk o i:=fun i=>by
   rw[nJ]
   by_cases hh:L=i
   ·subst hh;simp[hg]
   ·rw[if_neg hh]
  exact⟨h.facts,h.sub,h.lentc,h.grow,h.newf,h.fr,fun L' y hy=>by rw[hloc];rw[hgg]at hy;exact h.obj L' y hy,fun L1 y1 L2 y2 b c1 c2=>by rw[hgg,hgg];exact h.dist L1 y1 L2 y2 b c1 c2,
   fun L1 y1 b c1=>by rw[hgg];exact h.excl L1 y1 b c1,fun L1 y1 b c1=>by rw[hgg];exact h.mine L1 y1 b c1,fun L1 y1 x0=>by rw[hgg];exact h.keep L1 y1 x0⟩
 ·have hz:x.fz=false:=by simpa using hz
  have hgg: ∀i y,lk (bR o L x.frz) i=some y->(L=i/\y=x.frz)\/(L≠i/\lk o i=some y):=fun i y hy=>by
   rw[nJ]at hy
   by_cases hh:L=i
   ·rw[if_pos hh]at hy;exact .inl ⟨hh,(Option.some.inj hy).symm⟩
   ·rw[if_neg hh]at hy;exact .inr ⟨hh,hy⟩
  have hgx: ∀i y,lk (bR o L x.frz) i=some y-> ∃z,lk o i=some z/\z.pin=y.pin/\(∀p,bV z p=bV y p)/\z.arr=y.arr:=fun i y hy=>by
   rcases hgg i y hy with⟨rfl,rfl⟩|⟨_,hy'⟩
   ·exact⟨x,hg,rfl,fun _=>rfl,rfl⟩
   ·exact⟨y,hy',rfl,fun _=>rfl,rfl⟩
  by_cases hk:x.kd=1
  ·refine⟨F,FLe.refl _,h.facts,h.sub,h.lentc,h.grow,h.newf,h.fr,?_,?_,?_,?_,?_⟩
   ·intro L' y hy
    rw[hloc]
    rcases hgg L' y hy with⟨rfl,rfl⟩|⟨_,hy'⟩
    ·have:=h.obj L x hg
     revert this
     cases μ L with
     |none=>exact id
     |some p=>obtain⟨b,c⟩:=p;intro ho;have hm:yW F w x b:=ObjAt.map (x:=x) ho hk (ha.resolve_right fun h=>h hk);exact .inr (.inl hm)
    ·exact h.obj L' y hy'
   ·intro L1 y1 L2 y2 b c1 c2 hy1 hy2
    obtain⟨z1,e1,_⟩:=hgx L1 y1 hy1
    obtain⟨z2,e2,_⟩:=hgx L2 y2 hy2
    exact h.dist L1 z1 L2 z2 b c1 c2 e1 e2
   ·intro L1 y1 b c1 hy1 hm1 hz1
    rcases hgg L1 y1 hy1 with⟨rfl,rfl⟩|⟨_,hy'⟩
    ·simp[AObj.frz]at hz1
    ·exact h.excl L1 y1 b c1 hy' hm1 hz1
   ·intro L1 y1 b c1 hy1
    obtain⟨z1,e1,_⟩:=hgx L1 y1 hy1
    exact h.mine L1 z1 b c1 e1
   ·intro L1 y1 x0 h0 hy1 hp
    obtain⟨z1,e1,e2,e3,e5⟩:=hgx L1 y1 hy1
    rw[<-e3,<-e5]
    exact h.keep L1 z1 x0 h0 e1 (by rw[e2];exact hp)
  cases hm:μ L with
  |none=>
   refine⟨F,FLe.refl _,h.facts,h.sub,h.lentc,h.grow,h.newf,h.fr,?_,?_,?_,?_,?_⟩
   ·intro L' y hy
    rw[hloc]
    rcases hgg L' y hy with⟨rfl,rfl⟩|⟨_,hy'⟩
    ·have:=h.obj L x hg;rw[hm]at this ⊢;exact this
    ·exact h.obj L' y hy'
   ·intro L1 y1 L2 y2 b c1 c2 hy1 hy2
    obtain⟨z1,e1,_⟩:=hgx L1 y1 hy1
    obtain⟨z2,e2,_⟩:=hgx L2 y2 hy2
    exact h.dist L1 z1 L2 z2 b c1 c2 e1 e2
   ·intro L1 y1 b c1 hy1 hm1 hz1
    rcases hgg L1 y1 hy1 with⟨rfl,rfl⟩|⟨_,hy'⟩
    ·rw[hm]at hm1;cases hm1
    ·exact h.excl L1 y1 b c1 hy' hm1 hz1
   ·intro L1 y1 b c1 hy1
    obtain⟨z1,e1,_⟩:=hgx L1 y1 hy1
    exact h.mine L1 z1 b c1 e1
   ·intro L1 y1 x0 h0 hy1 hp
    obtain⟨z1,e1,e2,e3,e5⟩:=hgx L1 y1 hy1
    rw[<-e3,<-e5]
    exact h.keep L1 z1 x0 h0 e1 (by rw[e2];exact hp)
  |some p=>
   obtain⟨b,cap⟩:=p
   have hob:=h.obj L x hg
   rw[hm]at hob
   obtain⟨c,e,q1,q2,q3,q4,q5,q6,q7⟩:=hob.std hk
   have hex:=h.excl L x b cap hg hm hz
   have hle:FLe F (jK F b (x.xs.length*x.es) c):=aFd hex
   have hnew: ∀l b' k v,jK F b (x.xs.length*x.es) c l b' k=some v->F l b' k=some v\/(b'=b/\c[k]?=some v):=by
    intro l b' k v hv
    unfold jK at hv
    split at hv
    ·rename_i hc;exact .inr ⟨hc.1,hv⟩
    ·exact .inl hv
   have hsub:Sub (jK F b (x.xs.length*x.es) c):=by
    intro b' k v hv
    unfold jK at hv ⊢
    split at hv
    ·rename_i hc;rw[if_pos hc];exact hv
    ·rename_i hc;rw[if_neg hc];exact h.sub _ _ _ hv
   refine⟨_,hle,?_,hsub,?_,h.grow.trans hle,?_,h.fr,?_,?_,?_,?_,?_⟩
   ·intro l b' k v hv
    rcases hnew l b' k v hv with hv|⟨hbb,hv1⟩
    ·exact h.facts l b' k v hv
    ·rw[hbb];simp[World.cell?,q1,hv1]
   ·intro b' k v hv
    unfold jK at hv ⊢
    split at hv
    ·rename_i hc;rw[if_pos hc];exact .inr hv
    ·rename_i hc;rw[if_neg hc];exact h.lentc _ _ _ hv
   ·intro b' k v hv
    rcases hnew false b' k v hv with hv|⟨rfl,hv⟩
    ·exact h.newf b' k v hv
    ·exact .inr (h.mine L x b' cap hg hm)
   ·intro L' y hy
    rw[hloc]
    rcases hgg L' y hy with⟨rfl,rfl⟩|⟨hne,hy'⟩
    ·rw[hm]
     refine .inl ⟨c,e,q1,q2,q3,q4,q5,fun i y j a hy hj=>?_,q7⟩
     obtain⟨v,g1,g2,g3,g4⟩:=q6 i y j a hy hj
     refine⟨v,g1,g2,?_,fun _=>?_⟩
     ·show RV (oF x.arr _) (oL x.arr _) a v
      cases harr:x.arr with
      |false=>rw[harr]at g3;exact RV.mono g3 hle
      |true=>rw[harr]at g3;exact RV.mono g3 hle.sh
     ·have hi:i<x.xs.length:=(List.getElem?_eq_some_iff.1 hy).1
      have hjj:j<x.es:=by
       have:=q5 y (List.mem_of_getElem? hy)
       rw[<-this];exact(List.getElem?_eq_some_iff.1 hj).1
      unfold jK
      have hlt:i*x.es+j<x.xs.length*x.es:=by
       have:(i+1)*x.es<=x.xs.length*x.es:=Nat.mul_le_mul_right _ hi
       rw[Nat.add_mul]at this;omega
      rw[if_pos ⟨rfl,hlt⟩];exact g1
    ·have hoy:=h.obj L' y hy'
     cases hm':μ L' with
     |none=>rw[hm']at hoy;exact hoy
     |some p=>
      obtain⟨b',cap'⟩:=p
      rw[hm']at hoy
      exact hoy.congr rfl hle fun _ _=>rfl
   ·intro L1 y1 L2 y2 b c1 c2 hy1 hy2
    obtain⟨z1,e1,_⟩:=hgx L1 y1 hy1
    obtain⟨z2,e2,_⟩:=hgx L2 y2 hy2
    exact h.dist L1 z1 L2 z2 b c1 c2 e1 e2
   ·intro L1 y1 b' c1 hy1 hm1 hz1 l k
    rcases hgg L1 y1 hy1 with⟨rfl,rfl⟩|⟨hne,hy'⟩
    ·simp[AObj.frz]at hz1
    ·have hbb:b'≠b:=by rintro rfl;exact hne (h.dist L x L1 y1 b' cap c1 hg hy' hm hm1)
     unfold jK
     rw[if_neg (by simp[hbb])]
     exact h.excl L1 y1 b' c1 hy' hm1 hz1 l k
   ·intro L1 y1 b c1 hy1
    obtain⟨z1,e1,_⟩:=hgx L1 y1 hy1
    exact h.mine L1 z1 b c1 e1
   ·intro L1 y1 x0 h0 hy1 hp
    obtain⟨z1,e1,e2,e3,e5⟩:=hgx L1 y1 hy1
    rw[<-e3,<-e5]
    exact h.keep L1 z1 x0 h0 e1 (by rw[e2];exact hp)
def ASt.frz (s:ASt) (L:Nat) (x:AObj):ASt:= {s with o:=bR s.o L x.frz}
theorem SR.freeze {C F μ} {s:ASt} {a:Act} {w:World} (h:SR C F μ s a w) {L:Nat} {x:AObj} (hg:lk s.o L=some x) (ha:x.arr=true\/x.kd≠1): ∃F',FLe F F'/\SR C F' μ (s.frz L x) a w:=by
 obtain⟨F',h1,h2⟩:=h.sw.freeze hg ha
 refine⟨F',h1,h2,h.defers,h.n,fun i y hy=>?_⟩
 have hloc:aE (s.frz L x).o μ=aE s.o μ:=pO (x':=x.frz) hg (fun _=>rfl)
 rw[hloc]
 exact(h.slot i y hy).mono h1
def cA {α:Type} (xs:List α) (lo n:Nat):List α:=if lo=0/\n=xs.length then xs else(xs.drop lo).take n
theorem U8 {α:Type} {xs:List α} {lo n:Nat} (h:lo+n<=xs.length) (i:Nat):(cA xs lo n)[i]?=if i<n then xs[lo+i]? else none:=by
 unfold cA
 split
 ·rename_i hc
  obtain⟨rfl,rfl⟩:=hc
  by_cases hi:i<xs.length
  ·simp[hi]
  ·simp[hi]
 ·rw[List.getElem?_take]
  split
  ·rw[List.getElem?_drop]
  ·rfl
theorem zE {α:Type} {xs:List α} {lo n:Nat} (h:lo+n<=xs.length):(cA xs lo n).length=n:=by
 unfold cA
 split
 ·rename_i hc;exact hc.2.symm
 ·simp;omega
theorem xB {α:Type} {xs:List α} {lo n:Nat} {x:α} (h:x∈cA xs lo n):x∈xs:=by
 unfold cA at h
 split at h
 ·exact h
 ·exact List.mem_of_mem_drop (List.mem_of_mem_take h)
theorem RV.row {F G:Bool->aZ} {o:aF} {μ:Pl} {w:World} {L:Nat} {x:AObj} (hg:lk o L=some x) (ho:lF F (aE o μ) w x (μ L)) (ha:x.arr=true) {lo n:Nat} {v:Value}
 (h:RV F (aE o μ) (.ref L lo n) v) {lent:Bool} (hFG:FLe (sh F) (sh G))
 (hc: ∀b cap,μ L=some (b,cap)-> ∀(i:Nat) (y:AV) (j:Nat) (a:AV) (u:Value),x.xs[i]?=some y->y.cells[j]?=some a->w.cell? ⟨b,i*x.es+j,none⟩=some u->G lent b (i*x.es+j)=some u)
 (loc:Nat->Option LI):RV G loc (.list lent false (cA x.xs lo n)) v:=by
 have hloc:aE o μ L=some (bV x (μ L)):=by simp[aE,hg]
 cases h with
 |refNil g=>
  rw[hloc]at g
  obtain⟨hm,-,-,-⟩:=fB (Option.some.inj g)
  rw[hm]at ho
  have:x.xs= []:=ho
  rw[this]
  exact .nil
 | @ref _ _ _ _ _ b cap es len p c g1 g2 g3 g4 g5=>
  rw[hloc]at g1
  obtain⟨hm,rfl,rfl,hk1⟩:=fB (Option.some.inj g1)
  rw[hm]at ho
  have hcell: ∀(i:Nat) (y:AV) (j:Nat) (a:AV),x.xs[i]?=some y->y.cells[j]?=some a-> ∃u,w.cell? ⟨b,i*x.es+j,none⟩=some u/\one u=true/\RV (oF x.arr F) (oL x.arr (aE o μ)) a u:=
   fun i y j a hy hj=>ObjAt.cell ho hk1 hy hj
  obtain⟨cc,e,q1,q2,q3,q4,q5,q6,q7⟩:=ho.std hk1
  have hlen:=zE (xs:=x.xs) g2
  let f:Nat->Nat->Value:=fun i j=>(w.cell? ⟨b,(lo+i)*x.es+j,none⟩).getD .nilIface
  have hget: ∀(i:Nat) (y:AV),(cA x.xs lo n)[i]?=some y->x.xs[lo+i]?=some y:=fun i y hy=>by
   rw[U8 g2]at hy
   split at hy
   ·exact hy
   ·cases hy
  have key:= @RV.list G loc lent false (cA x.xs lo n) b (lo*x.es) p c x.es f (fun y hy=>q5 y (xB hy)) (by rw[hlen];exact g3) (by rw[hlen];unfold dD at*;omega) (fun h=>by cases h)
   (fun hne=>g4 (.inl (by rintro rfl;have:=List.length_eq_zero_iff.1 hlen;exact hne this)))
   (fun i y j a hy hj=>by
    obtain⟨u,r1,r2,r3⟩:=hcell _ y j a (hget i y hy) hj
    have:=hc b cap hm _ y j a u (hget i y hy) hj r1
    rw[Nat.add_mul]at this r1
    simp only[f,Nat.add_mul,r1,Option.getD_some]
    exact this)
   (fun i y j a hy hj=>by
    obtain⟨u,r1,r2,r3⟩:=hcell _ y j a (hget i y hy) hj
    simp only[f,r1,Option.getD_some]
    rw[ha]at r3
    exact RV.mono r3 hFG)
   (fun i y j a hy hj=>by
    obtain⟨u,r1,r2,r3⟩:=hcell _ y j a (hget i y hy) hj
    simp only[f,r1,Option.getD_some]
    exact r2)
  rw[hlen]at key
  exact key
end Go.Ab
namespace Go.Ab
open Go.RowKit
structure St where
 need:Bool
 st:ASt
def jL (s:ASt):AV->Option (ASt×AV)
 | .ref L lo n=>match lk s.o L with
  |some x=>if x.arr=true/\x.pin=false then some (s.frz L x,.list false false (cA x.xs lo n))else none
  |none=>none
 |a=>if a.pure=true then some (s,a)else none
def lH:ASt->List AV->Option (ASt×List AV)
 |s,[]=>some (s,[])
 |s,a::r=>match jL s a with
  |some (s1,b)=>match lH s1 r with
   |some (s2,bs)=>some (s2,b::bs)
   |none=>none
  |none=>none
def share (s:ASt):AV->Option (ASt×AV)
 | .agg cs=>match lH s cs with
  |some (s1,ds)=>some (s1,.agg ds)
  |none=>none
 |a=>jL s a
theorem U9 {F:Bool->aZ} {o:aF} {μ:Pl} {w:World} {L:Nat} {x:AObj} (hg:lk o L=some x) (ho:lF F (aE o μ) w x (μ L)) (ha:x.arr=true) (hz:x.fz=true) {lo n:Nat} {v:Value}
 (h:RV F (aE o μ) (.ref L lo n) v) (loc:Nat->Option LI):RV F loc (.list false false (cA x.xs lo n)) v:=by
 refine RV.row hg ho ha h (FLe.refl _) (fun b cap hm i y j a u hy hj hu=>?_) loc
 rw[hm]at ho
 obtain⟨c,e,q1,q2,q3,q4,q5,q6,q7⟩:=ho.std (fun hk=>by
  cases h with
  |ref g1=>simp only[aE,hg,Option.map_some]at g1;exact(fB (Option.some.inj g1)).2.2.2 hk
  |refNil g1=>simp only[aE,hg,Option.map_some]at g1;exact(fB (Option.some.inj g1)).2.2.2 hk)
 obtain⟨u',g1,g2,g3,g4⟩:=q6 i y j a hy hj
 have:u'=u:=by simp[World.cell?,q1,g1]at hu;exact hu
 subst this
 exact g4 hz
theorem aFe {C F μ} {s s':ASt} {a:Act} {w:World} (h:SR C F μ s a w) {x y:AV} (he:jL s x=some (s',y)):
 ∃F',FLe F F'/\SR C F' μ s' a w/\s'.n=s.n/\aE s'.o μ=aE s.o μ/\ ∀v,RV F (aE s.o μ) x v->RV F' bU y v:=by
 unfold jL at he
 split at he
 ·rename_i L lo n
  split at he
  ·rename_i xo hg
   split at he
   ·rename_i hc
    obtain⟨ha,hp⟩:=hc
    obtain⟨rfl,rfl⟩:=Prod.mk.inj (Option.some.inj he)
    obtain⟨F',h1,h2⟩:=h.freeze hg (.inl ha)
    have hloc:aE (s.frz L xo).o μ=aE s.o μ:=pO (x':=xo.frz) hg (fun _=>rfl)
    refine⟨F',h1,h2,rfl,hloc,fun v hv=>?_⟩
    have hg':lk (s.frz L xo).o L=some xo.frz:=by simp[ASt.frz,nJ]
    have:=U9 hg' (h2.sw.obj L xo.frz hg') (by exact ha) rfl (v:=v) (lo:=lo) (n:=n) (by rw[hloc];exact hv.mono h1) bU
    exact this
   ·cases he
  ·cases he
 ·split at he
  ·rename_i hp
   obtain⟨rfl,rfl⟩:=Prod.mk.inj (Option.some.inj he)
   exact⟨F,FLe.refl _,h,rfl,rfl,fun v hv=>RV.up (hv.shared hp) h.sw.sub⟩
  ·cases he
theorem aFf {C μ} {a:Act} {w:World}: ∀{cs ds:List AV} {F} {s s':ASt},SR C F μ s a w->lH s cs=some (s',ds)->
 ∃F',FLe F F'/\SR C F' μ s' a w/\s'.n=s.n/\aE s'.o μ=aE s.o μ/\ds.length=cs.length/\ ∀(i:Nat) (x y:AV) (v:Value),cs[i]?=some x->ds[i]?=some y->RV F (aE s.o μ) x v->RV F' bU y v
 | [],ds,F,s,s',h,he=>by
  simp[lH]at he
  obtain⟨rfl,rfl⟩:=he
  exact⟨F,FLe.refl _,h,rfl,rfl,rfl,fun i x y v hx=>by simp at hx⟩
 |c::cs,ds,F,s,s',h,he=>by
  simp only[lH]at he
  split at he
  ·rename_i s1 b h1
   split at he
   ·rename_i s2 bs h2
    obtain⟨rfl,rfl⟩:=Prod.mk.inj (Option.some.inj he)
    obtain⟨F1,a1,a2,a3,a4,a5⟩:=aFe h h1
    obtain⟨F2,b1,b2,b3,b4,b5,b6⟩:=aFf a2 h2
    refine⟨F2,a1.trans b1,b2,b3.trans a3,b4.trans a4,by simp[b5],fun i x y v hx hy hv=>?_⟩
    cases i with
    |zero=>simp at hx hy;subst hx;subst hy;exact(a5 v hv).mono b1
    |succ i=>simp at hx hy;exact b6 i x y v hx hy (by rw[a4];exact hv.mono a1)
   ·cases he
  ·cases he
theorem zF {C F μ} {s s':ASt} {a:Act} {w:World} (h:SR C F μ s a w) {x y:AV} (he:share s x=some (s',y)):
 ∃F',FLe F F'/\SR C F' μ s' a w/\s'.n=s.n/\aE s'.o μ=aE s.o μ/\ ∀v,RV F (aE s.o μ) x v->RV F' bU y v:=by
 unfold share at he
 split at he
 ·rename_i cs
  split at he
  ·rename_i s1 ds h1
   obtain⟨rfl,rfl⟩:=Prod.mk.inj (Option.some.inj he)
   obtain⟨F',b1,b2,b3,b4,b5,b6⟩:=aFf h h1
   refine⟨F',b1,b2,b3,b4,fun v hv=>?_⟩
   cases hv with
   |agg g1 g2 g3=>
    refine .agg (by omega) (fun i y u hy hu=>?_) g3
    have hi:i<cs.length:=by rw[<-b5];exact(List.getElem?_eq_some_iff.1 hy).1
    exact b6 i cs[i] y u (by simp[hi]) hy (g2 i cs[i] u (by simp[hi]) hu)
  ·cases he
 ·exact aFe h he
def Keeps (o o':aF):Prop:= ∀L x1,lk o' L=some x1-> ∃x,lk o L=some x/\x1.arr=x.arr/\x1.xs=x.xs/\x1.es=x.es/\x1.pin=x.pin
theorem Keeps.refl (o:aF):Keeps o o:=fun L x h=>⟨x,h,rfl,rfl,rfl,rfl⟩
theorem Keeps.trans {a b c:aF} (h:Keeps a b) (k:Keeps b c):Keeps a c:=fun L x hx=>by
 obtain⟨y,h1,h2,h3,h4,h5⟩:=k L x hx
 obtain⟨z,g1,g2,g3,g4,g5⟩:=h L y h1
 exact⟨z,g1,h2.trans g2,h3.trans g3,h4.trans g4,h5.trans g5⟩
theorem aFg {s s':ASt} {x y:AV} (he:jL s x=some (s',y)):Keeps s.o s'.o:=by
 unfold jL at he
 split at he
 ·split at he
  ·rename_i L lo n xo hg
   split at he
   ·obtain⟨rfl,rfl⟩:=Prod.mk.inj (Option.some.inj he)
    intro L' x1 h1
    simp only[ASt.frz,nJ]at h1
    split at h1
    ·rename_i hl
     subst hl
     obtain rfl:=Option.some.inj h1
     exact⟨xo,hg,rfl,rfl,rfl,rfl⟩
    ·exact⟨x1,h1,rfl,rfl,rfl,rfl⟩
   ·cases he
  ·cases he
 ·split at he
  ·obtain⟨rfl,rfl⟩:=Prod.mk.inj (Option.some.inj he)
   exact Keeps.refl _
  ·cases he
theorem aFh: ∀{cs ds:List AV} {s s':ASt},lH s cs=some (s',ds)->Keeps s.o s'.o
 | [],ds,s,s',he=>by simp[lH]at he;obtain⟨rfl,rfl⟩:=he;exact Keeps.refl _
 |c::cs,ds,s,s',he=>by
  simp only[lH]at he
  split at he
  ·rename_i s1 b h1
   split at he
   ·rename_i s2 bs h2
    obtain⟨rfl,rfl⟩:=Prod.mk.inj (Option.some.inj he)
    exact(aFg h1).trans (aFh h2)
   ·cases he
  ·cases he
theorem aQi {s s':ASt} {x y:AV} (he:share s x=some (s',y)):Keeps s.o s'.o:=by
 unfold share at he
 split at he
 ·split at he
  ·rename_i h1
   obtain⟨rfl,rfl⟩:=Prod.mk.inj (Option.some.inj he)
   exact aFh h1
  ·cases he
 ·exact aFg he
theorem RV.share {F:Bool->aZ} {y:AV} {v:Value} (h:RV F bU y v) (hp:y.pure=true):RV (Ab.sh F) bU y v:=h.shared hp
theorem aFi {y:AV} (h:y.pure=true) {j:Nat} {a:AV} (ha:y.cells[j]?=some a):a.pure=true:=by
 cases hy:y.isAgg with
 |true=>
  cases y with
  |agg cs=>exact G7 (show AV.pureL cs=true by simpa[AV.pure]using h) ha
  |_=>simp[AV.isAgg]at hy
 |false=>
  rw[H5 hy]at ha
  cases j with
  |zero=>simp at ha;subst ha;exact h
  |succ j=>simp at ha
def jA (a:AV):AObj:= {arr:=false,fz:=false,pin:=false,es:=a.cells.length,xs:= [a]}
def boxK (a:AV) (k:Nat):AObj:= {arr:=false,fz:=false,pin:=false,es:=a.cells.length,xs:= [a],kd:=k}
theorem Fresh.boxK {F loc} {a:AV} {v:Value} {k:Nat} {e:TypeId} (h:CV F loc a.cells v.cells) (hk:k=0\/k=e+2):Fresh F loc (Ab.boxK a k) v.cells 1 e:=by
 refine⟨by simp[Ab.boxK,h.len],by simp[Ab.boxK],by simp[Ab.boxK,dD],fun y hy=>by simp[Ab.boxK]at hy ⊢;rw[hy],fun i y j b hy hj=>?_,rfl,rfl,hk.imp_right fun h=>⟨h,fun _=>rfl⟩⟩
 have hi:i=0/\y=a:=by
  cases i with
  |zero=>simp[Ab.boxK]at hy;exact⟨rfl,hy.symm⟩
  |succ i=>simp[Ab.boxK]at hy
 obtain⟨rfl,rfl⟩:=hi
 have hlt:j<v.cells.size:=by rw[<-h.len];exact(List.getElem?_eq_some_iff.1 hj).1
 exact⟨v.cells[j],by simp[hlt],h.one j _ (by simp[hlt]),h.rv j b _ hj (by simp[hlt])⟩
theorem Fresh.box {F loc} {a:AV} {v:Value} {e:TypeId} (h:CV F loc a.cells v.cells):Fresh F loc (jA a) v.cells 1 e:=Fresh.boxK h (.inl rfl)
def aK (P:Program) (t:TypeId):Nat:=match P.info? t with
 |some i=>match i.desc with
  | .named n _=>if(n== "strings.Builder")=true then t+2 else 0
  |_=>0
 |none=>0
theorem aQj (P:Program) (t:TypeId):aK P t=0\/aK P t=t+2:=by
 unfold aK
 split
 ·split
  ·split
   ·exact .inr rfl
   ·exact .inl rfl
  ·exact .inl rfl
 ·exact .inl rfl
def aL (P:Program) (t:TypeId):Option AV:=(dQ P t).bind iZ
def V0 (P:Program) (t:TypeId):Option AV:=match dQ P t with
 |some (.agg cs)=>if cs.toList.all gD=true then some (.agg (cs.toList.map .sc))else none
 |_=>none
def zbS (k:Nat) (z r:Option AV):Option AV:=match k with
 |0=>z
 |_+1=>r
def V1 (P:Program) (t:TypeId):Option AV:=zbS (aK P t) (aL P t) (V0 P t)
theorem aQk {P:Program} {t:TypeId} {z:AV} (h:V1 P t=some z): ∃zv,dQ P t=some zv/\ ∀F loc,RV F loc z zv:=by
 unfold V1 zbS at h
 split at h
 ·unfold aL at h
  cases hzv:dQ P t with
  |none=>simp[hzv]at h
  |some zv=>simp[hzv]at h;exact⟨zv,rfl,fun F loc=>rS h⟩
 ·unfold V0 at h
  split at h
  ·rename_i cs hcs
   split at h
   ·rename_i hall
    obtain rfl:=Option.some.inj h
    refine⟨_,hcs,fun F loc=> .agg (by simp) (fun i a v ha hv=>?_) (fun i v hv=>?_)⟩
    ·simp only[List.getElem?_map,Array.getElem?_toList,Option.map_eq_some_iff]at ha
     obtain⟨u,hu,rfl⟩:=ha
     rw[hu]at hv
     obtain rfl:=Option.some.inj hv
     exact .sc (List.all_eq_true.1 hall u (List.mem_of_getElem? (by simpa using hu)))
    ·exact G8 (List.all_eq_true.1 hall v (List.mem_of_getElem? (i:=i) (by simpa using hv)))
   ·cases h
  ·cases h
def zG (P:Program) (t:TypeId) (d:Nat) (s:ASt):Option St:=
 match V1 P t with
 |some z=>if z.plain=true/\z.has d=false then some ⟨decide (d<s.n),s.fresh d (boxK z (aK P t)) (.ptr d 0 0)⟩else none
 |none=>none
theorem aFj {L:Nat} {a:AV} (h:a.has L=false):AV.hasL L [a]=false:=by simp[AV.hasL,h]
theorem aQl {P:Program} {C F μ} {s:ASt} {a:Act} {w:World} (h:SR C F μ s a w) {t:TypeId} {d:Nat} {r:St} (he:zG P t d s=some r) (hn:r.need):
 ∃v w' μ',(Instr.alloc t true (.tuple #[])).run P w= .ok v w'/\SR C F μ' r.st (a.put (some d) v) w':=by
 unfold zG at he
 split at he
 ·rename_i z hz
  split at he
  ·rename_i hc
   obtain⟨hp,hd⟩:=hc
   obtain rfl:=Option.some.inj he
   obtain⟨zv,hzv,hrv0⟩:=aQk hz
   ·have hrv:RV F (aE s.o μ) z zv:=hrv0 _ _
    refine⟨.pointer (some ⟨w.heap.size,0,none⟩),w.alloc (.cells zv.cells t (0,0)),bJ μ d (some (w.heap.size,1)),?_,?_⟩
    ·simp[Instr.alloc,rQ hzv,newVar,newRow]
    ·refine h.fresh (of_decide_eq_true hn) (Fresh.boxK (hrv.cv hp) (aQj P t)) (aFj hd) fun loc hl=>?_
     have:= @RV.ptr F loc d 0 0 w.heap.size 1 (boxK z (aK P t)).es (boxK z (aK P t)).xs.length hl (by simp[boxK])
     simpa using this
  ·cases he
 ·cases he
def zH (b:AV) (d:Nat) (s:ASt):Option St:=
 if b.plain=true/\b.has d=false then some ⟨decide (d<s.n),s.fresh d (jA b) (.ptr d 0 0)⟩else none
theorem aQm {P:Program} {C F μ} {s:ASt} {a:Act} {w:World} (h:SR C F μ s a w) {t:TypeId} {b:AV} {u:Value} (hb:RV F (aE s.o μ) b u) {d:Nat} {r:St} (he:zH b d s=some r) (hn:r.need):
 ∃v w' μ',(Instr.box t u).run P w= .ok v w'/\SR C F μ' r.st (a.put (some d) v) w':=by
 unfold zH at he
 split at he
 ·rename_i hc
  obtain⟨hp,hd⟩:=hc
  obtain rfl:=Option.some.inj he
  refine⟨.pointer (some ⟨w.heap.size,0,none⟩),w.alloc (.cells u.cells t (0,0)),bJ μ d (some (w.heap.size,1)),?_,?_⟩
  ·simp[Instr.box,newVar,newRow]
  ·refine h.fresh (of_decide_eq_true hn) (Fresh.box (hb.cv hp)) (aFj hd) fun loc hl=>?_
   have:= @RV.ptr F loc d 0 0 w.heap.size 1 (jA b).es (jA b).xs.length hl (by simp[jA])
   simpa using this
 ·cases he
end Go.Ab
namespace Go.Ab
open Go.RowKit
def kQ (y a:AV) (o:Nat):AV:=if o=0/\a.cells.length=y.cells.length/\a.isAgg=y.isAgg then a else .agg (splice y.cells a.cells o)
theorem aFk {y a:AV} {o:Nat} (h:o+a.cells.length<=y.cells.length):(kQ y a o).cells=splice y.cells a.cells o:=by
 unfold kQ
 split
 ·rename_i hc
  obtain⟨rfl,h1,_⟩:=hc
  simp[splice,h1]
 ·rfl
def xC (P:Program) (t:TypeId) (p a:AV) (s:ASt):Option St:=
 match p with
 | .ptr L i o=>match lk s.o L,aJ P t with
  |some x,some (_,size)=>match x.xs[i]? with
   |some y=>if x.fz=false/\a.plain=true/\a.cells.length=size/\o+size<=y.cells.length then
    if x.arr=true then match share s a with
     |some (s1,b)=>match lk s1.o L with
      |some x1=>if x1.fz=false/\b.pure=true/\b.cells.length=size/\b.plain=true then some ⟨true,{s1 with o:=bR s1.o L {x1 with xs:=x1.xs.set i (kQ y b o)}}⟩else none
      |none=>none
     |none=>none
    else some ⟨true,{s with o:=bR s.o L {x with xs:=x.xs.set i (kQ y a o)}}⟩
    else none
   |none=>none
  |_,_=>none
 |_=>none
theorem SR.lay {C F μ} {s:ASt} {a:Act} {w:World} (h:SR C F μ s a w) {L:Nat} {x:AObj} (hg:lk s.o L=some x) {b cap:Nat} (hm:μ L=some (b,cap)) (hk:x.kd≠1) (hz:x.fz=false) {i:Nat} {y:AV} (hy:x.xs[i]?=some y)
 {e:AV} {u:Value} (he:CV (oF x.arr F) (oL x.arr (aE s.o μ)) e.cells u.cells) {o:Nat} (ho:o+e.cells.length<=y.cells.length) {P:Program} {t:TypeId} {ag:Bool} (ht:aJ P t=some (ag,e.cells.length)):
 ∃w',(Instr.storeAt t (.pointer (some ⟨b,i*x.es+o,none⟩)) u).run P w= .ok () w'/\SR C F μ {s with o:=bR s.o L {x with xs:=x.xs.set i (kQ y e o)}} a w':=by
 have hob:=h.sw.obj L x hg
 rw[hm]at hob
 obtain⟨c,ty,q1,q2,q3,q4,q5,q6,q7⟩:=hob.std hk
 have hi:i<x.xs.length:=(List.getElem?_eq_some_iff.1 hy).1
 have hyl:y.cells.length=x.es:=q5 y (List.mem_of_getElem? hy)
 have hmul:(i+1)*x.es<=cap*x.es:=Nat.mul_le_mul_right _ (by omega)
 rw[Nat.add_mul]at hmul
 have hul:u.cells.toList.length=e.cells.length:=by simp[he.len]
 have hfit:i*x.es+o+0+u.cells.toList.length<=c.size:=by omega
 have hrun:=run_storeCells_at (P:=P) b (i*x.es+o) ty u.cells.toList 0 c w q1 hfit (fun v hv=>by
  obtain⟨j,hj⟩:=List.getElem?_of_mem hv
  exact he.one j v (by simpa using hj))
 let c':=(c.toList.take (i*x.es+o+0)++u.cells.toList++c.toList.drop (i*x.es+o+0+u.cells.toList.length)).toArray
 have hc'size:c'.size=c.size:=by
  simp only[c',List.size_toArray,List.length_append,List.length_take,List.length_drop,Array.length_toList]
  simp only[Array.length_toList]at hfit
  omega
 have hc'lk: ∀k,c'[k]?=if i*x.es+o<=k/\k<i*x.es+o+e.cells.length then u.cells[k - (i*x.es+o)]? else c[k]?:=by
  intro k
  have:=xA (cs:=c.toList) (ds:=u.cells.toList) (off:=i*x.es+o) (by simp;simp at hfit;omega) k
  simp only[splice]at this
  simp only[c',Nat.add_zero,List.getElem?_toArray]
  rw[this,hul]
  simp
 have hheap:(w.setRow b c').heap[b]?=some (.cells c' ty (0,0)):=setRow_heap w b c c' ty (0,0) q1
 have hloc:=pO (μ:=μ) (x':= {x with xs:=x.xs.set i (kQ y e o)}) hg (fun p=>nE (x:= {x with xs:=x.xs.set i (kQ y e o)}) (y:=x) rfl (by simp) rfl p)
 obtain⟨r1,r2⟩:=qK ht w
 refine⟨w.setRow b c',?_,?_⟩
 ·simp only[Instr.storeAt,Instr.sureAddr,Sem.run_bind,Sem.run_pure,Result.andThen_ok,storeVar,r2]
  rw[if_neg (by simp[<-he.len])]
  exact hrun
 ·refine⟨?_,h.defers,h.n,fun k z hk=>by rw[hloc];exact h.slot k z hk⟩
  refine h.sw.turn hg (fun p=>nE (x:= {x with xs:=x.xs.set i (kQ y e o)}) (y:=x) rfl (by simp) rfl p) rfl rfl hm hz (by exact hz) ⟨rfl,rfl,rfl,by simp,fun k hk hkb=>setRow_other w b k c' hkb,Nat.le_refl _⟩ (by simp) ?_
  refine .inl ⟨c',ty,hheap,by rw[hc'size];exact q2,by simpa using q3,by simpa using q4,?_,?_,q7⟩
  ·intro y' hy'
   rcases List.mem_or_eq_of_mem_set hy' with hh|rfl
   ·exact q5 y' hh
   ·rw[aFk ho,H3 ho,hyl]
  ·intro i' y' j a' hy' hj
   change ∃v,c'[i'*x.es+j]?=some v/\one v=true/\RV (oF x.arr F) (oL x.arr (aE s.o μ)) a' v/\(x.fz=true->F false b (i'*x.es+j)=some v)
   simp only[List.getElem?_set]at hy'
   by_cases hii:i=i'
   ·subst hii
    rw[if_pos rfl,if_pos hi]at hy'
    obtain rfl:=Option.some.inj hy'
    rw[aFk ho,xA ho]at hj
    have hjl:j<x.es:=by
     split at hj
     ·omega
     ·rw[<-hyl];exact(List.getElem?_eq_some_iff.1 hj).1
    rw[hc'lk]
    split at hj
    ·rename_i hc
     have hlt:j - o<u.cells.size:=by rw[<-he.len];exact(List.getElem?_eq_some_iff.1 hj).1
     have hgu:u.cells[j - o]?=some u.cells[j - o]:=by simp[hlt]
     refine⟨u.cells[j - o],?_,he.one (j - o) _ hgu,he.rv (j - o) _ _ hj hgu,fun hf=>by rw[hz]at hf;cases hf⟩
     rw[if_pos ⟨by omega,by omega⟩]
     rw[show i*x.es+j - (i*x.es+o)=j - o by omega]
     simp[hlt]
    ·rename_i hc
     obtain⟨v,g1,g2,g3,g4⟩:=q6 i y j a' hy hj
     refine⟨v,?_,g2,g3,g4⟩
     rw[if_neg (by omega)]
     exact g1
   ·rw[if_neg hii]at hy'
    obtain⟨v,g1,g2,g3,g4⟩:=q6 i' y' j a' hy' hj
    refine⟨v,?_,g2,g3,g4⟩
    have hjl:j<x.es:=by
     have:=q5 y' (List.mem_of_getElem? hy')
     rw[<-this];exact(List.getElem?_eq_some_iff.1 hj).1
    rw[hc'lk,if_neg ?_]
    ·exact g1
    ·rcases Nat.lt_or_gt_of_ne hii with hl|hl
     ·have:(i+1)*x.es<=i'*x.es:=Nat.mul_le_mul_right _ hl
      rw[Nat.add_mul]at this;omega
     ·have:(i'+1)*x.es<=i*x.es:=Nat.mul_le_mul_right _ hl
      rw[Nat.add_mul]at this;omega
theorem aQn {P:Program} {C F μ} {s:ASt} {a:Act} {w:World} (h:SR C F μ s a w) {t:TypeId} {p e:AV} {vp ve:Value} (hp:RV F (aE s.o μ) p vp) (hv:RV F (aE s.o μ) e ve) {r:St} (he:xC P t p e s=some r):
 ∃w' F' μ',(Instr.storeAt t vp ve).run P w= .ok () w'/\SR C F' μ' r.st a w':=by
 unfold xC at he
 split at he
 ·rename_i L i o
  split at he
  ·rename_i x ag size hg ht
   split at he
   ·rename_i y hy
    split at he
    ·rename_i hc
     obtain⟨hz,hpl,hsz,hle⟩:=hc
     have hloc:aE s.o μ L=some (bV x (μ L)):=by simp[aE,hg]
     cases hp with
     | @ptr _ _ _ _ _ b cap es len g1 g2=>
      rw[hloc]at g1
      obtain⟨hm,rfl,rfl,hk1⟩:=fB (Option.some.inj g1)
      split at he
      ·rename_i harr
       split at he
       ·rename_i s1 e1 hs1
        split at he
        ·rename_i x1 hg1
         split at he
         ·rename_i hc1
          obtain⟨hz1,hpu,hsz1,hpl1⟩:=hc1
          obtain rfl:=Option.some.inj he
          obtain⟨F',f1,f2,f3,f4,f5⟩:=zF h hs1
          have hloc1:aE s1.o μ L=some (bV x1 (μ L)):=by simp[aE,hg1]
          rw[f4,hloc]at hloc1
          have hl1:=Option.some.inj hloc1
          rw[lE hk1]at hl1
          obtain⟨-,hes',hlen,hk2⟩:=fB hl1.symm
          have hes:=hes'.symm
          have hx1:x1.arr=x.arr/\x1.xs=x.xs:=by
           obtain⟨x0,k0,k1,k2,_⟩:=aQi hs1 L x1 hg1
           rw[hg]at k0
           obtain rfl:=Option.some.inj k0
           exact⟨k1,k2⟩
          obtain⟨w',k1,k2⟩:=f2.lay hg1 hm hk2 hz1 (i:=i) (y:=y) (by rw[hx1.2];exact hy) (e:=e1) (u:=ve) (o:=o) (by
           rw[hx1.1,harr]
           exact((f5 ve hv).shared hpu).cv hpl1) (by omega) (ht.trans (by rw[hsz1]))
          exact⟨w',F',μ,by rw[hes];exact k1,k2⟩
         ·cases he
        ·cases he
       ·cases he
      ·rename_i harr
       obtain rfl:=Option.some.inj he
       have harr':x.arr=false:=by simpa using harr
       obtain⟨w',k1,k2⟩:=h.lay hg hm hk1 hz (i:=i) (y:=y) hy (e:=e) (u:=ve) (o:=o) (by rw[harr'];exact hv.cv hpl) (by omega) (ht.trans (by rw[hsz]))
       exact⟨w',F,μ,k1,k2⟩
    ·cases he
   ·cases he
  ·cases he
 ·cases he
end Go.Ab
namespace Go.Ab
open Go.RowKit
def ERow (F:Bool->aZ) (ys:List AV) (es:Nat) (cs:List Value):Prop:=
 cs.length=ys.length*es/\(∀y∈ys,y.cells.length=es)/\(∀v∈cs,one v=true)/\
 ∀(i:Nat) (y:AV) (j:Nat) (a:AV),ys[i]?=some y->y.cells[j]?=some a-> ∃v,cs[i*es+j]?=some v/\RV (sh F) bU a v
theorem ERow.nil {F es}:ERow F [] es []:=⟨by simp,by simp,by simp,fun i y j a h=>by simp at h⟩
theorem ERow.one {F es ys cs} (h:ERow F ys es cs) {k:Nat} {v:Value} (hv:cs[k]?=some v):one v=true:=h.2.2.1 v (List.mem_of_getElem? hv)
theorem ERow.append {F es ys zs cs ds} (h:ERow F ys es cs) (k:ERow F zs es ds):ERow F (ys++zs) es (cs++ds):=by
 obtain⟨h1,h2,h3,h4⟩:=h
 obtain⟨k1,k2,k3,k4⟩:=k
 refine⟨by simp[h1,k1,Nat.add_mul],fun y hy=>?_,fun v hv=>?_,fun i y j a hy hj=>?_⟩
 ·rcases List.mem_append.1 hy with hy|hy
  ·exact h2 y hy
  ·exact k2 y hy
 ·rcases List.mem_append.1 hv with hv|hv
  ·exact h3 v hv
  ·exact k3 v hv
 ·by_cases hi:i<ys.length
  ·rw[List.getElem?_append_left hi]at hy
   obtain⟨v,g1,g2⟩:=h4 i y j a hy hj
   refine⟨v,?_,g2⟩
   rw[List.getElem?_append_left (List.getElem?_eq_some_iff.1 g1).1]
   exact g1
  ·rw[List.getElem?_append_right (by omega)]at hy
   obtain⟨v,g1,g2⟩:=k4 _ y j a hy hj
   refine⟨v,?_,g2⟩
   have hmul:ys.length*es<=i*es:=Nat.mul_le_mul_right _ (by omega)
   rw[List.getElem?_append_right (by omega),h1]
   rw[Nat.sub_mul]at g1
   rw[show i*es+j - ys.length*es=i*es - ys.length*es+j by omega]
   exact g1
theorem ERow.load {F:Bool->aZ} {ys:List AV} {es b p:Nat} {w:World} (hes: ∀y∈ys,y.cells.length=es)
 (H: ∀(i:Nat) (y:AV) (j:Nat) (a:AV),ys[i]?=some y->y.cells[j]?=some a-> ∃v,w.cell? ⟨b,p+(i*es+j),none⟩=some v/\Ab.one v=true/\RV (sh F) bU a v) (P:Program):
 ∃cs,ERow F ys es cs/\(loadCells ⟨b,p,none⟩ (ys.length*es)).run P w= .ok cs.toArray w:=by
 have hcell: ∀k,k<ys.length*es-> ∃v,w.cell? ⟨b,p+k,none⟩=some v/\Ab.one v=true:=by
  intro k hk
  have hpos:0<es:=by
   rcases Nat.eq_zero_or_pos es with e|e
   ·subst e;simp at hk
   ·exact e
  have hi:k / es<ys.length:=Nat.div_lt_of_lt_mul (by rw[Nat.mul_comm];exact hk)
  have hj:k % es<es:=Nat.mod_lt _ hpos
  have hy:ys[k / es]?=some ys[k / es]:=by simp[hi]
  have hyl:ys[k / es].cells.length=es:=hes _ (List.getElem_mem hi)
  have ha:ys[k / es].cells[k % es]?=some (ys[k / es].cells[k % es]'(by omega)):=by simp[hyl,hj]
  obtain⟨v,g1,g2,g3⟩:=H _ _ _ _ hy ha
  rw[show k / es*es+k % es=k from by rw[Nat.mul_comm];exact Nat.div_add_mod k es]at g1
  exact⟨v,g1,g2⟩
 let f:Nat->Value:=fun k=>(w.cell? ⟨b,p+k,none⟩).getD .nilIface
 have hf: ∀k,k<ys.length*es->w.cell? ⟨b,p+k,none⟩=some (f k)/\Ab.one (f k)=true:=fun k hk=>by
  obtain⟨v,g1,g2⟩:=hcell k hk
  simp only[f,g1,Option.getD_some]
  exact⟨trivial,g2⟩
 refine⟨(List.range (ys.length*es)).map f,⟨by simp,hes,fun v hv=>?_,fun i y j a hy hj=>?_⟩,?_⟩
 ·obtain⟨k,hk,rfl⟩:=List.mem_map.1 hv
  exact(hf k (by simpa using hk)).2
 ·obtain⟨v,g1,g2,g3⟩:=H i y j a hy hj
  have hi:i<ys.length:=(List.getElem?_eq_some_iff.1 hy).1
  have hjl:j<es:=by rw[<-hes y (List.mem_of_getElem? hy)];exact(List.getElem?_eq_some_iff.1 hj).1
  have hlt:i*es+j<ys.length*es:=by
   have:(i+1)*es<=ys.length*es:=Nat.mul_le_mul_right _ hi
   rw[Nat.add_mul]at this;omega
  refine⟨v,?_,g3⟩
  rw[List.getElem?_map,List.getElem?_range hlt]
  simp[f,g1]
 ·have:=run_loadCells_list (P:=P) w ⟨b,p,none⟩ ((List.range (ys.length*es)).map f) (fun j v hv=>by
   obtain⟨hj,rfl⟩:=oH hv
   rw[nH]
   exact(hf j hj).1)
  simpa using this
def lI (o:aF):AV->Option (List AV)
 | .list _ _ ys=>some ys
 | .ref L lo n=>match lk o L with
  |some x=>if x.arr=true then some (cA x.xs lo n)else none
  |none=>none
 | .rc L lo n _=>match lk o L with
  |some x=>if x.arr=true/\lo+n<=x.xs.length then some (cA x.xs lo n)else none
  |none=>none
 |_=>none
theorem V2 {F:Bool->aZ} {o:aF} {μ:Pl} {L lo n:Nat} {x:AObj} {v:Value} (h:RV F (aE o μ) (.ref L lo n) v) (hg:lk o L=some x):x.kd≠1:=by
 cases h with
 |ref g1=>simp only[aE,hg,Option.map_some]at g1;exact(fB (Option.some.inj g1)).2.2.2
 |refNil g1=>simp only[aE,hg,Option.map_some]at g1;exact(fB (Option.some.inj g1)).2.2.2
theorem ObjAt.erow {F loc w} {x:AObj} {b cap:Nat} (h:ObjAt F loc w x b cap) (hk:x.kd≠1) (ha:x.arr=true) (hs:Sub F):(∀y∈x.xs,y.cells.length=x.es)/\
 ∀(i:Nat) (y:AV) (j:Nat) (a:AV),x.xs[i]?=some y->y.cells[j]?=some a-> ∃v,w.cell? ⟨b,i*x.es+j,none⟩=some v/\one v=true/\RV (sh F) bU a v:=by
 refine⟨by obtain⟨c,e,q1,q2,q3,q4,q5,q6,q7⟩:=h.std hk;exact q5,fun i y j a hy hj=>?_⟩
 obtain⟨v,g1,g2,g3⟩:=ObjAt.cell h hk hy hj
 rw[ha]at g3
 exact⟨v,g1,g2,g3⟩
def tS (c:UInt8):AV:= .sc (.int .u8 c.toNat)
def mC (o:aF):AV->Option (List AV)
 | .sc (.string s)=>some (s.data.toList.map tS)
 |a=>lI o a
theorem H6 {P:Program} {C F μ} {o:aF} {w:World} (hw:SW C F μ o w) {b:AV} {v:Value} {ys:List AV} (he:lI o b=some ys) (hb:RV F (aE o μ) b v) {es:Nat} (hes: ∀y∈ys,y.cells.length=es):
 (∃base c,v= .slice base ys.length c)/\ ∃cs,ERow F ys es cs/\(Builtin.firstCells es ys.length v).run P w= .ok cs.toArray w:=by
 unfold lI at he
 split at he
 ·rename_i l1 l2 xs
  obtain rfl:=Option.some.inj he
  cases hb with
  | @nil _ _ _ _ base=>
   refine⟨⟨base,0,rfl⟩,[],ERow.nil,?_⟩
   cases base<;>simp[Builtin.firstCells,loadCells,loadCellsFrom]
  | @list _ _ _ _ _ b o o' cap es' f g1 g2 g3 g4 g5 g6 g7 g8=>
   refine⟨⟨_,_,rfl⟩,?_⟩
   cases xs with
   |nil=>exact⟨[],ERow.nil,by simp[Builtin.firstCells,loadCells,loadCellsFrom]⟩
   |cons x xs=>
    have hee:es'=es:=(g1 x (by simp)).symm.trans (hes x (by simp))
    subst hee
    obtain rfl:=g5 (by simp)
    obtain⟨cs,k1,k2⟩:=ERow.load (F:=F) (ys:=x::xs) (es:=es') (b:=b) (p:=o') (w:=w) g1 (fun i y j a hy hj=>⟨f i j,by rw[<-Nat.add_assoc];exact hw.facts _ _ _ _ (g6 i y j a hy hj),g8 i y j a hy hj,g7 i y j a hy hj⟩) P
    exact⟨cs,k1,by simpa[Builtin.firstCells]using k2⟩
 ·rename_i L lo n
  split at he
  ·rename_i x hg
   split at he
   ·rename_i ha
    obtain rfl:=Option.some.inj he
    have hloc:aE o μ L=some (bV x (μ L)):=by simp[aE,hg]
    cases hb with
    | @refNil _ _ _ es0 len0 base g=>
     rw[hloc]at g
     obtain⟨hm,-,-,-⟩:=fB (Option.some.inj g)
     have ho:=hw.obj L x hg
     rw[hm]at ho
     have hx:x.xs= []:=ho
     rw[hx]
     refine⟨⟨base,0,rfl⟩,[],ERow.nil,?_⟩
     cases base<;>simp[Builtin.firstCells,loadCells,loadCellsFrom,cA]
    | @ref _ _ _ _ _ b cap es' len p c g1 g2 g3 g4 g5=>
     rw[hloc]at g1
     obtain⟨hm,rfl,rfl,hk1⟩:=fB (Option.some.inj g1)
     have hlen:=zE (xs:=x.xs) g2
     rw[hlen]
     refine⟨⟨_,_,rfl⟩,?_⟩
     rcases Nat.eq_zero_or_pos n with h0|h0
     ·subst h0
      have:cA x.xs lo 0= []:=List.length_eq_zero_iff.1 hlen
      rw[this]
      exact⟨[],ERow.nil,by simp[Builtin.firstCells,loadCells,loadCellsFrom]⟩
     ·have ho:=hw.obj L x hg
      rw[hm]at ho
      obtain⟨q1,q2⟩:=ObjAt.erow ho hk1 ha hw.sub
      have hget: ∀(i:Nat) (y:AV),(cA x.xs lo n)[i]?=some y->x.xs[lo+i]?=some y:=fun i y hy=>by
       rw[U8 g2]at hy
       split at hy
       ·exact hy
       ·cases hy
      have h0s:0<(cA x.xs lo n).length:=by omega
      have hee:x.es=es:=(q1 _ (xB (List.getElem_mem h0s))).symm.trans (hes _ (List.getElem_mem h0s))
      subst hee
      have hp:=g4 (.inl (by omega))
      obtain⟨cs,k1,k2⟩:=ERow.load (F:=F) (ys:=cA x.xs lo n) (es:=x.es) (b:=b) (p:=p) (w:=w) hes (fun i y j a hy hj=>by
       obtain⟨v,r1,r2,r3⟩:=q2 (lo+i) y j a (hget i y hy) hj
       refine⟨v,?_,r2,r3⟩
       rw[hp,<-Nat.add_assoc,<-Nat.add_mul];exact r1) P
      rw[hlen]at k2
      exact⟨cs,k1,by simpa[Builtin.firstCells]using k2⟩
   ·cases he
  ·cases he
 ·rename_i L lo n c
  split at he
  ·rename_i x hg
   split at he
   ·rename_i ha
    obtain⟨ha,hfit⟩:=ha
    obtain rfl:=Option.some.inj he
    have hloc:aE o μ L=some (bV x (μ L)):=by simp[aE,hg]
    cases hb with
    | @rc _ _ _ _ _ b cap es' len p g1 g2 g3=>
     rw[hloc]at g1
     obtain⟨hm,rfl,rfl,hk1⟩:=fB (Option.some.inj g1)
     have hlen:=zE (xs:=x.xs) hfit
     rw[hlen]
     refine⟨⟨_,_,rfl⟩,?_⟩
     rcases Nat.eq_zero_or_pos n with h0|h0
     ·subst h0
      have:cA x.xs lo 0= []:=List.length_eq_zero_iff.1 hlen
      rw[this]
      exact⟨[],ERow.nil,by simp[Builtin.firstCells,loadCells,loadCellsFrom]⟩
     ·have ho:=hw.obj L x hg
      rw[hm]at ho
      obtain⟨q1,q2⟩:=ObjAt.erow ho hk1 ha hw.sub
      have hget: ∀(i:Nat) (y:AV),(cA x.xs lo n)[i]?=some y->x.xs[lo+i]?=some y:=fun i y hy=>by
       rw[U8 hfit]at hy
       split at hy
       ·exact hy
       ·cases hy
      have h0s:0<(cA x.xs lo n).length:=by omega
      have hee:x.es=es:=(q1 _ (xB (List.getElem_mem h0s))).symm.trans (hes _ (List.getElem_mem h0s))
      subst hee
      have hp:=g3 (by omega)
      obtain⟨cs,k1,k2⟩:=ERow.load (F:=F) (ys:=cA x.xs lo n) (es:=x.es) (b:=b) (p:=p) (w:=w) hes (fun i y j a hy hj=>by
       obtain⟨v,r1,r2,r3⟩:=q2 (lo+i) y j a (hget i y hy) hj
       refine⟨v,?_,r2,r3⟩
       rw[hp,<-Nat.add_assoc,<-Nat.add_mul];exact r1) P
      rw[hlen]at k2
      exact⟨cs,k1,by simpa[Builtin.firstCells]using k2⟩
   ·cases he
  ·cases he
 ·cases he
def cK (o:aF) (L:Nat):aF:=o.filter fun p=> !decide (p.1=L)
theorem qN: ∀(o:aF) (L i:Nat),lk (cK o L) i=if L=i then none else lk o i
 | [],L,i=>by simp[cK,lk]
 |(k,x)::o,L,i=>by
  simp only[cK,List.filter_cons]
  by_cases hk:k=L
  ·subst hk
   simp only[decide_true,Bool.not_true,Bool.false_eq_true,if_false]
   have:=qN o k i
   simp only[cK]at this
   rw[this]
   by_cases hi:k=i
   ·simp[hi]
   ·simp[hi,lk]
  ·simp only[hk,decide_false,Bool.not_false,if_true,lk]
   have:=qN o L i
   simp only[cK]at this
   rw[this]
   by_cases hki:k=i
   ·subst hki;simp[Ne.symm hk]
   ·simp[hki]
theorem aFl {L T:Nat} {a:AV} (h:(kt L a).has T=true):a.has T=true:=by
 unfold kt at h
 split at h
 ·simp[AV.has]at h
 ·exact h
theorem H7 {f:AV->AV} {T:Nat} (hf: ∀a,(f a).has T=true->a.has T=true): ∀{cs:List AV},AV.hasL T (cs.map f)=true->AV.hasL T cs=true
 | [],h=>by simp[AV.hasL]at h
 |c::cs,h=>by
  simp only[List.map_cons,AV.hasL,Bool.or_eq_true]at h ⊢
  exact h.imp (hf c) (H7 hf)
theorem aFm {L T:Nat} {a:AV} (h:(kl L a).has T=true):a.has T=true:=by
 unfold kl at h
 split at h
 ·simp only[AV.has]at h ⊢;exact H7 (fun _=>aFl) h
 ·exact aFl h
theorem aFn {L T:Nat} {a:AV} (h:(kill1 L a).has T=true):a.has T=true:=by
 cases ha:a.isAgg with
 |true=>
  cases a with
  |agg cs=>simp only[kill1,AV.has]at h ⊢;exact H7 (fun _=>aFm) h
  |_=>simp[AV.isAgg]at ha
 |false=>
  have:kill1 L a=kl L a:=by cases a<;>first|rfl|(simp[AV.isAgg]at ha)
  rw[this]at h
  exact aFm h
theorem aQo {L T:Nat} {x:AObj} (h:AV.hasL T (dO L x).xs=true):AV.hasL T x.xs=true:=by
 unfold dO at h
 split at h
 ·exact h
 ·exact H7 (fun _=>aFn) h
def ASt.renew (s:ASt) (L T d:Nat) (x:AObj) (r:AV):ASt:= {n:=s.n,t:=(d,r)::gE L (gE T s.t),o:=(T,x)::killO L (killO T (cK s.o L))}
def ASt.renew0 (s:ASt) (L T:Nat) (x:AObj):ASt:= {n:=s.n,t:=gE L (gE T s.t),o:=(T,x)::killO L (killO T (cK s.o L))}
structure Nb (C:Cx) (F:Bool->aZ) (μ:Pl) (o:aF) (b:Nat):Prop where
 mine:C.w0.heap.size<=b
 excl: ∀l k,F l b k=none
 free: ∀i y c,lk o i=some y->μ i=some (b,c)->False
theorem SW.nb {C F μ} {o:aF} {w:World} (h:SW C F μ o w) {b:Nat} (hb:w.heap.size<=b):Nb C F μ o b:=by
 refine⟨Nat.le_trans h.fr.size hb,fun l k=>?_,fun i y c hy hm=>?_⟩
 ·cases hF:F l b k with
  |none=>rfl
  |some u=>have:=pI (h.facts l b k u hF);omega
 ·have:=h.obj i y hy
  rw[hm]at this
  obtain⟨_,g⟩:=ObjAt.lt this
  have:=gJ g;omega
theorem SR.renew0x {C F μ} {s:ASt} {a:Act} {w w':World} (h:SR C F μ s a w) {L T:Nat} {x:AObj} {p:Option (Nat×Nat)} (hz:x.fz=false) (hpin:x.pin=false)
 (hw:Fr (fun k=> ∃y c,lk s.o L=some y/\y.fz=false/\μ L=some (k,c)) w w')
 (ho:lF F bU w' x p) (hp: ∀b c,p=some (b,c)->Nb C F μ s.o b\/ ∃y c',lk s.o L=some y/\y.fz=false/\μ L=some (b,c')):
 SR C F (bJ μ T p) (s.renew0 L T x) a w':=by
 have hsw:=h.sw
 have hlt: ∀l b k u,F l b k=some u->b<w.heap.size:=fun l b k u hu=>pI (hsw.facts l b k u hu)
 have hget: ∀i,lk (s.renew0 L T x).o i=if T=i then some x else if L=i then none else(lk s.o i).map (fun y=>dO L (dO T y)):=fun i=>by
  simp only[ASt.renew0,lk,rX,qN]
  by_cases h1:T=i
  ·simp[h1]
  ·by_cases h2:L=i
   ·simp[h1,h2]
   ·simp[h1,h2,Option.map_map];rfl
 have hkx: ∀y:AObj,(dO L (dO T y)).es=y.es/\(dO L (dO T y)).xs.length=y.xs.length/\(dO L (dO T y)).pin=y.pin/\(dO L (dO T y)).fz=y.fz/\(dO L (dO T y)).arr=y.arr:=fun y=>by
  obtain⟨a1,a2,a3,a4,a5⟩:=pM L (dO T y)
  obtain⟨b1,b2,b3,b4,b5⟩:=pM T y
  exact⟨a1.trans b1,a2.trans b2,a3.trans b3,a4.trans b4,a5.trans b5⟩
 have hloc: ∀i,i≠T->i≠L->aE (s.renew0 L T x).o (bJ μ T p) i=aE s.o μ i:=fun i h1 h2=>by
  simp only[aE,hget,if_neg (Ne.symm h1),if_neg (Ne.symm h2),bJ,if_neg h1,Option.map_map]
  congr 1
  funext y
  exact(rW L (dO T y) _).trans (rW T y _)
 have hlocT:aE (s.renew0 L T x).o (bJ μ T p) T=some (bV x (p)):=by simp[aE,hget,bJ]
 have hblk: ∀i y b cc,lk s.o i=some y->μ i=some (b,cc)->b<w.heap.size:=fun i y b cc hy hm=>by
  have:=hsw.obj i y hy
  rw[hm]at this
  obtain⟨_,g⟩:=ObjAt.lt this
  exact gJ g
 have hnb: ∀i y b cc,lk s.o i=some y->μ i=some (b,cc)->i≠L-> ¬ ∃y c,lk s.o L=some y/\y.fz=false/\μ L=some (b,c):=fun i y b cc hy hm hne ⟨z,c,hz1,_,hz2⟩=>hne (hsw.dist i y L z b cc c hy hz1 hm hz2)
 refine⟨⟨?_,hsw.sub,hsw.lentc,hsw.grow,hsw.newf,?_,?_,?_,?_,?_,?_⟩,h.defers,h.n,?_⟩
 ·intro l b k u hu
  rw[qG (hw.block b (hlt l b k u hu) ?_)]
  ·exact hsw.facts l b k u hu
  ·rintro⟨y,c,hy,hyz,hm⟩
   rw[hsw.excl L y b c hy hm hyz l k]at hu;cases hu
 ·refine hsw.fr.trans hw fun k hk ⟨y,c,hy,_,hm⟩=>?_
  rcases hsw.mine L y k c hy hm with hh|hh
  ·omega
  ·exact hh
 ·intro i y hy
  rw[hget]at hy
  by_cases h1:T=i
  ·rw[if_pos h1]at hy
   obtain rfl:=Option.some.inj hy
   subst h1
   simp only[bJ,if_true]
   cases p with
   |none=>exact ho
   |some q=>
    obtain⟨b,cap⟩:=q
    rcases ho with⟨c,e,q1,q2,q3,q4,q5,q6,q7⟩|ho|ho
    rotate_left
    ·exact .inr (.inl ho)
    ·refine .inr (.inr (ho.congr rfl (FLe.refl _) fun L' hL'=>?_))
     obtain⟨_,_,r,_,ho⟩:=ho
     exact(ho.noL L' hL').elim
    refine .inl ⟨c,e,q1,q2,q3,q4,q5,fun i y j a hy hj=>?_,q7⟩
    obtain⟨u,g1,g2,g3,g4⟩:=q6 i y j a hy hj
    refine⟨u,g1,g2,?_,g4⟩
    cases harr:x.arr with
    |true=>rw[harr]at g3;exact g3
    |false=>
     rw[harr]at g3
     have g3':RV F bU a u:=g3
     exact g3'.congr (FLe.refl _) fun L hL=>(g3'.noloc_has (fun _=>rfl) L hL).elim
  ·rw[if_neg h1]at hy
   by_cases h2:L=i
   ·rw[if_pos h2]at hy;cases hy
   ·rw[if_neg h2]at hy
    simp only[Option.map_eq_some_iff]at hy
    obtain⟨y',hy',rfl⟩:=hy
    have hoy:=hsw.obj i y' hy'
    simp only[bJ,if_neg (Ne.symm h1)]
    cases hm:μ i with
    |none=>
     rw[hm]at hoy
     have:(dO L (dO T y')).xs.length=y'.xs.length:=(hkx y').2.1
     simp only[lF]at hoy ⊢
     rw[hoy]at this
     exact List.length_eq_zero_iff.1 this
    |some q=>
     obtain⟨b,cc⟩:=q
     rw[hm]at hoy
     obtain⟨g1,g2⟩:=ObjAt.kill hoy T
     obtain⟨g3,g4⟩:=ObjAt.kill g1 L
     refine g3.congr (hw.block b (hblk i y' b cc hy' hm) (hnb i y' b cc hy' hm (Ne.symm h2))) (FLe.refl _) fun L' hL'=>hloc L' ?_ ?_
     ·rintro rfl
      rw[aQo hL']at g2;cases g2
     ·rintro rfl
      rw[g4]at hL';cases hL'
 ·intro i y i' y' b cc cc' hy hy' hm hm'
  rw[hget]at hy hy'
  simp only[bJ]at hm hm'
  by_cases h1:T=i
  ·by_cases h1':T=i'
   ·rw[<-h1,<-h1']
   ·rw[if_neg h1']at hy'
    rw[if_neg (Ne.symm h1')]at hm'
    rw[if_pos h1.symm]at hm
    by_cases h2':L=i'
    ·rw[if_pos h2']at hy';cases hy'
    ·rw[if_neg h2']at hy'
     simp only[Option.map_eq_some_iff]at hy'
     obtain⟨z,hz',_⟩:=hy'
     rcases hp b cc hm with hh|hh
     ·exact(hh.free i' z cc' hz' hm').elim
     ·exact(hnb i' z b cc' hz' hm' (Ne.symm h2') hh).elim
  ·rw[if_neg h1]at hy
   rw[if_neg (Ne.symm h1)]at hm
   by_cases h2:L=i
   ·rw[if_pos h2]at hy;cases hy
   ·rw[if_neg h2]at hy
    simp only[Option.map_eq_some_iff]at hy
    obtain⟨z1,hz1,_⟩:=hy
    by_cases h1':T=i'
    ·rw[if_pos h1'.symm]at hm'
     rcases hp b cc' hm' with hh|hh
     ·exact(hh.free i z1 cc hz1 hm).elim
     ·exact(hnb i z1 b cc hz1 hm (Ne.symm h2) hh).elim
    ·rw[if_neg h1']at hy'
     rw[if_neg (Ne.symm h1')]at hm'
     by_cases h2':L=i'
     ·rw[if_pos h2']at hy';cases hy'
     ·rw[if_neg h2']at hy'
      simp only[Option.map_eq_some_iff]at hy'
      obtain⟨z2,hz2,_⟩:=hy'
      exact hsw.dist i z1 i' z2 b cc cc' hz1 hz2 hm hm'
 ·intro i y b cc hy hm hyz l k
  rw[hget]at hy
  simp only[bJ]at hm
  by_cases h1:T=i
  ·rw[if_pos h1.symm]at hm
   rcases hp b cc hm with hh|⟨z,c',hz1,hzf,hz2⟩
   ·exact hh.excl l k
   ·exact hsw.excl L z b c' hz1 hz2 hzf l k
  ·rw[if_neg h1]at hy
   rw[if_neg (Ne.symm h1)]at hm
   by_cases h2:L=i
   ·rw[if_pos h2]at hy;cases hy
   ·rw[if_neg h2]at hy
    simp only[Option.map_eq_some_iff]at hy
    obtain⟨z1,hz1,rfl⟩:=hy
    exact hsw.excl i z1 b cc hz1 hm (by rw[<-(hkx z1).2.2.2.1];exact hyz) l k
 ·intro i y b cc hy hm
  rw[hget]at hy
  simp only[bJ]at hm
  by_cases h1:T=i
  ·rw[if_pos h1.symm]at hm
   rcases hp b cc hm with hh|⟨z,c',hz1,_,hz2⟩
   ·exact .inl hh.mine
   ·exact hsw.mine L z b c' hz1 hz2
  ·rw[if_neg h1]at hy
   rw[if_neg (Ne.symm h1)]at hm
   by_cases h2:L=i
   ·rw[if_pos h2]at hy;cases hy
   ·rw[if_neg h2]at hy
    simp only[Option.map_eq_some_iff]at hy
    obtain⟨z1,hz1,rfl⟩:=hy
    exact hsw.mine i z1 b cc hz1 hm
 ·intro i y x0 h0 hy hpp
  rw[hget]at hy
  by_cases h1:T=i
  ·rw[if_pos h1]at hy
   obtain rfl:=Option.some.inj hy
   rw[hpin]at hpp;cases hpp
  ·rw[if_neg h1]at hy
   by_cases h2:L=i
   ·rw[if_pos h2]at hy;cases hy
   ·rw[if_neg h2]at hy
    simp only[Option.map_eq_some_iff]at hy
    obtain⟨z1,hz1,rfl⟩:=hy
    obtain⟨g1,g2,g3,g4,g5⟩:=hkx z1
    have:=hsw.keep i z1 x0 h0 hz1 (by rw[<-g3];exact hpp)
    simp only[bJ,if_neg (Ne.symm h1),rW,g5]
    exact this
 ·intro i y hy
  simp only[ASt.renew0]at hy
  rw[zC,zC]at hy
  simp only[Option.map_map,Option.map_eq_some_iff]at hy
  obtain⟨y',hy',rfl⟩:=hy
  refine((h.slot i y' hy').kill1 (L:=T)).kill1.congr (FLe.refl _) fun L' hL'=>hloc L' ?_ ?_
  ·rintro rfl
   have:=aFn hL'
   rw[H4]at this;cases this
  ·rintro rfl
   simp[H4]at hL'
theorem SR.renew0 {C F μ} {s:ASt} {a:Act} {w w':World} (h:SR C F μ s a w) {L T:Nat} {x:AObj} {p:Option (Nat×Nat)} (hz:x.fz=false) (hpin:x.pin=false) (harr:x.arr=true)
 (hw:Fr (fun k=> ∃y c,lk s.o L=some y/\y.fz=false/\μ L=some (k,c)) w w')
 (ho:lF F bU w' x p) (hp: ∀b c,p=some (b,c)->Nb C F μ s.o b\/ ∃y c',lk s.o L=some y/\y.fz=false/\μ L=some (b,c')):
 SR C F (bJ μ T p) (s.renew0 L T x) a w':=h.renew0x hz hpin hw ho hp
theorem SR.renew {C F μ} {s:ASt} {a:Act} {w w':World} (h:SR C F μ s a w) {L T d:Nat} (hd:d<s.n) {x:AObj} {p:Option (Nat×Nat)} (hz:x.fz=false) (hpin:x.pin=false) (harr:x.arr=true)
 (hw:Fr (fun k=> ∃y c,lk s.o L=some y/\y.fz=false/\μ L=some (k,c)) w w')
 (ho:lF F bU w' x p) (hp: ∀b c,p=some (b,c)->Nb C F μ s.o b\/ ∃y c',lk s.o L=some y/\y.fz=false/\μ L=some (b,c')) {r:AV} {v:Value} (hr: ∀loc:Nat->Option LI,loc T=some (bV x (p))->RV F loc r v):
 SR C F (bJ μ T p) (s.renew L T d x r) (a.put (some d) v) w':=
 (h.renew0 hz hpin harr hw ho hp).put (s:=s.renew0 L T x) hd (hr _ (by simp[aE,ASt.renew0,lk,bJ]))
end Go.Ab
