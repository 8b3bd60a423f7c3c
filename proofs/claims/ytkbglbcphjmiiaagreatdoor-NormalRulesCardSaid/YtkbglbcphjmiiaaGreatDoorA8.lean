import Derived.Test.YtkbglbcphjmiiaaGreatDoorA7
set_option linter.unusedSimpArgs false
set_option linter.unusedVariables false
namespace Go.Ab
open Go.RowKit
def LH.st (h:LH) (st:LoopState) (pd:Option Code):LH:= {h with state:=st,pending:=pd}
theorem st_st {h:LH} {a b c d}:(h.st a b).st c d=h.st c d:=rfl
theorem st_state {h:LH} {a b}:(h.st a b).state=a:=rfl
theorem st_pending {h:LH} {a b}:(h.st a b).pending=b:=rfl
theorem st_params {h:LH} {a b}:(h.st a b).params=h.params:=rfl
theorem st_assign {h:LH} {a b}:(h.st a b).assign=h.assign:=rfl
theorem st_body {h:LH} {a b}:(h.st a b).body=h.body:=rfl
theorem st_n {h:LH} {a b}:(h.st a b).n=h.n:=rfl
theorem st_ks {h:LH} {a b}:(h.st a b).ks=h.ks:=rfl
attribute [go_sem] st_st st_state st_pending st_params st_assign st_body st_n st_ks
theorem kl_yl {L L':Nat}:kl L (.yl L')=if L=L' then .dead else .yl L':=by simp[kl,AV.has]
theorem kill1_yl {L L':Nat}:kill1 L (.yl L')=if L=L' then .dead else .yl L':=kl_yl
theorem kl_lh {L:Nat} {h:LH}:kl L (.lh h)= .lh h:=by simp[kl,AV.has]
theorem kill1_lh {L:Nat} {h:LH}:kill1 L (.lh h)= .lh h:=kl_lh
theorem okIn_yl {o:Objs} {L:Nat}:(AV.yl L).okIn o=(lk o L).isSome:=rfl
theorem okIn_lh {o:Objs} {h:LH}:(AV.lh h).okIn o=true:=rfl
theorem has_yl {L L':Nat}:(AV.yl L').has L=(L==L'):=by simp[AV.has]
theorem has_lh {L:Nat} {h:LH}:(AV.lh h).has L=false:=by simp[AV.has]
theorem cells_yl {L:Nat}:(AV.yl L).cells= [.yl L]:=rfl
theorem cells_dead:AV.dead.cells= [.dead]:=rfl
theorem isAgg_dead:AV.dead.isAgg=false:=rfl
theorem cells_mp {L:Nat}:(AV.mp L).cells= [.mp L]:=rfl
theorem isAgg_mp {L:Nat}:(AV.mp L).isAgg=false:=rfl
theorem isAgg_yl {L:Nat}:(AV.yl L).isAgg=false:=rfl
theorem cells_lh {h:LH}:(AV.lh h).cells= [.lh h]:=rfl
theorem ren_lh {σ:Nat→Nat} {h:LH}:(AV.lh h).ren σ= .lh h:=rfl
theorem ren_yl {σ:Nat→Nat} {L:Nat}:(AV.yl L).ren σ= .yl (σ L):=rfl
theorem labs_lh {p:Nat→Bool} {h:LH}:(AV.lh h).labs p=true:=rfl
theorem labs_yl {p:Nat→Bool} {L:Nat}:(AV.yl L).labs p=p L:=rfl
attribute [go_sem] kl_yl kill1_yl kl_lh kill1_lh okIn_yl okIn_lh has_yl has_lh cells_yl isAgg_yl cells_dead isAgg_dead cells_mp isAgg_mp cells_lh ren_lh ren_yl labs_lh labs_yl
def putO (L:Nat) (x:AObj):Objs→Objs
 | []=> []
 |p::r=>if p.1=L then(p.1,x)::putO L x r else p::putO L x r
theorem putO_nil {L:Nat} {x:AObj}:putO L x []= []:=rfl
theorem putO_cons {L:Nat} {x:AObj} {p:Nat×AObj} {r:Objs}:putO L x (p::r)=if p.1=L then(p.1,x)::putO L x r else p::putO L x r:=rfl
attribute [go_sem] putO_nil putO_cons
theorem lk_putO {L:Nat} {x:AObj}: ∀{o:Objs} {i:Nat},(lk o L).isSome=true→lk (putO L x o) i=lk (setO o L x) i
 | [],i,h=>by simp[lk]at h
 |(k,y)::r,i,h=>by
  simp only[putO,setO,lk]at h ⊢
  by_cases hk:k=L
  ·subst hk
   rw[if_pos rfl]
   simp only[lk]
   by_cases hi:k=i
   ·rw[if_pos hi,if_pos hi]
   ·rw[if_neg hi,if_neg hi,if_neg hi]
    by_cases hs:(lk r k).isSome=true
    ·rw[lk_putO hs];simp only[setO,lk,if_neg hi]
    ·have: ∀{r:Objs} {i:Nat},lk r k=none→lk (putO k x r) i=lk r i:=fun {r} {i} hr=>by
      induction r with
      |nil=>rfl
      |cons q r ih=>
       obtain⟨k',y'⟩:=q
       simp only[lk]at hr
       by_cases hk':k'=k
       ·rw[if_pos hk']at hr;cases hr
       ·rw[if_neg hk']at hr
        simp only[putO,if_neg hk',lk,ih hr]
     exact this (by simpa using hs)
  ·rw[if_neg hk]at h ⊢
   simp only[lk]
   by_cases hi:k=i
   ·rw[if_pos hi,if_neg (by omega),if_pos hi]
   ·rw[if_neg hi,lk_putO h]
    simp only[setO,lk,if_neg hi]
def noLoops (o:Objs):Bool:=o.all fun p=>p.2.arr|| !(decide (p.2.kd=1))
theorem noLoops_nil:noLoops []=true:=rfl
theorem noLoops_cons {p:Nat×AObj} {o:Objs}:noLoops (p::o)=((p.2.arr|| !(decide (p.2.kd=1)))&&noLoops o):=rfl
attribute [go_sem] noLoops_nil noLoops_cons
def jumpQ (Q:Exit→ASt→Prop):Option Code→ASt→Prop
 |none,s=>Q .normal s
 |some .ret,s=>Q .ret s
 |some (.exit id),s=>Q (.exit id) s
 |_,_=>False
theorem Le.nilBox {s:ASt} (L T es:Nat) {l pin:Bool} {e0 kd:Nat} (h:lk s.o L=some ⟨false,false,pin,e0,[.list l true []],kd⟩) (hL:L≠T) (hk:kd≠1):
 Le {n:=s.n,t:=killT T (killT T s.t),o:=(L,⟨false,false,pin,e0,[.ref T 0 0],kd⟩)::(T,arrO es [])::killO T (killO T (del s.o T))} s:=by
 intro C F μ a w hs
 have h1:=hs.renew0 (L:=T) (T:=T) (x:=arrO es []) (p:=none) rfl rfl rfl (Fr.refl _ _) (by rfl) (fun b c hbc=>by cases hbc)
 have hl:locOf ((T,arrO es [])::killO T (killO T (del s.o T))) (upd μ T none) T=some ⟨none,es,0,false⟩:=by simp[locOf,lk,upd,arrO,locO]
 have hx:lk ((T,arrO es [])::killO T (killO T (del s.o T))) L=some ⟨false,false,pin,e0,[.list l true []],kd⟩:=by
  simp only[lk,if_neg (Ne.symm hL),get_killO,get_del,h]
  simp[killX,kill1,Ab.kl,AV.has]
 have ho:=h1.sw.obj L _ hx
 cases hm:upd μ T none L with
 |none=>rw[hm]at ho;cases ho
 |some q=>
  obtain⟨b,cap⟩:=q
  rw[hm]at ho
  obtain⟨c,e,q1,q2,q3,q4,q5,q6,q7⟩:=ObjAt.std ho hk
  have hes:1=e0:=q5 (.list l true []) (by simp)
  subst hes
  have hsw:=h1.sw.turn (x':=⟨false,false,pin,1,[.ref T 0 0],kd⟩) hx (fun p=>by simp[locO]) rfl rfl hm rfl rfl (Fr.refl _ _) rfl (by
   refine .inl ⟨c,e,q1,q2,q3,q4,fun y hy=>?_,fun i y j x hy hj=>?_,q7⟩
   ·simp at hy;subst hy;rfl
   ·cases i with
    |succ i=>simp at hy
    |zero=>
     simp at hy
     subst hy
     cases j with
     |succ j=>simp[AV.cells]at hj
     |zero=>
      simp[AV.cells]at hj
      subst hj
      obtain⟨v,g1,g2,g3,g4⟩:=q6 0 (.list l true []) 0 _ rfl rfl
      refine⟨v,g1,g2,?_,fun hz=>by cases hz⟩
      have g3:RV F (locOf ((T,arrO es [])::killO T (killO T (del s.o T))) (upd μ T none)) (.list l true []) v:=g3
      show RV F (locOf ((T,arrO es [])::killO T (killO T (del s.o T))) (upd μ T none)) (.ref T 0 0) v
      cases g3 with
      |nil=>exact .refNil hl
      |list k1 k2 k3 k4=>
       have:=k4 rfl
       simp at this
       subst this
       exact .refNil hl)
  refine⟨F,upd μ T none,hsw,h1.defers,h1.n,fun i x hi=>?_⟩
  have hle:locOf ((L,⟨false,false,pin,1,[.ref T 0 0],kd⟩)::(T,arrO es [])::killO T (killO T (del s.o T))) (upd μ T none)=locOf ((T,arrO es [])::killO T (killO T (del s.o T))) (upd μ T none):=by
   funext M
   by_cases hM:L=M
   ·subst hM;simp only[locOf,hx];simp[lk,locO]
   ·simp only[locOf,lk,if_neg hM]
  rw[hle]
  exact h1.slot i x hi
theorem jumpQ_none {Q:Exit→ASt→Prop} {s:ASt}:jumpQ Q none s=Q .normal s:=rfl
theorem jumpQ_ret {Q:Exit→ASt→Prop} {s:ASt}:jumpQ Q (some .ret) s=Q .ret s:=rfl
theorem jumpQ_exit {Q:Exit→ASt→Prop} {s:ASt} {id:Nat}:jumpQ Q (some (.exit id)) s=Q (.exit id) s:=rfl
attribute [go_sem] jumpQ_none jumpQ_ret jumpQ_exit
theorem kl_rc {L L' a b c:Nat}:kl L (.rc L' a b c)=if L=L' then .dead else .rc L' a b c:=by simp[kl,AV.has]
theorem kill1_rc {L L' a b c:Nat}:kill1 L (.rc L' a b c)=if L=L' then .dead else .rc L' a b c:=kl_rc
theorem okIn_rc {o:Objs} {L a b c:Nat}:(AV.rc L a b c).okIn o=(lk o L).isSome:=rfl
theorem has_rc {L L' a b c:Nat}:(AV.rc L' a b c).has L=(L==L'):=by simp[AV.has]
theorem cells_rc {L a b c:Nat}:(AV.rc L a b c).cells= [.rc L a b c]:=rfl
theorem isAgg_rc {L a b c:Nat}:(AV.rc L a b c).isAgg=false:=rfl
theorem ren_rc {σ:Nat→Nat} {L a b c:Nat}:(AV.rc L a b c).ren σ= .rc (σ L) a b c:=rfl
theorem labs_rc {p:Nat→Bool} {L a b c:Nat}:(AV.rc L a b c).labs p=p L:=rfl
theorem lenA_rc {P:Program} {t:TypeId} {L lo n c:Nat}:lenA P t (.rc L lo n c)=lenS (tyEl P t) n:=rfl
theorem capA_rc {P:Program} {t:TypeId} {L lo n c:Nat}:capA P t (.rc L lo n c)=lenS (tyEl P t) (c - lo):=rfl
def sliceRcS (d:Option (TypeId×Nat×Nat)) (x:Option AObj) (l h:Option Int) (L b c:Nat):Option Sv:=match d,x,l,h with
 |some (_,es,_),some x,some l,some h=>some ⟨decide (x.es=es∧0≤l∧l≤h∧b+h≤c),.rc L (b+l.toNat) (h.toNat - l.toNat) c⟩
 |_,_,_,_=>none
theorem sliceA_rc {P:Program} {t:TypeId} {L b n c:Nat} {lo hi:Option AV} {ob:Objs}:sliceA P t (.rc L b n c) lo hi ob=sliceRcS (tyEl P t) (lk ob L) (bd lo 0) (bd hi n) L b c:=by
 simp only[sliceA,sliceRcS]
 cases tyEl P t<;>cases lk ob L<;>cases bd lo 0<;>cases bd hi n<;>rfl
theorem sliceRcS_some {e:TypeId} {es bb:Nat} {ar fz pin:Bool} {ee kd:Nat} {xs:List AV} {l h:Int} {L b c:Nat}:sliceRcS (some (e,es,bb)) (some ⟨ar,fz,pin,ee,xs,kd⟩) (some l) (some h) L b c=some ⟨decide (ee=es∧0≤l∧l≤h∧b+h≤c),.rc L (b+l.toNat) (h.toNat - l.toNat) c⟩:=rfl
def elemsC (x:Option AObj) (lo n:Nat):Option (List AV):=match x with
 |some x=>if x.arr=true∧lo+n≤x.xs.length then some (seg x.xs lo n)else none
 |none=>none
theorem elemsOf_rc {o:Objs} {L lo n c:Nat}:elemsOf o (.rc L lo n c)=elemsC (lk o L) lo n:=by simp only[elemsOf,elemsC];cases lk o L<;>rfl
theorem elemsC_some {kd:Nat} {fz pin:Bool} {es lo n:Nat} {xs:List AV}:elemsC (some ⟨true,fz,pin,es,xs,kd⟩) lo n=if lo+n≤xs.length then some (seg xs lo n)else none:=by simp[elemsC]
theorem srcOf_rc {o:Objs} {L lo n c:Nat}:srcOf o (.rc L lo n c)=elemsOf o (.rc L lo n c):=rfl
theorem trimA_rc {k L lo n c:Nat}:trimA k (.rc L lo n c)= .rc L lo (min n k) c:=rfl
theorem trimA_ref {k L lo n:Nat}:trimA k (.ref L lo n)= .ref L lo n:=rfl
theorem trimA_list {k:Nat} {l f:Bool} {xs:List AV}:trimA k (.list l f xs)= .list l f xs:=rfl
theorem killR_rc {L L' a b c:Nat}:killR L (.rc L' a b c)= .rc L' a b c:=rfl
theorem killR_sc {L:Nat} {v:Value}:killR L (.sc v)= .sc v:=kill1_sc
theorem killR_list {L:Nat} {l f:Bool} {xs:List AV}:killR L (.list l f xs)= .list l f xs:=kill1_list
theorem killR_ref {L L' a b:Nat}:killR L (.ref L' a b)=if L=L' then .dead else .ref L' a b:=kill1_ref
theorem killR_ptr {L L' a b:Nat}:killR L (.ptr L' a b)=if L=L' then .dead else .ptr L' a b:=kill1_ptr
theorem killR_dead {L:Nat}:killR L .dead= .dead:=kill1_dead
theorem killR_tup {L:Nat} {cs:List AV}:killR L (.tup cs)=kill1 L (.tup cs):=rfl
theorem killR_agg {L:Nat} {cs:List AV}:killR L (.agg cs)=kill1 L (.agg cs):=rfl
def killTR (L:Nat) (t:List (Nat×AV)):List (Nat×AV):=t.map fun p=>(p.1,killR L p.2)
theorem killTR_nil {L:Nat}:killTR L []= []:=rfl
theorem killTR_cons {L i:Nat} {a:AV} {r:List (Nat×AV)}:killTR L ((i,a)::r)=(i,killR L a)::killTR L r:=rfl
theorem renewR_eq {n:Nat} {t:List (Nat×AV)} {o:Objs} {L:Nat} {x:AObj}:ASt.renewR ⟨n,t,o⟩ L x=⟨n,killTR L t,(L,x)::killO L (killO L (del o L))⟩:=rfl
def cpRX (d:Nat) (s:ASt) (L lo n c es:Nat) (ys:List AV):Option AObj→Option St
 |some x=>if x.arr=true∧x.fz=false∧x.pin=false∧x.kd≠1 then
  some ⟨decide (d<s.n∧(∀y∈ys,y.cells.length=es)∧x.es=es∧ys.length≤n∧ys≠ []∧lo≤x.xs.length∧lo+ys.length≤c∧lo+ys.length≤maxRow),(s.renewR L {x with xs:=splice x.xs ys lo}).put d (nt .i64 ys.length)⟩
  else none
 |none=>none
def cpRS (d:Nat) (s:ASt) (L lo n c:Nat) (t:Option (TypeId×Nat×Nat)) (r:Option (List AV)):Option St:=match t,r with
 |some (_,es,_),some ys=>cpRX d s L lo n c es ys (lk s.o L)
 |_,_=>none
theorem copyS_rc {P:Program} {d:Nat} {s:ASt} {t:TypeId} {L lo n c:Nat} {b:AV}:copyS P t d s (some (.rc L lo n c)) (some b)=cpRS d s L lo n c (tyEl P t) (srcOf s.o (trimA n b)):=by
 simp only[copyS,copyA,copyR,cpRS]
 cases tyEl P t with
 |none=>rfl
 |some q=>
  obtain⟨e,es,b'⟩:=q
  cases srcOf s.o (trimA n b)with
  |none=>rfl
  |some ys=>simp only[cpRX];cases lk s.o L<;>rfl
theorem cpRS_some {d:Nat} {s:ASt} {L lo n c e es b:Nat} {ys:List AV}:cpRS d s L lo n c (some (e,es,b)) (some ys)=cpRX d s L lo n c es ys (lk s.o L):=rfl
theorem cpRX_some {d:Nat} {s:ASt} {L lo n c es kd:Nat} {ys xs:List AV} {e:Nat}:cpRX d s L lo n c es ys (some ⟨true,false,false,e,xs,kd⟩)=if kd≠1 then
 some ⟨decide (d<s.n∧(∀y∈ys,y.cells.length=es)∧e=es∧ys.length≤n∧ys≠ []∧lo≤xs.length∧lo+ys.length≤c∧lo+ys.length≤maxRow),(s.renewR L ⟨true,false,false,e,splice xs ys lo,kd⟩).put d (nt .i64 ys.length)⟩else none:=by
 simp only[cpRX,true_and]
def apZX (d:Nat) (s:ASt) (n c es bytes:Nat) (k:Int) (z:AV) (lo:Nat):Option AObj→Option St
 |some x=>if x.arr=true∧z.pure=true∧z.cells.length=es then
  some ⟨decide (d<s.n∧x.es=es∧es≠0∧lo=0∧0<k∧c<n+k.toNat∧n≤x.xs.length∧bytes≠0∧(2*(n+k.toNat)+200)*bytes≤2^48),
   s.renew d d d (arrK es (seg x.xs 0 n++List.replicate k.toNat z) 0) (.ref d 0 (n+k.toNat))⟩else none
 |none=>none
def isIntT (P:Program) (t:TypeId):Bool:=match P.underlying t with
 |some (.int _)=>true
 |_=>false
def apZ (P:Program) (d:Nat) (s:ASt) (L lo n c:Nat) (k:Int):Option (TypeId×Nat×Nat)→Bool→Option St
 |some (e,es,bytes),true=>match tyZ P e with
  |some z=>apZX d s n c es bytes k z lo (lk s.o L)
  |none=>none
 |_,_=>none
theorem appendN_rc {P:Program} {st xt:TypeId} {L lo n c d:Nat} {k:Int} {s:ASt}:appendN P st xt (.rc L lo n c) (.sc (.int .i64 k)) d s=apZ P d s L lo n c k (tyEl P st) (isIntT P xt):=by
 simp only[appendN,appendZ,isIntT]
 cases tyEl P st with
 |none=>rfl
 |some q=>
  obtain⟨e,es,bytes⟩:=q
  cases hu:P.underlying xt with
  |none=>rfl
  |some u=>
   cases u<;>simp only[apZ]
   cases tyZ P e with
   |none=>rfl
   |some z=>simp only[apZX];cases lk s.o L<;>rfl
def apZY (d:Nat) (s:ASt) (L lo n c es bytes:Nat) (k:Int):Option AV→Option St
 |some z=>apZX d s n c es bytes k z lo (lk s.o L)
 |none=>none
theorem apZ_some {P:Program} {d:Nat} {s:ASt} {L lo n c e es bytes:Nat} {k:Int}:apZ P d s L lo n c k (some (e,es,bytes)) true=apZY d s L lo n c es bytes k (tyZ P e):=by
 simp only[apZ,apZY]
theorem apZY_some {d:Nat} {s:ASt} {L lo n c es bytes:Nat} {k:Int} {z:AV}:apZY d s L lo n c es bytes k (some z)=apZX d s n c es bytes k z lo (lk s.o L):=rfl
theorem apZX_some {d:Nat} {s:ASt} {n c es bytes lo kd e:Nat} {k:Int} {z:AV} {fz pin:Bool} {xs:List AV}:apZX d s n c es bytes k z lo (some ⟨true,fz,pin,e,xs,kd⟩)=if z.pure=true∧z.cells.length=es then
 some ⟨decide (d<s.n∧e=es∧es≠0∧lo=0∧0<k∧c<n+k.toNat∧n≤xs.length∧bytes≠0∧(2*(n+k.toNat)+200)*bytes≤2^48),
  s.renew d d d (arrK es (seg xs 0 n++List.replicate k.toNat z) 0) (.ref d 0 (n+k.toNat))⟩else none:=by
 simp only[apZX,true_and]
attribute [go_sem] kl_rc kill1_rc okIn_rc has_rc cells_rc isAgg_rc ren_rc labs_rc lenA_rc capA_rc sliceA_rc sliceRcS_some elemsOf_rc elemsC_some srcOf_rc trimA_rc trimA_ref trimA_list killR_rc killR_sc killR_list killR_ref killR_ptr killR_dead killR_tup killR_agg killTR_nil killTR_cons renewR_eq copyS_rc cpRS_some cpRX_some appendN_rc apZ_some apZY_some apZX_some
theorem awp_any {P:Program} {id:Nat} {ops:Array Oper} {Q:Exit→ASt→Prop} {s:ASt} (hm:P.follows .mixedOrders=true) (hs:Region.noSelect ops=true) (h:anyK P ops (Q .normal) ops.size (Array.replicate ops.size false) s):awp P (.region id ops true) Q s:=⟨hm,.inr ⟨hs,h⟩⟩
def anyV (r:Res) (d:Nat) (k:ASt→Prop) (s:ASt):Prop:=match r with
 | .v r=>r.need∧d<s.n∧k (s.put d r.val)
 |_=>False
theorem anyV_v {n:Bool} {a:AV} {d:Nat} {k:ASt→Prop} {s:ASt}:anyV (.v ⟨n,a⟩) d k s=(n∧d<s.n∧k (s.put d a)):=rfl
attribute [go_sem] anyV_v
theorem anyK_q {P:Program} {ops:Array Oper} {Q:ASt→Prop} {f:Nat} {X:Array Bool} {s:ASt} (l:Nat) {o:Oper} {d:Nat} (ho:ops[l]?=some o) (hr:(Region.ready .any ops X).contains l=true) (hf:Region.free .any ops X l=true) (hq:heldO o s=true) (hg:o.guard=none) (hd:o.dst=some d)
 (h:anyV (aop P o s) d (anyK P ops Q f (X.setIfInBounds l true)) s):anyK P ops Q (f+1) X s:=by
 unfold anyV at h
 split at h
 ·rename_i r hv
  exact .inr (.inl ⟨l,o,d,ho,hr,hf,hq,hg,hd,r,hv,h.1,h.2.1,h.2.2⟩)
 ·exact h.elim
theorem anyK_done {P:Program} {ops:Array Oper} {Q:ASt→Prop} {f:Nat} {X:Array Bool} {s:ASt} (hr:(Region.ready .any ops X).isEmpty=true) (h:Q s):anyK P ops Q f X s:=by
 have hr:Region.ready .any ops X= []:=by simpa using hr
 cases f with
 |zero=>exact⟨hr,h⟩
 |succ f=>exact .inl ⟨hr,h⟩
def anyN (P:Program) (ops:Array Oper) (Q:ASt→Prop) (f:Nat) (X:Array Bool) (s:ASt):Prop:= ∃s0,Le s0 s∧anyK P ops Q f X s0
theorem anyN_go {P:Program} {ops:Array Oper} {Q:ASt→Prop} {f:Nat} {X:Array Bool} {s:ASt} (h:anyK P ops Q f X s):anyN P ops Q f X s:=⟨s,Le.refl _,h⟩
def allI (P:Program) (ops:Array Oper) (Q:ASt→Prop) (f:Nat) (X:Array Bool) (s:ASt) (n:Nat):Prop:= ∀i,i<n→(Region.ready .any ops X).contains i=true→ ∀o,ops[i]?=some o→gK P (gval ops o.guard s) o (anyN P ops Q f (X.setIfInBounds i true)) s
theorem allI_zero {P:Program} {ops:Array Oper} {Q:ASt→Prop} {f:Nat} {X:Array Bool} {s:ASt}:allI P ops Q f X s 0:=fun i h=>by omega
theorem allI_skip {P:Program} {ops:Array Oper} {Q:ASt→Prop} {f:Nat} {X:Array Bool} {s:ASt} {n:Nat} (hr:(Region.ready .any ops X).contains n=false) (h:allI P ops Q f X s n):allI P ops Q f X s (n+1):=fun i hi hc o ho=>by
 by_cases he:i=n
 ·subst he;rw[hr]at hc;cases hc
 ·exact h i (by omega) hc o ho
theorem allI_do {P:Program} {ops:Array Oper} {Q:ASt→Prop} {f:Nat} {X:Array Bool} {s:ASt} {n:Nat} {o:Oper} (ho:ops[n]?=some o) (h1:gK P (gval ops o.guard s) o (anyN P ops Q f (X.setIfInBounds n true)) s) (h:allI P ops Q f X s n):allI P ops Q f X s (n+1):=fun i hi hc o' ho'=>by
 by_cases he:i=n
 ·subst he;obtain rfl:=Option.some.inj (ho.symm.trans ho');exact h1
 ·exact h i (by omega) hc o' ho'
theorem anyK_all {P:Program} {ops:Array Oper} {Q:ASt→Prop} {f:Nat} {X:Array Bool} {s:ASt} (hr:(Region.ready .any ops X).isEmpty=false) (h:allI P ops Q f X s ops.size):anyK P ops Q (f+1) X s:=
 .inr (.inr ⟨fun e=>(by rw[e]at hr;cases hr),fun i hi o ho=>h i (Array.getElem?_eq_some_iff.1 ho).1 (by simpa using hi) o ho⟩)
theorem loose_cells (y:AV):(loose y).cells=y.cells.map loose1:=by
 cases y<;>first|rfl|simp[loose,loose1,AV.cells]
theorem Le.looseRow {s:ASt} (L:Nat) {x:AObj} (h:lk s.o L=some x) (hk:x.kd≠1):Le {n:=s.n,t:=s.t,o:=putO L {x with xs:=x.xs.map loose} s.o} s:=by
 intro C F μ a w hs
 have hg: ∀M,lk (putO L {x with xs:=x.xs.map loose} s.o) M=if L=M then some {x with xs:=x.xs.map loose} else lk s.o M:=fun M=>by
  rw[lk_putO (by rw[h];rfl)];rfl
 have hlo: ∀p,locO {x with xs:=x.xs.map loose} p=locO x p:=fun p=>locO_congr (x:= {x with xs:=x.xs.map loose}) (y:=x) rfl (by simp) rfl p
 have hloc:locOf (putO L {x with xs:=x.xs.map loose} s.o) μ=locOf s.o μ:=by
  funext M
  simp only[locOf,hg]
  by_cases hM:L=M
  ·subst hM;rw[if_pos rfl,h];simp only[Option.map_some,hlo]
  ·rw[if_neg hM]
 have hlk: ∀{M y},lk (putO L {x with xs:=x.xs.map loose} s.o) M=some y→ ∃z,lk s.o M=some z∧z.fz=y.fz∧z.pin=y.pin∧z.arr=y.arr∧(∀p,locO y p=locO z p)∧((L=M∧z=x∧y= {x with xs:=x.xs.map loose})∨z=y):=fun {M y} hy=>by
  rw[hg]at hy
  by_cases hM:L=M
  ·subst hM
   rw[if_pos rfl]at hy
   obtain rfl:=Option.some.inj hy
   exact⟨x,h,rfl,rfl,rfl,hlo,.inl ⟨rfl,rfl,rfl⟩⟩
  ·rw[if_neg hM]at hy
   exact⟨y,hy,rfl,rfl,rfl,fun _=>rfl,.inr rfl⟩
 refine⟨F,μ,⟨hs.sw.facts,hs.sw.sub,hs.sw.lentc,hs.sw.grow,hs.sw.newf,hs.sw.fr,fun M y hy=>?_,fun M y M' y' b c c' hy hy'=>?_,fun M y b c hy hm hz=>?_,fun M y b c hy=>?_,fun M y x0 h0 hy hp=>?_⟩,hs.defers,hs.n,fun i y hy=>by rw[hloc];exact hs.slot i y hy⟩
 ·obtain⟨z,h1,h2,h3,h4,h5,hcase⟩:=hlk hy
  have ho:=hs.sw.obj M z h1
  rw[hloc]
  rcases hcase with⟨rfl,rfl,rfl⟩|rfl
  ·cases hm:μ L with
   |none=>
    rw[hm]at ho
    have h0:z.xs= []:=ho
    show z.xs.map loose= []
    rw[h0];rfl
   |some p=>
    obtain⟨b,cap⟩:=p
    rw[hm]at ho
    obtain⟨c,e,q1,q2,q3,q4,q5,q6,q7⟩:=ObjAt.std ho hk
    refine .inl ⟨c,e,q1,q2,by simpa using q3,by simpa using q4,fun y hy=>?_,fun i y j a' hy hj=>?_,q7⟩
    ·obtain⟨y',hy',rfl⟩:=List.mem_map.1 hy
     rw[loose_cells,List.length_map]
     exact q5 y' hy'
    ·simp only[List.getElem?_map,Option.map_eq_some_iff]at hy
     obtain⟨y',hy',rfl⟩:=hy
     rw[loose_cells]at hj
     simp only[List.getElem?_map,Option.map_eq_some_iff]at hj
     obtain⟨a2,ha2,rfl⟩:=hj
     obtain⟨v,g1,g2,g3,g4⟩:=q6 i y' j a2 hy' ha2
     exact⟨v,g1,g2,g3.loose1,g4⟩
  ·exact ho
 ·obtain⟨z,h1,_⟩:=hlk hy
  obtain⟨z',h1',_⟩:=hlk hy'
  exact hs.sw.dist M z M' z' b c c' h1 h1'
 ·obtain⟨z,h1,h2,_⟩:=hlk hy
  exact hs.sw.excl M z b c h1 hm (by rw[h2];exact hz)
 ·obtain⟨z,h1,_⟩:=hlk hy
  exact hs.sw.mine M z b c h1
 ·obtain⟨z,h1,h2,h3,h4,h5,_⟩:=hlk hy
  have:=hs.sw.keep M z x0 h0 h1 (by rw[h3];exact hp)
  simp only[h5,←h4]
  exact this
theorem Le.frz {s:ASt} (L:Nat) {x:AObj} (h:lk s.o L=some x) (hk:x.kd≠1):Le (s.frz L x) s:=fun C F μ a w hs=>by
 obtain⟨F',_,h2⟩:=hs.freeze h (.inr hk)
 exact⟨F',μ,h2⟩
theorem frz_eq {n:Nat} {t:List (Nat×AV)} {o:Objs} {L:Nat} {arr fz pin:Bool} {es kd:Nat} {xs:List AV}:ASt.frz ⟨n,t,o⟩ L ⟨arr,fz,pin,es,xs,kd⟩=⟨n,t,(L,⟨arr,true,pin,es,xs,kd⟩)::o⟩:=rfl
attribute [go_sem] frz_eq
theorem map_loose_rep {n:Nat} {a:AV}:(List.replicate n a).map loose=List.replicate n (loose a):=by simp
theorem loose_agg {cs:List AV}:loose (.agg cs)= .agg (cs.map loose1):=rfl
theorem loose1_sc {v:Value}:loose1 (.sc v)= .sc v:=rfl
theorem loose1_list {l f:Bool} {xs:List AV}:loose1 (.list l f xs)= .list l false xs:=rfl
attribute [go_sem] map_loose_rep loose_agg loose1_sc loose1_list
theorem zQ {P:Program} {ops:Array Oper} {Q:ASt→Prop} {f:Nat} {X:Array Bool} {s:ASt} (l:Nat) {o:Oper} {d:Nat} (h:anyV (aop P o s) d (anyK P ops Q f (X.setIfInBounds l true)) s) (ho:ops[l]?=some o:=by exact rfl) (hr:(Region.ready .any ops X).contains l=true:=by decide+kernel) (hf:Region.free .any ops X l=true:=by decide+kernel) (hq:heldO o s=true:=by exact rfl) (hg:o.guard=none:=by exact rfl) (hd:o.dst=some d:=by exact rfl):anyK P ops Q (f+1) X s:=anyK_q l ho hr hf hq hg hd h
theorem zAny {P:Program} {id:Nat} {ops:Array Oper} {Q:Exit→ASt→Prop} {s:ASt} (hm:P.follows .mixedOrders=true) (h:anyK P ops (Q .normal) ops.size (Array.replicate ops.size false) s) (hs:Region.noSelect ops=true:=by decide+kernel):awp P (.region id ops true) Q s:=awp_any hm hs h
theorem zDone {P:Program} {ops:Array Oper} {Q:ASt→Prop} {f:Nat} {X:Array Bool} {s:ASt} (h:Q s) (hr:(Region.ready .any ops X).isEmpty=true:=by decide+kernel):anyK P ops Q f X s:=anyK_done hr h
theorem zAll {P:Program} {ops:Array Oper} {Q:ASt→Prop} {f:Nat} {X:Array Bool} {s:ASt} (h:allI P ops Q f X s ops.size) (hr:(Region.ready .any ops X).isEmpty=false:=by decide+kernel):anyK P ops Q (f+1) X s:=anyK_all hr h
theorem zSkip {P:Program} {ops:Array Oper} {Q:ASt→Prop} {f:Nat} {X:Array Bool} {s:ASt} {n:Nat} (h:allI P ops Q f X s n) (hr:(Region.ready .any ops X).contains n=false:=by decide+kernel):allI P ops Q f X s (n+1):=allI_skip hr h
end Go.Ab
