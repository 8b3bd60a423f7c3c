import Derived.Test.YtbgckcdddlmiaaaGreatDoorA7
set_option linter.unusedSectionVars false
set_option linter.unusedSimpArgs false
set_option linter.unusedVariables false
namespace Go.Ab
open Go.RowKit
def LH.st (h:LH) (st:LoopState) (pd:Option Code):LH:= {h with state:=st,pending:=pd}
theorem bC5 {h:LH} {a b c d}:(h.st a b).st c d=h.st c d:=rfl
theorem bC6 {h:LH} {a b}:(h.st a b).state=a:=rfl
theorem bC7 {h:LH} {a b}:(h.st a b).pending=b:=rfl
theorem bC8 {h:LH} {a b}:(h.st a b).params=h.params:=rfl
theorem bC9 {h:LH} {a b}:(h.st a b).assign=h.assign:=rfl
theorem bDa {h:LH} {a b}:(h.st a b).body=h.body:=rfl
theorem bDb {h:LH} {a b}:(h.st a b).n=h.n:=rfl
theorem bDc {h:LH} {a b}:(h.st a b).ks=h.ks:=rfl
attribute [go_sem] bC5 bC6 bC7 bC8 bC9 bDa bDb bDc
theorem aEv {L L':Nat}:kl L (.yl L')=if L=L' then .dead else .yl L':=by simp[kl,kt,AV.has]
theorem bDd {L L':Nat}:kill1 L (.yl L')=if L=L' then .dead else .yl L':=aEv
theorem aEw {L:Nat} {h:LH}:kl L (.lh h)= .lh h:=by simp[kl,kt,AV.has]
theorem bDe {L:Nat} {h:LH}:kill1 L (.lh h)= .lh h:=aEw
theorem bDf {o:aF} {L:Nat}:(AV.yl L).okIn o=(lk o L).isSome:=rfl
theorem bDg {o:aF} {h:LH}:(AV.lh h).okIn o=true:=rfl
theorem bDh {L L':Nat}:(AV.yl L').has L=(L==L'):=by simp[AV.has]
theorem bDi {L:Nat} {h:LH}:(AV.lh h).has L=false:=by simp[AV.has]
theorem bDj {L:Nat}:(AV.yl L).cells= [.yl L]:=rfl
theorem bDk:AV.dead.cells= [.dead]:=rfl
theorem bDl:AV.dead.isAgg=false:=rfl
theorem bDm {L:Nat}:(AV.mp L).cells= [.mp L]:=rfl
theorem bDn {L:Nat}:(AV.mp L).isAgg=false:=rfl
theorem bDo {L:Nat}:(AV.yl L).isAgg=false:=rfl
theorem bDp {h:LH}:(AV.lh h).cells= [.lh h]:=rfl
theorem bDq {σ:Nat->Nat} {h:LH}:(AV.lh h).ren σ= .lh h:=rfl
theorem bDr {σ:Nat->Nat} {L:Nat}:(AV.yl L).ren σ= .yl (σ L):=rfl
theorem bDs {p:Nat->Bool} {h:LH}:(AV.lh h).labs p=true:=rfl
theorem bDt {p:Nat->Bool} {L:Nat}:(AV.yl L).labs p=p L:=rfl
attribute [go_sem] aEv bDd aEw bDe bDf bDg bDh bDi bDj bDo bDk bDl bDm bDn bDp bDq bDr bDs bDt
def gO (L:Nat) (x:AObj):aF->aF
 | []=> []
 |p::r=>if p.1=L then(p.1,x)::gO L x r else p::gO L x r
theorem bDu {L:Nat} {x:AObj}:gO L x []= []:=rfl
theorem bDv {L:Nat} {x:AObj} {p:Nat×AObj} {r:aF}:gO L x (p::r)=if p.1=L then(p.1,x)::gO L x r else p::gO L x r:=rfl
attribute [go_sem] bDu bDv
theorem uR {L:Nat} {x:AObj}: ∀{o:aF} {i:Nat},(lk o L).isSome=true->lk (gO L x o) i=lk (cB o L x) i
 | [],i,h=>by simp[lk]at h
 |(k,y)::r,i,h=>by
  simp only[gO,cB,lk]at h ⊢
  by_cases hk:k=L
  ·subst hk
   rw[if_pos rfl]
   simp only[lk]
   by_cases hi:k=i
   ·rw[if_pos hi,if_pos hi]
   ·rw[if_neg hi,if_neg hi,if_neg hi]
    by_cases hs:(lk r k).isSome=true
    ·rw[uR hs];simp only[cB,lk,if_neg hi]
    ·have: ∀{r:aF} {i:Nat},lk r k=none->lk (gO k x r) i=lk r i:=fun {r} {i} hr=>by
      induction r with
      |nil=>rfl
      |cons q r ih=>
       obtain⟨k',y'⟩:=q
       simp only[lk]at hr
       by_cases hk':k'=k
       ·rw[if_pos hk']at hr;cases hr
       ·rw[if_neg hk']at hr
        simp only[gO,if_neg hk',lk,ih hr]
     exact this (by simpa using hs)
  ·rw[if_neg hk]at h ⊢
   simp only[lk]
   by_cases hi:k=i
   ·rw[if_pos hi,if_neg (by omega),if_pos hi]
   ·rw[if_neg hi,uR h]
    simp only[cB,lk,if_neg hi]
theorem Mk.put {C:Cx} {w:World} {ds:List Deferred} (h:Mk C w ds) {b:Nat} {r:Loop} (hr:w.heap[b]?=some (.loop r)) (x:Obj):Mk C (w.putObj b x) ds:=
 ⟨h.nodup,fun d hd=>by
  obtain⟨D,h1,h2,h3⟩:=h.each d hd
  exact⟨D,h1,(World.putObj_heap_other (by rintro rfl;rw[hr]at h2;cases h2)).trans h2,h3⟩⟩
def Q7 (o:aF):Bool:=o.all fun p=>p.2.arr|| !(decide (p.2.kd=1))
theorem bDw:Q7 []=true:=rfl
theorem bDx {p:Nat×AObj} {o:aF}:Q7 (p::o)=((p.2.arr|| !(decide (p.2.kd=1)))&&Q7 o):=rfl
attribute [go_sem] bDw bDx
def Q8 (Q:Exit->ASt->Prop):Option Code->ASt->Prop
 |none,s=>Q .normal s
 |some .ret,s=>Q .ret s
 |some (.exit id),s=>Q (.exit id) s
 |_,_=>False
theorem ObjAt.has_loc {F loc w} {x:AObj} {b cap:Nat} (h:ObjAt F loc w x b cap) {L:Nat} (hL:AV.hasL L x.xs=true):loc L≠none:=by
 cases ha:x.arr with
 |true=>rw[h.hasL ha L]at hL;cases hL
 |false=>
  obtain⟨i,y,hy,hyL⟩:=jK hL
  rcases h with⟨c,e,h1,h2,h3,h4,h5,h6,h7⟩|⟨_,k2,_⟩|⟨_,_,r,_,g⟩
  ·have key: ∀(j:Nat) (a:AV),y.cells[j]?=some a->a.has L=true->loc L≠none:=fun j a hj haL=>by
    obtain⟨v,g1,g2,g3,g4⟩:=h6 i y j a hy hj
    rw[ha]at g3
    exact RV.has_loc g3 L haL
   cases y with
   |agg cs=>
    simp only[AV.has]at hyL
    obtain⟨j,a,hj,haL⟩:=jK hyL
    exact key j a hj haL
   |_=>exact key 0 _ rfl hyL
  ·rw[ha]at k2;cases k2
  ·obtain⟨z,v,g1,g2⟩:=g.parts L hL
   exact g1.has_loc L g2
theorem ACall.frz {P:Program} [Glob P] {f:FuncId} {args:List AV} {es:Nat} {xs:List AV} (h:ACall P f args (fun r=>r= .own es xs)):ACall P f args (fun r=>r= .list false false xs):=by
 refine⟨h.1,fun w F cargs h0 h1 h2 h3=>(h.2 w F cargs h0 h1 h2 h3).mono ?_⟩
 rintro e w' ⟨v,r,F',g1,rfl,g3,p,g4⟩
 cases p with
 |none=>
  obtain⟨rfl,q,rfl⟩:=g4
  exact⟨_,_,F',g1,rfl,g3,none,rfl,.nil⟩
 |some q=>
  obtain⟨b,cap⟩:=q
  obtain⟨k1,k2,k3,k4⟩:=g4
  obtain⟨c,e',q1,q2,q3,q4,q5,q6,q7⟩:=k2.std (by simp[cN])
  have hle:FLe F' (iP F' b c.size c):=aAp k4
  have hcell: ∀k v,c[k]?=some v->w'.cell? ⟨b,k,none⟩=some v:=fun k v hk=>by simp[World.cell?,q1,hk]
  have hnew: ∀l b' k v,iP F' b c.size c l b' k=some v->(b'=b/\c[k]?=some v)\/F' l b' k=some v:=fun l b' k v hv=>by
   unfold iP at hv
   split at hv
   ·rename_i hb;exact .inl ⟨hb.1,hv⟩
   ·exact .inr hv
  refine⟨v,_,iP F' b c.size c,g1,rfl,⟨⟨fun l b' k v hv=>?_,fun b' k v hv=>?_⟩,g3.le.trans hle,fun b' k v hv=>?_,fun b' k v hv=>?_,g3.fr⟩,none,rfl,?_⟩
  ·rcases hnew l b' k v hv with⟨rfl,hk⟩|hv
   ·exact hcell k v hk
   ·exact g3.ok.facts l b' k v hv
  ·unfold iP at hv ⊢
   split at hv
   ·rename_i hb;rw[if_pos hb];exact hv
   ·rename_i hb;rw[if_neg hb];exact g3.ok.sub _ _ _ hv
  ·unfold iP at hv ⊢
   split at hv
   ·rename_i hb;rw[if_pos hb];exact .inr hv
   ·rename_i hb
    rw[if_neg hb]
    exact g3.lentc _ _ _ hv
  ·rcases hnew false b' k v hv with⟨rfl,hk⟩|hv
   ·exact .inr k3
   ·exact g3.newf _ _ _ hv
  ·rw[k1]
   by_cases hx:xs= []
   ·subst hx
    exact .list (es:=es) (o:=0) (f:=fun _ _=>undef) (fun x hx=>by cases hx) (Nat.zero_le _) (Nat.zero_le _) (fun h=>by cases h) (fun _=>rfl) (fun i x j a hx=>by simp at hx) (fun i x j a hx=>by simp at hx) (fun i x j a hx=>by simp at hx)
   ·have hat: ∀(i:Nat) (x:AV) (j:Nat) (a:AV),xs[i]?=some x->x.cells[j]?=some a-> ∃u,c[0+i*es+j]?=some u/\one u=true/\RV (sh F') bQ a u:=fun i x j a hx ha=>by
     obtain⟨u,r1,r2,r3,r4⟩:=q6 i x j a hx ha
     exact⟨u,by rw[Nat.zero_add];exact r1,r2,r3⟩
    refine .list (es:=es) (o:=0) (f:=fun i j=>(c[0+i*es+j]?).getD undef) (fun x hx=>q5 x hx) q3 q4 (fun h=>by cases h) (fun _=>rfl) (fun i x j a hx ha=>?_) (fun i x j a hx ha=>?_) (fun i x j a hx ha=>?_)
    ·obtain⟨u,r1,_,_⟩:=hat i x j a hx ha
     have hlt:=(Array.getElem?_eq_some_iff.1 r1).1
     show iP F' b c.size c false b (0+i*es+j)=_
     unfold iP
     rw[if_pos ⟨rfl,hlt⟩,r1];rfl
    ·obtain⟨u,r1,_,r3⟩:=hat i x j a hx ha
     show RV _ _ a ((c[0+i*es+j]?).getD undef)
     rw[r1]
     exact r3.mono hle.sh
    ·obtain⟨u,r1,r2,_⟩:=hat i x j a hx ha
     show one ((c[0+i*es+j]?).getD undef)=true
     rw[r1];exact r2
theorem Le.nilBox {s:ASt} (L T es:Nat) {l pin:Bool} {e0 kd:Nat} (h:lk s.o L=some ⟨false,false,pin,e0,[.list l true []],kd⟩) (hL:L≠T) (hk:kd≠1):
 Le {n:=s.n,t:=fI T (fI T s.t),o:=(L,⟨false,false,pin,e0,[.ref T 0 0],kd⟩)::(T,cN es [])::killO T (killO T (eJ s.o T))} s:=by
 intro C F μ a w hs
 have h1:=hs.renew0 (L:=T) (T:=T) (x:=cN es []) (p:=none) rfl rfl rfl (Fr.refl _ _) (by rfl) (fun b c hbc=>by cases hbc)
 have hl:aE ((T,cN es [])::killO T (killO T (eJ s.o T))) (bN μ T none) T=some ⟨none,es,0,false⟩:=by simp[aE,lk,bN,cN,bU]
 have hx:lk ((T,cN es [])::killO T (killO T (eJ s.o T))) L=some ⟨false,false,pin,e0,[.list l true []],kd⟩:=by
  simp only[lk,if_neg (Ne.symm hL),pS,sA,h]
  simp[cU,kill1,Ab.kl,Ab.kt,AV.has]
 have ho:=h1.sw.obj L _ hx
 cases hm:bN μ T none L with
 |none=>rw[hm]at ho;cases ho
 |some q=>
  obtain⟨b,cap⟩:=q
  rw[hm]at ho
  obtain⟨c,e,q1,q2,q3,q4,q5,q6,q7⟩:=ObjAt.std ho hk
  have hes:1=e0:=q5 (.list l true []) (by simp)
  subst hes
  have hsw:=h1.sw.turn (x':=⟨false,false,pin,1,[.ref T 0 0],kd⟩) hx (fun p=>by simp[bU]) rfl rfl hm rfl rfl (Fr.refl _ _) rfl (by
   refine .inl ⟨c,e,q1,q2,q3,q4,fun y hy=>?_,fun i y j x hy hj=>?_,q7⟩
   ·simp at hy;subst hy;rfl
   ·cases i with
    |succ i=>simp at hy
    |zero=>
     simp at hy
     subst hy
     cases j with
     |succ j=>simp[AV.cells]at hj
     |zero=>
      simp[AV.cells]at hj
      subst hj
      obtain⟨v,g1,g2,g3,g4⟩:=q6 0 (.list l true []) 0 _ rfl rfl
      refine⟨v,g1,g2,?_,fun hz=>by cases hz⟩
      have g3:RV F (aE ((T,cN es [])::killO T (killO T (eJ s.o T))) (bN μ T none)) (.list l true []) v:=g3
      show RV F (aE ((T,cN es [])::killO T (killO T (eJ s.o T))) (bN μ T none)) (.ref T 0 0) v
      cases g3 with
      |nil=>exact .refNil hl
      |list k1 k2 k3 k4=>
       have:=k4 rfl
       simp at this
       subst this
       exact .refNil hl)
  refine⟨F,bN μ T none,hsw,h1.defers,h1.n,fun i x hi=>?_⟩
  have hle:aE ((L,⟨false,false,pin,1,[.ref T 0 0],kd⟩)::(T,cN es [])::killO T (killO T (eJ s.o T))) (bN μ T none)=aE ((T,cN es [])::killO T (killO T (eJ s.o T))) (bN μ T none):=by
   funext M
   by_cases hM:L=M
   ·subst hM;simp only[aE,hx];simp[lk,bU]
   ·simp only[aE,lk,if_neg hM]
  rw[hle]
  exact h1.slot i x hi
theorem YCall.mono {P args o} [Glob P] {R R':AV->aF->Prop} (h:YCall P args o R) (hR: ∀r o',R r o'->R' r o'):YCall P args o R':=
 fun C F μ w cargs h0 h1 h2 h3 h4 h5 h6 h7=>YG.mono _ _ _ _ (h C F μ w cargs h0 h1 h2 h3 h4 h5 h6 h7) fun e w' ⟨v,r,o',F',μ',g1,g2,g3⟩=>⟨v,r,o',F',μ',g1,hR r o' g2,g3⟩
theorem bDy {Q:Exit->ASt->Prop} {s:ASt}:Q8 Q none s=Q .normal s:=rfl
theorem bDz {Q:Exit->ASt->Prop} {s:ASt}:Q8 Q (some .ret) s=Q .ret s:=rfl
theorem bD0 {Q:Exit->ASt->Prop} {s:ASt} {id:Nat}:Q8 Q (some (.exit id)) s=Q (.exit id) s:=rfl
attribute [go_sem] bDy bDz bD0
theorem Le.unpin {s:ASt} (L:Nat) {x:AObj} (h:lk s.o L=some x):Le {n:=s.n,t:=s.t,o:=gO L {x with pin:=false} s.o} s:=by
 intro C F μ a w hs
 have hlk: ∀M y,lk (gO L {x with pin:=false} s.o) M=some y-> ∃z,lk s.o M=some z/\z.arr=y.arr/\z.fz=y.fz/\z.es=y.es/\z.xs=y.xs/\z.kd=y.kd/\(y.pin=true->z=y):=fun M y hy=>by
  rw[uR (by rw[h];rfl)]at hy
  simp only[cB,lk]at hy
  by_cases hM:L=M
  ·subst hM
   rw[if_pos rfl]at hy
   obtain rfl:=Option.some.inj hy
   exact⟨x,h,rfl,rfl,rfl,rfl,rfl,fun hp=>by cases hp⟩
  ·rw[if_neg hM]at hy
   exact⟨y,hy,rfl,rfl,rfl,rfl,rfl,fun _=>rfl⟩
 have hloc:aE (gO L {x with pin:=false} s.o) μ=aE s.o μ:=by
  funext M
  simp only[aE,uR (o:=s.o) (L:=L) (x:= {x with pin:=false}) (i:=M) (by rw[h];rfl),cB,lk]
  by_cases hM:L=M
  ·subst hM;rw[if_pos rfl,h];rfl
  ·rw[if_neg hM]
 refine⟨F,μ,⟨hs.sw.facts,hs.sw.sub,hs.sw.lentc,hs.sw.grow,hs.sw.newf,hs.sw.fr,fun M y hy=>?_,fun M y M' y' b c c' hy hy'=>?_,fun M y b c hy hm hz=>?_,fun M y b c hy=>?_,fun M y x0 h0 hy hp=>?_⟩,hs.defers,hs.n,fun i y hy=>by rw[hloc];exact hs.slot i y hy⟩
 ·obtain⟨z,h1,h2,h3,h4,h5,h6,_⟩:=hlk M y hy
  have ho:=hs.sw.obj M z h1
  rw[hloc]
  obtain⟨ya,yf,yp,ye,yx,yk⟩:=y
  obtain⟨za,zf,zp,ze,zx,zk⟩:=z
  simp only at h2 h3 h4 h5 h6
  subst h2 h3 h4 h5 h6
  exact ho
 ·obtain⟨z,h1,_⟩:=hlk M y hy
  obtain⟨z',h1',_⟩:=hlk M' y' hy'
  exact hs.sw.dist M z M' z' b c c' h1 h1'
 ·obtain⟨z,h1,_,h3,_⟩:=hlk M y hy
  exact hs.sw.excl M z b c h1 hm (by rw[h3];exact hz)
 ·obtain⟨z,h1,_⟩:=hlk M y hy
  exact hs.sw.mine M z b c h1
 ·obtain⟨z,h1,_,_,_,_,_,h7⟩:=hlk M y hy
  obtain rfl:=h7 hp
  exact hs.sw.keep M z x0 h0 h1 hp
theorem aEx {L L' a b c:Nat}:kl L (.rc L' a b c)=if L=L' then .dead else .rc L' a b c:=by simp[kl,kt,AV.has]
theorem bD1 {L L' a b c:Nat}:kill1 L (.rc L' a b c)=if L=L' then .dead else .rc L' a b c:=aEx
theorem bD2 {o:aF} {L a b c:Nat}:(AV.rc L a b c).okIn o=(lk o L).isSome:=rfl
theorem bD3 {L L' a b c:Nat}:(AV.rc L' a b c).has L=(L==L'):=by simp[AV.has]
theorem bD4 {L a b c:Nat}:(AV.rc L a b c).cells= [.rc L a b c]:=rfl
theorem bD5 {L a b c:Nat}:(AV.rc L a b c).isAgg=false:=rfl
theorem bD6 {σ:Nat->Nat} {L a b c:Nat}:(AV.rc L a b c).ren σ= .rc (σ L) a b c:=rfl
theorem bD7 {p:Nat->Bool} {L a b c:Nat}:(AV.rc L a b c).labs p=p L:=rfl
theorem bD8 {P:Program} [Glob P] {t:TypeId} {L lo n c:Nat}:mR P t (.rc L lo n c)=sK (bM P t) n:=rfl
theorem bD9 {P:Program} [Glob P] {t:TypeId} {L lo n c:Nat}:vL P t (.rc L lo n c)=sK (bM P t) (c - lo):=rfl
def Q9 (d:Option (TypeId×Nat×Nat)) (x:Option AObj) (l h:Option Int) (L b c:Nat):Option Sv:=match d,x,l,h with
 |some (_,es,_),some x,some l,some h=>some ⟨decide (x.es=es/\0<=l/\l<=h/\b+h<=c),.rc L (b+l.toNat) (h.toNat - l.toNat) c⟩
 |_,_,_,_=>none
theorem bEa {P:Program} [Glob P] {t:TypeId} {L b n c:Nat} {lo hi:Option AV} {ob:aF}:gT P t (.rc L b n c) lo hi ob=Q9 (bM P t) (lk ob L) (bd lo 0) (bd hi n) L b c:=by
 simp only[gT,Q9]
 cases bM P t<;>cases lk ob L<;>cases bd lo 0<;>cases bd hi n<;>rfl
theorem bEb {e:TypeId} {es bb:Nat} {ar fz pin:Bool} {ee kd:Nat} {xs:List AV} {l h:Int} {L b c:Nat}:Q9 (some (e,es,bb)) (some ⟨ar,fz,pin,ee,xs,kd⟩) (some l) (some h) L b c=some ⟨decide (ee=es/\0<=l/\l<=h/\b+h<=c),.rc L (b+l.toNat) (h.toNat - l.toNat) c⟩:=rfl
def C3 (x:Option AObj) (lo n:Nat):Option (List AV):=match x with
 |some x=>if x.arr=true/\lo+n<=x.xs.length then some (bY x.xs lo n)else none
 |none=>none
theorem bEc {o:aF} {L lo n c:Nat}:iR o (.rc L lo n c)=C3 (lk o L) lo n:=by simp only[iR,C3];cases lk o L<;>rfl
theorem bEd {kd:Nat} {fz pin:Bool} {es lo n:Nat} {xs:List AV}:C3 (some ⟨true,fz,pin,es,xs,kd⟩) lo n=if lo+n<=xs.length then some (bY xs lo n)else none:=by simp[C3]
theorem bEe {o:aF} {L lo n c:Nat}:gV o (.rc L lo n c)=iR o (.rc L lo n c):=rfl
theorem bEf {k L lo n c:Nat}:oM k (.rc L lo n c)= .rc L lo (min n k) c:=rfl
theorem bEg {k L lo n:Nat}:oM k (.ref L lo n)= .ref L lo n:=rfl
theorem bEh {k:Nat} {l f:Bool} {xs:List AV}:oM k (.list l f xs)= .list l f xs:=rfl
theorem bEi {L L' a b c:Nat}:mZ L (.rc L' a b c)= .rc L' a b c:=rfl
theorem bEj {L:Nat} {v:Value}:mZ L (.sc v)= .sc v:=aDl
theorem bEk {L:Nat} {l f:Bool} {xs:List AV}:mZ L (.list l f xs)= .list l f xs:=aDm
theorem bEl {L L' a b:Nat}:mZ L (.ref L' a b)=if L=L' then .dead else .ref L' a b:=aDn
theorem bEm {L L' a b:Nat}:mZ L (.ptr L' a b)=if L=L' then .dead else .ptr L' a b:=aDo
theorem bEn {L:Nat}:mZ L .dead= .dead:=aDp
theorem bEo {L:Nat} {cs:List AV}:mZ L (.tup cs)=kill1 L (.tup cs):=rfl
theorem bEp {L:Nat} {cs:List AV}:mZ L (.agg cs)=kill1 L (.agg cs):=rfl
def C4 (L:Nat) (t:List (Nat×AV)):List (Nat×AV):=t.map fun p=>(p.1,mZ L p.2)
theorem bEq {L:Nat}:C4 L []= []:=rfl
theorem bEr {L i:Nat} {a:AV} {r:List (Nat×AV)}:C4 L ((i,a)::r)=(i,mZ L a)::C4 L r:=rfl
theorem bEs {n:Nat} {t:List (Nat×AV)} {o:aF} {L:Nat} {x:AObj}:ASt.renewR ⟨n,t,o⟩ L x=⟨n,C4 L t,(L,x)::killO L (killO L (eJ o L))⟩:=rfl
def xK (d:Nat) (s:ASt) (L lo n c es:Nat) (ys:List AV):Option AObj->Option St
 |some x=>if x.arr=true/\x.fz=false/\x.pin=false/\x.kd≠1 then
  some ⟨decide (d<s.n/\(∀y∈ys,y.cells.length=es)/\x.es=es/\ys.length<=n/\ys≠ []/\lo<=x.xs.length/\lo+ys.length<=c/\lo+ys.length<=cL),(s.renewR L {x with xs:=splice x.xs ys lo}).put d (nt .i64 ys.length)⟩
  else none
 |none=>none
def R0 (d:Nat) (s:ASt) (L lo n c:Nat) (t:Option (TypeId×Nat×Nat)) (r:Option (List AV)):Option St:=match t,r with
 |some (_,es,_),some ys=>xK d s L lo n c es ys (lk s.o L)
 |_,_=>none
theorem bEt {P:Program} [Glob P] {d:Nat} {s:ASt} {t:TypeId} {L lo n c:Nat} {b:AV}:sF P t d s (some (.rc L lo n c)) (some b)=R0 d s L lo n c (bM P t) (gV s.o (oM n b)):=by
 simp only[sF,wG,zH,R0]
 cases bM P t with
 |none=>rfl
 |some q=>
  obtain⟨e,es,b'⟩:=q
  cases gV s.o (oM n b)with
  |none=>rfl
  |some ys=>simp only[xK];cases lk s.o L<;>rfl
theorem bEu {d:Nat} {s:ASt} {L lo n c e es b:Nat} {ys:List AV}:R0 d s L lo n c (some (e,es,b)) (some ys)=xK d s L lo n c es ys (lk s.o L):=rfl
theorem bEv {d:Nat} {s:ASt} {L lo n c es kd:Nat} {ys xs:List AV} {e:Nat}:xK d s L lo n c es ys (some ⟨true,false,false,e,xs,kd⟩)=if kd≠1 then
 some ⟨decide (d<s.n/\(∀y∈ys,y.cells.length=es)/\e=es/\ys.length<=n/\ys≠ []/\lo<=xs.length/\lo+ys.length<=c/\lo+ys.length<=cL),(s.renewR L ⟨true,false,false,e,splice xs ys lo,kd⟩).put d (nt .i64 ys.length)⟩else none:=by
 simp only[xK,true_and]
def uS (d:Nat) (s:ASt) (n c es bytes:Nat) (k:Int) (z:AV) (lo:Nat):Option AObj->Option St
 |some x=>if x.arr=true/\z.pure=true/\z.cells.length=es then
  some ⟨decide (d<s.n/\x.es=es/\es≠0/\lo=0/\0<k/\c<n+k.toNat/\n<=x.xs.length/\bytes≠0/\(2*(n+k.toNat)+200)*bytes<=2^48),
   s.renew d d d (gL es (bY x.xs 0 n++List.replicate k.toNat z) 0) (.ref d 0 (n+k.toNat))⟩else none
 |none=>none
def aEy (P:Program) [Glob P] (t:TypeId):Bool:=match P.underlying t with
 |some (.int _)=>true
 |_=>false
def C5 (P:Program) [Glob P] (d:Nat) (s:ASt) (L lo n c:Nat) (k:Int):Option (TypeId×Nat×Nat)->Bool->Option St
 |some (e,es,bytes),true=>match aK P e with
  |some z=>uS d s n c es bytes k z lo (lk s.o L)
  |none=>none
 |_,_=>none
theorem bEw {P:Program} [Glob P] {st xt:TypeId} {L lo n c d:Nat} {k:Int} {s:ASt}:oI P st xt (.rc L lo n c) (.sc (.int .i64 k)) d s=C5 P d s L lo n c k (bM P st) (aEy P xt):=by
 simp only[oI,yX,aEy]
 cases bM P st with
 |none=>rfl
 |some q=>
  obtain⟨e,es,bytes⟩:=q
  cases hu:P.underlying xt with
  |none=>rfl
  |some u=>
   cases u<;>simp only[C5]
   cases aK P e with
   |none=>rfl
   |some z=>simp only[uS];cases lk s.o L<;>rfl
def R1 (d:Nat) (s:ASt) (L lo n c es bytes:Nat) (k:Int):Option AV->Option St
 |some z=>uS d s n c es bytes k z lo (lk s.o L)
 |none=>none
theorem bEx {P:Program} [Glob P] {d:Nat} {s:ASt} {L lo n c e es bytes:Nat} {k:Int}:C5 P d s L lo n c k (some (e,es,bytes)) true=R1 d s L lo n c es bytes k (aK P e):=by
 simp only[C5,R1]
theorem bEy {d:Nat} {s:ASt} {L lo n c es bytes:Nat} {k:Int} {z:AV}:R1 d s L lo n c es bytes k (some z)=uS d s n c es bytes k z lo (lk s.o L):=rfl
theorem bEz {d:Nat} {s:ASt} {n c es bytes lo kd e:Nat} {k:Int} {z:AV} {fz pin:Bool} {xs:List AV}:uS d s n c es bytes k z lo (some ⟨true,fz,pin,e,xs,kd⟩)=if z.pure=true/\z.cells.length=es then
 some ⟨decide (d<s.n/\e=es/\es≠0/\lo=0/\0<k/\c<n+k.toNat/\n<=xs.length/\bytes≠0/\(2*(n+k.toNat)+200)*bytes<=2^48),
  s.renew d d d (gL es (bY xs 0 n++List.replicate k.toNat z) 0) (.ref d 0 (n+k.toNat))⟩else none:=by
 simp only[uS,true_and]
attribute [go_sem] aEx bD1 bD2 bD3 bD4 bD5 bD6 bD7 bD8 bD9 bEa bEb bEc bEd bEe bEf bEg bEh bEi bEj bEk bEl bEm bEn bEo bEp bEq bEr bEs bEt bEu bEv bEw bEx bEy bEz
theorem AWp.room {ro P c Q} [Glob P] {s:ASt} {i L n:Nat} (h:lk s.t i=some (.ref L 0 n)) (hn:n≠0) (k: ∀c',n<=c'->AWp ro P c Q {s with t:=(i,.rc L 0 n c')::s.t}):AWp ro P c Q s:=by
 intro C _ F μ a w hm hs
 have hv:=hs.slot i _ h
 generalize hv':a.tmps.getD i undef=v at hv
 cases hv with
 |refNil=>exact absurd rfl hn
 | @ref _ _ _ _ _ b cap es len o c' g1 g2 g3 g4 g5=>
  obtain rfl:=g5 rfl
  refine k c' g3 C F μ a w hm ⟨hs.sw,hs.defers,hs.n,fun j y hy=>?_⟩
  simp only[lk]at hy
  split at hy
  ·rename_i e
   subst e
   obtain rfl:=Option.some.inj hy
   rw[hv']
   exact RV.rc g1 (by omega) (fun _=>g4 (.inr rfl))
  ·exact hs.slot j y hy
theorem Le.unrc {s:ASt} (i:Nat) {L n c:Nat} {x:AObj} (h:lk s.t i=some (.rc L 0 n c)) (hx:lk s.o L=some x) (hn:n<=x.xs.length):Le {n:=s.n,t:=(i,.ref L 0 n)::s.t,o:=s.o} s:=by
 intro C F μ a w hs
 refine⟨F,μ,hs.sw,hs.defers,hs.n,fun j y hy=>?_⟩
 have hv:=hs.slot i _ h
 generalize hv':a.tmps.getD i undef=v at hv
 cases hv with
 | @rc _ _ _ _ _ b cap es len o g1 g2 g3=>
  simp only[lk]at hy
  split at hy
  ·rename_i e
   subst e
   obtain rfl:=Option.some.inj hy
   rw[hv']
   have hlen:len=x.xs.length:=by
    simp only[aE,hx,Option.map_some]at g1
    obtain⟨_,_,hl,_⟩:=dU (Option.some.inj g1)
    exact hl.symm
   exact RV.ref g1 (by omega) (by omega) (fun _=>g3 (.inl rfl)) (fun _=>rfl)
  ·exact hs.slot j y hy
theorem bE0 {P:Program} [Glob P] {f:FuncId} {fn:Func} {c:Code} {L n:Nat} {args:List AV} {o:aF} {x:AObj} {R:AV->aF->Prop} (hf:P.funcs[f]?=some fn) (hc: ∀cargs w,(callFunc f cargs).run P w= .ok (.enter f cargs) w) (hb:fn.body=some c)
 (hn:(AV.ref L 0 n::args).length<=fn.ntmps) (hx:lk o L=some x) (h0:n≠0) (h: ∀c',n<=c'->cE P c (B9 P fn.results.toList R) (nE fn.ntmps (.rc L 0 n c'::args) (gO L {x with pin:=false} o))):MCall P f (.ref L 0 n::args) o R:=by
 have hz: ∀(l:List AV) (a b:AV) (k:Nat),(((a::l).zipIdx k).map fun p=>(p.2,p.1))=(k,a)::((l.zipIdx (k+1)).map fun p=>(p.2,p.1)):=fun l a b k=>by simp[List.zipIdx_cons]
 refine aC7 hf hc hb hn ?_
 refine AWp.le (s0:= {n:=fn.ntmps,t:=(nE fn.ntmps (.ref L 0 n::args) o).t,o:=gO L {x with pin:=false} o}) ?_ (Le.unpin (s:=nE fn.ntmps (.ref L 0 n::args) o) L hx)
 refine AWp.room (i:=0) (L:=L) (n:=n) (by simp only[nE];rw[hz _ _ .dead];rfl) h0 fun c' hc'=>?_
 refine AWp.le (s0:=nE fn.ntmps (.rc L 0 n c'::args) (gO L {x with pin:=false} o)) ?_ (fun C F μ a w hs=>⟨F,μ,hs.sw,hs.defers,hs.n,fun j y hy=>hs.slot j y ?_⟩)
 ·intro C _ F μ a w hm hs
  refine wpIn_mono (pZ c _ _ (.inl rfl) (h c' hc') C F μ a w hm hs) ?_
  rintro e a' w' ⟨F',μ',s',hq,hm',hs'⟩
  have key: ∀{e},(∃s0 xs,Le s0 s'/\fM P s0 fn.results.toList=some xs/\R (gZ xs) s0.o)->(e= .normal\/e= .ret)-> ∃F' μ' s',aC5 P fn.results.toList R e s'/\Mk C w' a'.defers/\SR (C.at a'.defers) F' μ' s' a' w':=fun {e} ⟨s0,xs,hl,h1,h2⟩ he=>by
   obtain⟨F2,μ2,h3⟩:=hl _ F' μ' a' w' hs'
   refine⟨F2,μ2,s0,?_,hm',h3⟩
   rcases he with rfl|rfl<;>exact⟨xs,h1,h2⟩
  cases e with
  |normal=>exact key hq (.inl rfl)
  |ret=>exact key hq (.inr rfl)
  |_=>exact hq.elim
 ·simp only[nE]at hy ⊢
  rw[hz _ _ .dead]at hy ⊢
  simp only[lk]at hy ⊢
  by_cases hj:0=j
  ·rw[if_pos hj]at hy ⊢;exact hy
  ·rw[if_neg hj]at hy ⊢;rw[if_neg hj];exact hy
theorem bE1 {P:Program} [Glob P] {id:Nat} {ops:Array Oper} {Q:Exit->ASt->Prop} {s:ASt} (hm:P.follows .mixedOrders=true) (hs:Region.noSelect ops=true) (h:gY P ops (Q .normal) ops.size (Array.replicate ops.size false) s):cE P (.region id ops true) Q s:=⟨s,Le.refl s,hm,.inr ⟨hs,h⟩⟩
def C6 (r:Res) (d:Nat) (k:ASt->Prop) (s:ASt):Prop:=match r with
 | .v r=>r.need/\d<s.n/\k (s.put d r.val)
 |_=>False
theorem bE2 {n:Bool} {a:AV} {d:Nat} {k:ASt->Prop} {s:ASt}:C6 (.v ⟨n,a⟩) d k s=(n/\d<s.n/\k (s.put d a)):=rfl
attribute [go_sem] bE2
theorem bE3 {P:Program} [Glob P] {ops:Array Oper} {Q:ASt->Prop} {f:Nat} {X:Array Bool} {s:ASt} (l:Nat) {o:Oper} {d:Nat} (ho:ops[l]?=some o) (hr:(Region.ready .any ops X).contains l=true) (hf:Region.free .any ops X l=true) (hq:uG P o s=true) (hg:o.guard=none) (hd:o.dst=some d)
 (h:C6 (aX P o s) d (gY P ops Q f (X.setIfInBounds l true)) s):gY P ops Q (f+1) X s:=by
 unfold C6 at h
 split at h
 ·rename_i r hv
  exact .inr (.inl ⟨l,o,d,ho,hr,hf,hq,hg,hd,r,hv,h.1,h.2.1,h.2.2⟩)
 ·exact h.elim
theorem bE4 {P:Program} [Glob P] {ops:Array Oper} {Q:ASt->Prop} {f:Nat} {X:Array Bool} {s:ASt} (hr:(Region.ready .any ops X).isEmpty=true) (h:Q s):gY P ops Q f X s:=by
 have hr:Region.ready .any ops X= []:=by simpa using hr
 cases f with
 |zero=>exact⟨hr,h⟩
 |succ f=>exact .inl ⟨hr,h⟩
def R2 (P:Program) [Glob P] (ops:Array Oper) (Q:ASt->Prop) (f:Nat) (X:Array Bool) (s:ASt):Prop:= ∃s0,Le s0 s/\gY P ops Q f X s0
theorem dH {P:Program} [Glob P] {ops:Array Oper} {Q:ASt->Prop} {f:Nat} {X:Array Bool} {s:ASt} (h:gY P ops Q f X s):R2 P ops Q f X s:=⟨s,Le.refl _,h⟩
def cO (P:Program) [Glob P] (ops:Array Oper) (Q:ASt->Prop) (f:Nat) (X:Array Bool) (s:ASt) (n:Nat):Prop:= ∀i,i<n->(Region.ready .any ops X).contains i=true-> ∀o,ops[i]?=some o->gK P (fL ops o.guard s) o (R2 P ops Q f (X.setIfInBounds i true)) s
theorem dC {P:Program} [Glob P] {ops:Array Oper} {Q:ASt->Prop} {f:Nat} {X:Array Bool} {s:ASt}:cO P ops Q f X s 0:=fun i h=>by omega
theorem bE5 {P:Program} [Glob P] {ops:Array Oper} {Q:ASt->Prop} {f:Nat} {X:Array Bool} {s:ASt} {n:Nat} (hr:(Region.ready .any ops X).contains n=false) (h:cO P ops Q f X s n):cO P ops Q f X s (n+1):=fun i hi hc o ho=>by
 by_cases he:i=n
 ·subst he;rw[hr]at hc;cases hc
 ·exact h i (by omega) hc o ho
theorem dD {P:Program} [Glob P] {ops:Array Oper} {Q:ASt->Prop} {f:Nat} {X:Array Bool} {s:ASt} {n:Nat} {o:Oper} (ho:ops[n]?=some o) (h1:gK P (fL ops o.guard s) o (R2 P ops Q f (X.setIfInBounds n true)) s) (h:cO P ops Q f X s n):cO P ops Q f X s (n+1):=fun i hi hc o' ho'=>by
 by_cases he:i=n
 ·subst he;obtain rfl:=Option.some.inj (ho.symm.trans ho');exact h1
 ·exact h i (by omega) hc o' ho'
theorem bE6 {P:Program} [Glob P] {ops:Array Oper} {Q:ASt->Prop} {f:Nat} {X:Array Bool} {s:ASt} (hr:(Region.ready .any ops X).isEmpty=false) (h:cO P ops Q f X s ops.size):gY P ops Q (f+1) X s:=
 .inr (.inr ⟨fun e=>(by rw[e]at hr;cases hr),fun i hi o ho=>h i (Array.getElem?_eq_some_iff.1 ho).1 (by simpa using hi) o ho⟩)
theorem dE {P:Program} [Glob P] {ops:Array Oper} {Q:ASt->Prop} {f:Nat} {X:Array Bool} {s:ASt} (h:gY P ops Q f X s):gY P ops Q f X s:=h
theorem dF {P:Program} [Glob P] {ops:Array Oper} {Q:ASt->Prop} {f:Nat} {X:Array Bool} {s:ASt} {n:Nat} (h:cO P ops Q f X s n):cO P ops Q f X s n:=h
theorem aEz (y:AV):(loose y).cells=y.cells.map loose1:=by
 cases y<;>first|rfl|simp[loose,loose1,AV.cells]
theorem Le.looseRow {s:ASt} (L:Nat) {x:AObj} (h:lk s.o L=some x) (hk:x.kd≠1):Le {n:=s.n,t:=s.t,o:=gO L {x with xs:=x.xs.map loose} s.o} s:=by
 intro C F μ a w hs
 have hg: ∀M,lk (gO L {x with xs:=x.xs.map loose} s.o) M=if L=M then some {x with xs:=x.xs.map loose} else lk s.o M:=fun M=>by
  rw[uR (by rw[h];rfl)];rfl
 have hlo: ∀p,bU {x with xs:=x.xs.map loose} p=bU x p:=fun p=>mP (x:= {x with xs:=x.xs.map loose}) (y:=x) rfl (by simp) rfl p
 have hloc:aE (gO L {x with xs:=x.xs.map loose} s.o) μ=aE s.o μ:=by
  funext M
  simp only[aE,hg]
  by_cases hM:L=M
  ·subst hM;rw[if_pos rfl,h];simp only[Option.map_some,hlo]
  ·rw[if_neg hM]
 have hlk: ∀{M y},lk (gO L {x with xs:=x.xs.map loose} s.o) M=some y-> ∃z,lk s.o M=some z/\z.fz=y.fz/\z.pin=y.pin/\z.arr=y.arr/\(∀p,bU y p=bU z p)/\((L=M/\z=x/\y= {x with xs:=x.xs.map loose})\/z=y):=fun {M y} hy=>by
  rw[hg]at hy
  by_cases hM:L=M
  ·subst hM
   rw[if_pos rfl]at hy
   obtain rfl:=Option.some.inj hy
   exact⟨x,h,rfl,rfl,rfl,hlo,.inl ⟨rfl,rfl,rfl⟩⟩
  ·rw[if_neg hM]at hy
   exact⟨y,hy,rfl,rfl,rfl,fun _=>rfl,.inr rfl⟩
 refine⟨F,μ,⟨hs.sw.facts,hs.sw.sub,hs.sw.lentc,hs.sw.grow,hs.sw.newf,hs.sw.fr,fun M y hy=>?_,fun M y M' y' b c c' hy hy'=>?_,fun M y b c hy hm hz=>?_,fun M y b c hy=>?_,fun M y x0 h0 hy hp=>?_⟩,hs.defers,hs.n,fun i y hy=>by rw[hloc];exact hs.slot i y hy⟩
 ·obtain⟨z,h1,h2,h3,h4,h5,hcase⟩:=hlk hy
  have ho:=hs.sw.obj M z h1
  rw[hloc]
  rcases hcase with⟨rfl,rfl,rfl⟩|rfl
  ·cases hm:μ L with
   |none=>
    rw[hm]at ho
    have h0:z.xs= []:=ho
    show z.xs.map loose= []
    rw[h0];rfl
   |some p=>
    obtain⟨b,cap⟩:=p
    rw[hm]at ho
    obtain⟨c,e,q1,q2,q3,q4,q5,q6,q7⟩:=ObjAt.std ho hk
    refine .inl ⟨c,e,q1,q2,by simpa using q3,by simpa using q4,fun y hy=>?_,fun i y j a' hy hj=>?_,q7⟩
    ·obtain⟨y',hy',rfl⟩:=List.mem_map.1 hy
     rw[aEz,List.length_map]
     exact q5 y' hy'
    ·simp only[List.getElem?_map,Option.map_eq_some_iff]at hy
     obtain⟨y',hy',rfl⟩:=hy
     rw[aEz]at hj
     simp only[List.getElem?_map,Option.map_eq_some_iff]at hj
     obtain⟨a2,ha2,rfl⟩:=hj
     obtain⟨v,g1,g2,g3,g4⟩:=q6 i y' j a2 hy' ha2
     exact⟨v,g1,g2,g3.loose1,g4⟩
  ·exact ho
 ·obtain⟨z,h1,_⟩:=hlk hy
  obtain⟨z',h1',_⟩:=hlk hy'
  exact hs.sw.dist M z M' z' b c c' h1 h1'
 ·obtain⟨z,h1,h2,_⟩:=hlk hy
  exact hs.sw.excl M z b c h1 hm (by rw[h2];exact hz)
 ·obtain⟨z,h1,_⟩:=hlk hy
  exact hs.sw.mine M z b c h1
 ·obtain⟨z,h1,h2,h3,h4,h5,_⟩:=hlk hy
  have:=hs.sw.keep M z x0 h0 h1 (by rw[h3];exact hp)
  simp only[h5,<-h4]
  exact this
theorem Le.frz {s:ASt} (L:Nat) {x:AObj} (h:lk s.o L=some x) (hk:x.kd≠1):Le (s.frz L x) s:=fun C F μ a w hs=>by
 obtain⟨F',_,h2⟩:=hs.freeze h (.inr hk)
 exact⟨F',μ,h2⟩
theorem Le.alike {n:Nat} {t:List (Nat×AV)} {o1 o2:aF} (h: ∀M,Ab.lk o1 M=Ab.lk o2 M):Le ⟨n,t,o1⟩ ⟨n,t,o2⟩:=fun C F μ a w hs=>by
 have e:aE o1 μ=aE o2 μ:=funext fun M=>by unfold aE;rw[h M]
 exact⟨F,μ,⟨hs.sw.facts,hs.sw.sub,hs.sw.lentc,hs.sw.grow,hs.sw.newf,hs.sw.fr,fun M y hy=>by
  rw[e];exact hs.sw.obj M y ((h M).symm.trans hy),fun M y M' y' b c c' hy hy'=>hs.sw.dist M y M' y' b c c' ((h M).symm.trans hy) ((h M').symm.trans hy'),
  fun M y b c hy=>hs.sw.excl M y b c ((h M).symm.trans hy),fun M y b c hy=>hs.sw.mine M y b c ((h M).symm.trans hy),fun M y x0 h0 hy=>hs.sw.keep M y x0 h0 ((h M).symm.trans hy)⟩,hs.defers,hs.n,fun i y hy=>by rw[e];exact hs.slot i y hy⟩
theorem Le.frzP {n:Nat} {t:List (Nat×AV)} {o:aF} (L:Nat) {x:AObj} (h:Ab.lk o L=some x) (hk:x.kd≠1):Le ⟨n,t,gO L x.frz o⟩ ⟨n,t,o⟩:=by
 refine Le.trans (Le.alike (o2:=(L,x.frz)::o) fun M=>?_) (Le.frz (s:=⟨n,t,o⟩) L h hk)
 rw[uR (by rw[h];rfl)];rfl
theorem bE7 {arr fz pin:Bool} {es kd:Nat} {xs:List AV}:AObj.frz ⟨arr,fz,pin,es,xs,kd⟩=⟨arr,true,pin,es,xs,kd⟩:=rfl
attribute [go_sem] bE7
theorem bE8 {n:Nat} {t:List (Nat×AV)} {o:aF} {L:Nat} {arr fz pin:Bool} {es kd:Nat} {xs:List AV}:ASt.frz ⟨n,t,o⟩ L ⟨arr,fz,pin,es,xs,kd⟩=⟨n,t,(L,⟨arr,true,pin,es,xs,kd⟩)::o⟩:=rfl
attribute [go_sem] bE8
theorem bE9 {n:Nat} {a:AV}:(List.replicate n a).map loose=List.replicate n (loose a):=by simp
theorem bFa {cs:List AV}:loose (.agg cs)= .agg (cs.map loose1):=rfl
theorem bFb {v:Value}:loose1 (.sc v)= .sc v:=rfl
theorem bFc {l f:Bool} {xs:List AV}:loose1 (.list l f xs)= .list l false xs:=rfl
attribute [go_sem] bE9 bFa bFb bFc
theorem zAny {P:Program} [Glob P] {id:Nat} {ops:Array Oper} {Q:Exit->ASt->Prop} {s:ASt} (hm:P.follows .mixedOrders=true) (h:gY P ops (Q .normal) ops.size (Array.replicate ops.size false) s) (hs:Region.noSelect ops=true:=by decide+kernel):cE P (.region id ops true) Q s:=bE1 hm hs h
theorem zDone {P:Program} [Glob P] {ops:Array Oper} {Q:ASt->Prop} {f:Nat} {X:Array Bool} {s:ASt} (h:Q s) (hr:(Region.ready .any ops X).isEmpty=true:=by decide+kernel):gY P ops Q f X s:=bE4 hr h
theorem zAll {P:Program} [Glob P] {ops:Array Oper} {Q:ASt->Prop} {f:Nat} {X:Array Bool} {s:ASt} (h:cO P ops Q f X s ops.size) (hr:(Region.ready .any ops X).isEmpty=false:=by decide+kernel):gY P ops Q (f+1) X s:=bE6 hr h
theorem zQu {P:Program} [Glob P] {ops:Array Oper} {Q:ASt->Prop} {f:Nat} {X:Array Bool} {s:ASt} (l:Nat) {o:Oper} {d:Nat} (ho:ops[l]?=some o) (hq:uG P o s=true) (hg:o.guard=none) (hd:o.dst=some d) (h:C6 (aX P o s) d (gY P ops Q f (X.setIfInBounds l true)) s) (hr:(Region.ready .any ops X).contains l=true:=by decide+kernel) (hf:Region.free .any ops X l=true:=by decide+kernel):gY P ops Q (f+1) X s:=bE3 l ho hr hf hq hg hd h
theorem zSkip {P:Program} [Glob P] {ops:Array Oper} {Q:ASt->Prop} {f:Nat} {X:Array Bool} {s:ASt} {n:Nat} (h:cO P ops Q f X s n) (hr:(Region.ready .any ops X).contains n=false:=by decide+kernel):cO P ops Q f X s (n+1):=bE5 hr h
end Go.Ab
